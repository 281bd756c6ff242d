import Derived.Test.YtminfegoldgjpaaDoorGOn
set_option linter.unusedVariables false
set_option linter.unusedSimpArgs false
set_option maxRecDepth 100000
namespace Go.Proofs.YtminfegoldgjpaaDoor
open Go.RowKit Gw

/-- how many bytes a step takes, whether it takes at all, and whether what it takes is what was put -/
def sz (o : Opr) : Nat := if o.kind = 1 then 1 else if o.kind = 2 then 2 else if o.kind = 3 then 4 else if o.kind = 4 then 8 else if o.kind = 5 then o.l.length else 0
def acts (o : Opr) : Prop := o.kind = 1 ∨ o.kind = 2 ∨ o.kind = 3 ∨ o.kind = 4 ∨ o.kind = 5
instance (o : Opr) : Decidable (acts o) := by unfold acts; infer_instance
def gotB (o : Opr) (l : List UInt8) (err : Int) : Bool :=
  if o.kind = 1 then decide (got l err 1 = o.n % 256) else if o.kind = 2 then decide (got l err 2 = o.n % 65536) else if o.kind = 3 then decide (got l err 4 = o.n % 4294967296) else if o.kind = 4 then decide (got l err 8 = o.n) else
    if o.kind = 5 then decide (tkGot l err o.l.length = o.l) else true
def gotL (o : Opr) (l : List UInt8) (err : Int) : List UInt8 := if acts o then tkRest l err (sz o) else l
def gotE (o : Opr) (l : List UInt8) (err : Int) : Int := if acts o then tkErr l err (sz o) else err

theorem wip_convert_int {P : Program} {src dst : TypeId} {d : TypeDesc} {k j : IntKind} {n : Int} (hs : P.underlying src = some d) (hd : P.underlying dst = some (.int k)) : WIP P (convert src dst (.int j n)) := by
  have hr : ∀ w, (convert src dst (.int j n)).run P w = .ok (.int k (k.wrap n)) w := fun w => by
    unfold convert
    rw [Sem.run_bind, run_underlying hs w]
    simp only [Result.andThen_ok]
    rw [Sem.run_bind, run_underlying hd w]
    simp only [Result.andThen_ok]
    rfl
  intro w w1 v h
  rw [hr] at h
  cases h
  exact ⟨rfl, hr⟩
theorem again_conv {P : Program} {o : Oper} {a : Act} {w w' : World} {src dst : TypeId} {d : TypeDesc} {k j : IntKind} {n : Int} {x : Operand} (hs : P.underlying src = some d) (hd : P.underlying dst = some (.int k)) (ho : o.op = .convert src dst x) (hx : a.eval x = .int j n) : Again P o a w w' := by
  refine again_wi ?_
  unfold execOp
  rw [ho]
  dsimp only
  rw [hx]
  exact wi_value (wip_convert_int hs hd)

theorem dec_int {a b : Nat} {x : Int} (h : x = b) : ((a : Int) == x) = decide (a = b) := by
  subst h
  by_cases e : a = b
  · simp [e]
  · rw [decide_eq_false e]
    exact beq_eq_false_iff_ne.2 (by omega)

end Go.Proofs.YtminfegoldgjpaaDoor
