import Derived.Test.YtkedbphdflhhlaaOps
/-! Guarded steps of a region that draws: decided by what lies in the guard's own place. -/
set_option linter.unusedVariables false
set_option linter.unusedSimpArgs false
set_option maxRecDepth 100000
namespace Go.Proofs.Ytkedbphdflhhlaa.Gw
open Go
section
variable {P : Program} {ops : Array Oper} {Q : Exit → Act → World → Prop}
theorem wanted_g {o g : Oper} {a : Act} {gi d : Nat} {gb b : Bool} (hg : o.guard = some (gi, gb)) (hgo : ops.toList[gi]? = some g) (hd : g.dst = some d) (ht : a.tmps.toList[d]? = some (.bool b)) :
    Region.wanted o (yielded ops a.tmps) = (b == gb) := by
  rw [Array.getElem?_toList] at hgo ht
  unfold Region.wanted
  rw [hg]
  dsimp only
  unfold yielded
  rw [hgo]
  simp only [Option.bind_some, hd, ht]
  cases b <;> cases gb <;> rfl
theorem wpT_n {i : Nat} {held : List Nat} {o : Oper} {rest : List Stp} {a : Act} {w : World} (ho : ops.toList[i]? = some o) (hg : o.guard = none)
    (h : ∀ K : Act → World → Prop, (∀ a', WpT P ops Q rest a' w → K a' w) → o.wp P a w K (fun _ _ _ => False)) : WpT P ops Q (⟨i, true, held⟩ :: rest) a w :=
  wpT_q ho (by unfold Region.wanted; rw [hg]) h
theorem wpT_gq {i gi d : Nat} {gb : Bool} {held : List Nat} {o g : Oper} {rest : List Stp} {a : Act} {w : World} (ho : ops.toList[i]? = some o) (hg : o.guard = some (gi, gb)) (hgo : ops.toList[gi]? = some g) (hd : g.dst = some d) (ht : a.tmps.toList[d]? = some (.bool gb))
    (h : ∀ K : Act → World → Prop, (∀ a', WpT P ops Q rest a' w → K a' w) → o.wp P a w K (fun _ _ _ => False)) : WpT P ops Q (⟨i, true, held⟩ :: rest) a w :=
  wpT_q ho (by rw [wanted_g hg hgo hd ht]; simp) h
theorem wpT_gs {i : Nat} {q : Bool} {held : List Nat} {gi d : Nat} {gb b : Bool} {o g : Oper} {rest : List Stp} {a : Act} {w : World} (ho : ops.toList[i]? = some o) (hg : o.guard = some (gi, gb)) (hgo : ops.toList[gi]? = some g) (hd : g.dst = some d) (ht : a.tmps.toList[d]? = some (.bool b)) (hb : (b == gb) = false)
    (h : WpT P ops Q rest (a.put o.dst undef) w) : WpT P ops Q (⟨i, q, held⟩ :: rest) a w :=
  wpT_skip (s := ⟨i, q, held⟩) ho (by rw [wanted_g hg hgo hd ht]; exact hb) h
theorem wpT_gk {i : Nat} {q : Bool} {held : List Nat} {gi d : Nat} {gb b : Bool} {o g : Oper} {rest : List Stp} {a : Act} {w : World} (ho : ops.toList[i]? = some o) (hg : o.guard = some (gi, gb)) (hgo : ops.toList[gi]? = some g) (hd : g.dst = some d) (ht : a.tmps.toList[d]? = some (.bool b)) (hb : (b == gb) = false)
    (h : ∀ K : Act → World → Prop, (∀ a', WpT P ops Q rest a' w → K a' w) → K (a.put o.dst undef) w) : WpT P ops Q (⟨i, q, held⟩ :: rest) a w :=
  wpT_gs ho hg hgo hd ht hb (h (fun a' w' => w' = w → WpT P ops Q rest a' w) (fun _ h _ => h) rfl)
theorem wanted_u {o g : Oper} {a : Act} {gi d : Nat} {gb : Bool} (hg : o.guard = some (gi, gb)) (hgo : ops.toList[gi]? = some g) (hd : g.dst = some d) (ht : a.tmps.toList[d]? = some undef) :
    Region.wanted o (yielded ops a.tmps) = false := by
  rw [Array.getElem?_toList] at hgo ht
  unfold Region.wanted
  rw [hg]
  dsimp only
  unfold yielded
  rw [hgo]
  simp only [Option.bind_some, hd, ht]
  cases gb <;> rfl
theorem wpT_gu {i : Nat} {q : Bool} {held : List Nat} {gi d : Nat} {gb : Bool} {o g : Oper} {rest : List Stp} {a : Act} {w : World} (ho : ops.toList[i]? = some o) (hg : o.guard = some (gi, gb)) (hgo : ops.toList[gi]? = some g) (hd : g.dst = some d) (ht : a.tmps.toList[d]? = some undef)
    (h : ∀ K : Act → World → Prop, (∀ a', WpT P ops Q rest a' w → K a' w) → K (a.put o.dst undef) w) : WpT P ops Q (⟨i, q, held⟩ :: rest) a w :=
  wpT_skip (s := ⟨i, q, held⟩) ho (wanted_u hg hgo hd ht) (h (fun a' w' => w' = w → WpT P ops Q rest a' w) (fun _ h _ => h) rfl)
theorem wpT_gcallh {i j gi d' : Nat} {gb : Bool} {held : List Nat} {f : FuncId} {xs : Array Operand} {ts : Array TypeId} {dst : Option Tmp} {ty : TypeId} {ps : String} {af : Array Edge} {g : Oper} {rest : List Stp} {a : Act} {w : World}
    (ho : ops.toList[i]? = some { dst := dst, op := .call { callee := .value (.func f), args := xs, argTypes := ts }, type := ty, pos := ps, after := af, guard := some (gi, gb) })
    (hgo : ops.toList[gi]? = some g) (hd : g.dst = some d') (ht : a.tmps.toList[d']? = some (.bool gb))
    (h : ∀ K : Act → World → Prop, (∀ a' w', Agains P ops a w w' (j :: held) ∧ WpT P ops Q rest a' w' → K a' w') → Oper.wp P { dst := dst, op := .call { callee := .value (.func f), args := xs, argTypes := ts }, type := ty, pos := ps, after := af, guard := some (gi, gb) } a w K (NoPanic Q)) :
    WpT P ops Q (⟨i, false, j :: held⟩ :: rest) a w := wpT_callh ho (by rw [wanted_g rfl hgo hd ht]; simp) h
theorem wpT_ge0 {i gi d : Nat} {gb : Bool} {o g : Oper} {rest : List Stp} {a : Act} {w : World} (ho : ops.toList[i]? = some o) (hg : o.guard = some (gi, gb)) (hgo : ops.toList[gi]? = some g) (hd : g.dst = some d) (ht : a.tmps.toList[d]? = some (.bool gb))
    (h : ∀ K : Act → World → Prop, (∀ a' w', WpT P ops Q rest a' w' → K a' w') → o.wp P a w K (NoPanic Q)) : WpT P ops Q (⟨i, false, []⟩ :: rest) a w :=
  wpT_e0 ho (by rw [wanted_g hg hgo hd ht]; simp) h
theorem again_const {P : Program} {o : Oper} {a : Act} {w w' : World} {v : Value} (h : ∀ w, (execOp a.eval o).run P w = .ok (.value v) w) : Again P o a w w' := by
  intro u hu
  rw [h] at hu ⊢
  cases hu
  rfl
theorem wpT_gcall {i gi d' : Nat} {gb : Bool} {f : FuncId} {xs : Array Operand} {ts : Array TypeId} {dst : Option Tmp} {ty : TypeId} {ps : String} {af : Array Edge} {g : Oper} {rest : List Stp} {a : Act} {w : World}
    (ho : ops.toList[i]? = some { dst := dst, op := .call { callee := .value (.func f), args := xs, argTypes := ts }, type := ty, pos := ps, after := af, guard := some (gi, gb) })
    (hgo : ops.toList[gi]? = some g) (hd : g.dst = some d') (ht : a.tmps.toList[d']? = some (.bool gb))
    (h : ∀ K : Act → World → Prop, (∀ a' w', WpT P ops Q rest a' w' → K a' w') → Oper.wp P { dst := dst, op := .call { callee := .value (.func f), args := xs, argTypes := ts }, type := ty, pos := ps, after := af, guard := some (gi, gb) } a w K (NoPanic Q)) :
    WpT P ops Q (⟨i, false, []⟩ :: rest) a w := wpT_call ho (by rw [wanted_g rfl hgo hd ht]; simp) h
end
end Go.Proofs.Ytkedbphdflhhlaa.Gw
