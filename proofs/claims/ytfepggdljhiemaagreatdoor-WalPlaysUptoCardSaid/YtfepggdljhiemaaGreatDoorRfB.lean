import Derived.Test.YtfepggdljhiemaaGreatDoorRfA
import Derived.Test.YtfepggdljhiemaaGreatDoorGMem
import Derived.OrdersIn
import Derived.WalkMore
/-! A round's body is walked by the laws of the plain walk: at the wide fence. No program is named here. -/
set_option linter.unusedVariables false
set_option linter.unusedSimpArgs false
set_option maxRecDepth 100000
namespace Go.Proofs.YtfepggdljhiemaaGreatDoor.Gw
open Go Go.RowKit

/-- the fence of a round that asks nothing -/
abbrev Rnd (l : Nat) : Fence := Fence.wide.inRound l
theorem callsIn_rnd {l n : Nat} {P : Program} {f : FuncId} {args : Array Value} {w : World} {R : Ending → World → Prop} (h : Calls P f args w R) : CallsIn (Rnd l) n P f args w R :=
  CallsIn.inRound l (callsIn_wide.2 h)
theorem rowsIn_rnd {l n : Nat} {P : Program} {f : String} {args : Array Value} {w : World} {R : Value → World → Prop} (h : Rows P f args w R) : RowsIn (Rnd l) n P f args w R :=
  fun c cs _ => let ⟨v, w', r, s⟩ := h c cs; ⟨v, w', r, stepsIn_wide.2 s⟩
/-- a call of a function with a body enters it -/
theorem ent {P : Program} {f : FuncId} {fn : Func} {c : Code} (hf : P.funcs[f]? = some fn) (hn : (fn.name == "runtime.NumGoroutine") = false) (hb : fn.body = some c) : ∀ args w, (callFunc f args).run P w = .ok (.enter f args) w := by
  intro args w
  have h1 : fn.name ≠ "runtime.NumGoroutine" := by simpa using hn
  simp [callFunc, hf, h1, hb, mark]
def noDefer (ops : Array Oper) : Bool := ops.all fun o => match o.op with | .defer _ => false | _ => true
theorem noDefer_at {ops : Array Oper} (h : noDefer ops = true) {o : Oper} (ho : o ∈ ops) : ∀ c, o.op ≠ .defer c := fun c hc => by
  have := Array.all_eq_true_iff_forall_mem.1 h o ho
  rw [hc] at this
  cases this
section
variable {P : Program} {ops : Array Oper} {Q : Exit → Act → World → Prop} {a : Act} {w : World} {l n : Nat} {rest : List Oper} {o : Oper}
/-- a fence that asks nothing -/
structure Wd (F : Fence) : Prop where
  fn : ∀ f, F.fn f
  depth : F.depth = none
  calls : ∀ {n : Nat} {P : Program} {f : FuncId} {args : Array Value} {w : World} {R : Ending → World → Prop}, Calls P f args w R → CallsIn F n P f args w R
  rows : ∀ {n : Nat} {P : Program} {f : String} {args : Array Value} {w : World} {R : Value → World → Prop}, Rows P f args w R → RowsIn F n P f args w R
theorem wd_wide : Wd Fence.wide := ⟨fun _ => trivial, rfl, fun h => callsIn_wide.2 h, fun h => rowsIn_rnd (l := 0) h⟩
theorem wd_rnd (l : Nat) : Wd (Rnd l) := ⟨fun _ => trivial, rfl, callsIn_rnd, rowsIn_rnd⟩
variable {F : Fence}
theorem wpIn_of_wp (hF : Wd F) {K : Act → World → Prop} (hd : ∀ c, o.op ≠ .defer c) (h : o.wp P a w K Q) : o.wpIn F n P a w K Q := by
  refine ⟨fun _ _ => hF.fn _, ?_⟩
  unfold Oper.wp at h
  rw [Oper.semAt_eq _ _ _ hd]
  generalize (execOp a.eval o).run P w = r at h ⊢
  have hdp : F.depth.isSome = true → 1 ≤ n := fun hh => by rw [hF.depth] at hh; cases hh
  cases r with
  | ok x w' =>
    cases x with
    | enter f args => exact ⟨hdp, hF.calls h⟩
    | row r args => exact ⟨hdp, hF.rows h⟩
    | _ => first | exact h | exact (h : False).elim
  | halt x w' => cases x <;> exact h
/-- Where the walk in a fence stops: an operation that wants a law. -/
def StopIn (F : Fence) (n : Nat) (P : Program) (ops : Array Oper) (Q : Exit → Act → World → Prop) (L : List Oper) (a : Act) (w : World) : Prop := wpListIn F n P ops Q L a w
theorem StopIn.go (hF : Wd F) (hg : o.guard = none) (hd : ∀ c, o.op ≠ .defer c) (h : ∀ K : Act → World → Prop, (∀ a w, wpListIn F n P ops Q rest a w → K a w) → o.wp P a w K Q) : StopIn F n P ops Q (o :: rest) a w :=
  wpListIn_plain hg fun K hK => wpIn_of_wp hF hd (h K hK)
variable {d : Option Tmp} {ty : TypeId} {ps : String} {af : Array Edge} {gd : Option (Nat × Bool)}
theorem si_alloc {t : TypeId} (h : StopIn F n P ops Q ({ dst := d, op := .alloc t, type := ty, pos := ps, after := af, guard := gd } :: rest) a w) : wpListIn F n P ops Q ({ dst := d, op := .alloc t, type := ty, pos := ps, after := af, guard := gd } :: rest) a w := h
theorem si_store {t : TypeId} {x y : Operand} (h : StopIn F n P ops Q ({ dst := d, op := .store t x y, type := ty, pos := ps, after := af, guard := gd } :: rest) a w) : wpListIn F n P ops Q ({ dst := d, op := .store t x y, type := ty, pos := ps, after := af, guard := gd } :: rest) a w := h
theorem wpOpIn_of (hd : noDefer ops = true) (hQ : ¬ LetsOut Q) {i : Nat} {K K' : Act → World → Prop} (hk : ∀ a w, K a w → K' a w) (h : wpOp P ops Q i K a w) : wpOpIn (Rnd l) n P ops Q i K' a w := by
  unfold wpOp at h
  unfold wpOpIn
  split at h
  · rename_i ho; simp only [ho]; exact hk _ _ h
  · rename_i o ho
    simp only [ho]
    have hm : o ∈ ops := Array.mem_of_getElem? ho
    split at h
    · rename_i hw
      rw [if_pos hw]
      rcases h with h | h
      · exact Oper.wpIn_mono hk (wpIn_of_wp (wd_rnd l) (noDefer_at hd hm) h)
      · exact absurd h.2 hQ
    · rename_i hw
      rw [if_neg hw]
      exact ⟨fun _ _ => trivial, hk _ _ h⟩
theorem wpAnyIn_of {md : Region.Mode} (hd : noDefer ops = true) (hQ : ¬ LetsOut Q) : ∀ (fuel : Nat) (listed : Array Bool) (a : Act) (w : World), wpAny P md ops Q fuel listed a w → wpAnyIn (Rnd l) n P md ops Q fuel listed a w
  | 0, _, _, _, h => h
  | fuel + 1, _, _, _, h => ⟨h.1, fun i hi => wpOpIn_of hd hQ (fun a w h => wpAnyIn_of hd hQ fuel _ a w h) (h.2 i hi)⟩
/-! a scope through which the run goes without a goto -/
theorem stepR_scope {b : Frame} {k : List Item} {cs : List Frame} {c : Code} : step P (lone (b.atR a (.code (.scope c) :: k)) cs w) = .next (lone (b.atR a (.code c :: .inScope c :: k)) cs w) :=
  step_lone_go (by simp [stepG, stepG.exec, Frame.atR])
theorem stepR_inScope {b : Frame} {k : List Item} {cs : List Frame} {c : Code} : step P (lone (b.atR a (.inScope c :: k)) cs w) = .next (lone (b.atR a k) cs w) :=
  step_lone_go (by simp [stepG, stepG.exec, Frame.atR])
theorem wpIn_scope_straight {F : Fence} {c : Code} (h : c.wpIn F n P (Exit.noGoto Q) a w) : (Code.scope c).wpIn F n P Q a w := by
  intro b k cs hro hb hr
  have h0 : (lone (b.atR a (.code (.scope c) :: k)) cs w).fenced P F := fenced_calm hb hr rfl
  obtain ⟨e, a₁, w₁, hq, harr⟩ := h b (.inScope c :: k) cs hro hb hr
  cases e with
  | normal => exact ⟨.normal, a₁, w₁, hq, .head h0 stepR_scope (StepsIn.trans harr (.one (fenced_calm hb hr rfl) stepR_inScope))⟩
  | exit id =>
    have hx : exitTo id (.inScope c :: k) = exitTo id k := by simp [exitTo]
    exact ⟨.exit id, a₁, w₁, hq, fun k' hk => .head h0 stepR_scope (harr.1 k' (by rw [hx]; exact hk)),
      fun hr' hk => let ⟨k₁, h1, h2⟩ := harr.2 hr' (by rw [hx]; exact hk); ⟨k₁, h1, .head h0 stepR_scope h2⟩⟩
  | goto l => exact hq.elim
  | ret => exact ⟨_, a₁, w₁, hq, .of_steps (.one h0 stepR_scope) harr⟩
  | panic ch => exact ⟨_, a₁, w₁, hq, .of_steps (.one h0 stepR_scope) harr⟩
  | outgrown => exact ⟨_, a₁, w₁, hq, .of_steps (.one h0 stepR_scope) harr⟩
/-- A region that draws its order, in a round. -/
theorem wpIn_region_T {id : Nat} (L : List Stp) (hm : P.follows .mixedOrders = true) (hB : scriptB P ops L = true) (hd : noDefer ops = true) (hQ : ¬ LetsOut Q)
    (h : WpT P ops Q L a w.drew) : (Code.region id ops true).wpIn (Rnd l) n P Q a w := by
  refine wpIn_mono (Q := NoPanic Q) (wpIn_region_any hm ?_) NoPanic.imp
  exact wpAnyIn_of (Q := NoPanic Q) hd (fun ⟨a, w, h⟩ => hQ ⟨a, w, h⟩) _ _ _ _ (wpAny_T L hB h)
end
end Go.Proofs.YtfepggdljhiemaaGreatDoor.Gw
