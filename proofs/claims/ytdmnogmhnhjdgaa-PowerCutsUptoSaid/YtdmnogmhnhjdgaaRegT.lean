import Derived.Test.YtdmnogmhnhjdgaaGMem
/-! Regions in which two effects may come in either order: one walk of each of two scripts serves every order. No program is named here. -/
set_option linter.unusedVariables false
set_option linter.unusedSimpArgs false
set_option maxRecDepth 100000
namespace Go.Proofs.Ytdmnogmhnhjdgaa.Gw
open Go

section
variable {P : Program} {ops : Array Oper} {Q : Exit → Act → World → Prop}
def looseB (ops : Array Oper) (ps : Nat → Nat) (u v : Nat) (x y : Stp) : Bool :=
  match ops[x.i]?, ops[y.i]? with
  | some ox, some _ => decide (ps x.i < ps y.i) && ox.after.all (fun e => !(Region.binds .any e) || e.on != y.i) && (x.i == u && y.i == v)
  | _, _ => false
def pairW (P : Program) (ops : Array Oper) (T : List Nat) (ps : Nat → Nat) (u v : Nat) (x y : Stp) : Bool := pairB P ops T ps x y || looseB ops ps u v x y
def pairsW (P : Program) (ops : Array Oper) (T : List Nat) (ps : Nat → Nat) (u v : Nat) : List Stp → Bool
  | [] => true
  | x :: r => r.all (pairW P ops T ps u v x) && pairsW P ops T ps u v r
def scriptW (P : Program) (ops : Array Oper) (u v : Nat) (l : List Stp) : Bool :=
  Region.noSelect ops && pairsW P ops (ancs ops.toList []) (pos l) u v l && (List.range ops.size).all (fun i => l.any fun s => s.i == i) &&
    (l.all fun s => match ops[s.i]? with
      | some o => o.after.all (fun e => e.on != s.i && decide (e.on < ops.size)) && (!s.q || plainOp o.op)
      | none => false) &&
    l.all fun s => s.q || s.i == u || s.i == v || (Ord (ancs ops.toList []) u s.i && Ord (ancs ops.toList []) v s.i)
theorem pairsW_spec {T : List Nat} {ps : Nat → Nat} {u v : Nat} : ∀ {l : List Stp}, pairsW P ops T ps u v l = true → l.Pairwise fun x y => pairW P ops T ps u v x y = true
  | [], _ => List.Pairwise.nil
  | x :: r, h => by
    simp only [pairsW, Bool.and_eq_true, List.all_eq_true] at h
    exact List.Pairwise.cons h.1 (pairsW_spec h.2)
theorem pairB_lt {T : List Nat} {ps : Nat → Nat} {x y : Stp} (h : pairB P ops T ps x y = true) : ps x.i < ps y.i := by
  unfold pairB at h
  split at h
  · simp only [Bool.and_eq_true, decide_eq_true_eq] at h; exact h.1.1
  · cases h
theorem pairB_after {T : List Nat} {ps : Nat → Nat} {x y : Stp} {ox : Oper} (hx : ops[x.i]? = some ox) (h : pairB P ops T ps x y = true) : ∀ e ∈ ox.after, Region.binds .any e = true → e.on ≠ y.i := by
  unfold pairB at h
  cases hy : ops[y.i]? with
  | none => simp [hx, hy] at h
  | some oy =>
    simp only [hx, hy, Bool.and_eq_true] at h
    intro e he hb heq
    have := Array.all_eq_true_iff_forall_mem.1 h.1.2 e he
    simp [hb, heq] at this
theorem looseB_parts {ps : Nat → Nat} {u v : Nat} {x y : Stp} {ox : Oper} (hx : ops[x.i]? = some ox) (h : looseB ops ps u v x y = true) : ps x.i < ps y.i ∧ (∀ e ∈ ox.after, Region.binds .any e = true → e.on ≠ y.i) ∧ x.i = u ∧ y.i = v := by
  unfold looseB at h
  cases hy : ops[y.i]? with
  | none => simp [hx, hy] at h
  | some oy =>
    simp only [hx, hy, Bool.and_eq_true, decide_eq_true_eq, beq_iff_eq] at h
    refine ⟨h.1.1, fun e he hb heq => ?_, h.2.1, h.2.2⟩
    have := Array.all_eq_true_iff_forall_mem.1 h.1.2 e he
    simp [hb, heq] at this
theorem pairW_lt {T : List Nat} {ps : Nat → Nat} {u v : Nat} {x y : Stp} {ox : Oper} (hx : ops[x.i]? = some ox) (h : pairW P ops T ps u v x y = true) : ps x.i < ps y.i := by
  unfold pairW at h
  simp only [Bool.or_eq_true] at h
  exact h.elim pairB_lt fun h => (looseB_parts hx h).1
theorem pairW_after {T : List Nat} {ps : Nat → Nat} {u v : Nat} {x y : Stp} {ox : Oper} (hx : ops[x.i]? = some ox) (h : pairW P ops T ps u v x y = true) : ∀ e ∈ ox.after, Region.binds .any e = true → e.on ≠ y.i := by
  unfold pairW at h
  simp only [Bool.or_eq_true] at h
  exact h.elim (pairB_after hx) fun h => (looseB_parts hx h).2.1
theorem pairW_tight {T : List Nat} {ps : Nat → Nat} {u v : Nat} {x y : Stp} {ox : Oper} (hx : ops[x.i]? = some ox) (h : pairW P ops T ps u v x y = true) (hn : x.i ≠ u ∨ y.i ≠ v) : pairB P ops T ps x y = true := by
  unfold pairW at h
  simp only [Bool.or_eq_true] at h
  rcases h with h | h
  · exact h
  · have := looseB_parts hx h
    exact (hn.elim (fun h => h this.2.2.1) (fun h => h this.2.2.2)).elim
theorem dc_set {listed : Array Bool} {y : Nat} {o : Oper} (ho : ops[y]? = some o) (hdeps : ∀ e ∈ o.after, Region.binds .any e = true → listed.getD e.on false = true) (hdc : DC ops listed) : DC ops (listed.setIfInBounds y true) := by
  intro j oj hoj hj e he hb
  by_cases hjy : y = j
  · subst hjy
    rw [ho] at hoj; cases hoj
    exact getD_set_true (hdeps e he hb)
  · rw [getD_set_ne false hjy] at hj
    exact getD_set_true (hdc j oj hoj hj e he hb)
end
end Go.Proofs.Ytdmnogmhnhjdgaa.Gw
