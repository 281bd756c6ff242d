import Derived.Test.YtdmnogmhnhjdgaaGreatRowG
/-! PowerCuts. -/
set_option linter.unusedVariables false
set_option linter.unusedSimpArgs false
set_option maxRecDepth 100000
namespace Go.Proofs.YtdmnogmhnhjdgaaGreat
open Go.RowKit Gw

theorem Ps.keep {W w w' : World} {p q : Nat} {v : Pv} {L M : List Nat} (h : Ps W w p q v L) (hm : Mod M w w') (hp : ∀ g ∈ M, g ∉ p :: L) (hg : ∀ g ∈ M, W.heap.size ≤ g) : Ps W w' p q v L :=
  ⟨h.d.mod hm (fun hh => hp p hh List.mem_cons_self) (fun b hb hh => hp b hh (List.mem_cons_of_mem _ hb)), h.m.fresh hm hg, h.p1, h.l1⟩
/-- a device, and a disk that holds the same -/
structure Cut (W w : World) (u : Nat) (Lu : List Nat) (p q : Nat) (v : Pv) (L : List Nat) : Prop where
  u : Dk w u v.m Lu
  d : Ps W w p q v L
  uo : ∀ k ∈ Lu, W.heap.size ≤ k
  ap : ∀ k ∈ Lu, k ∉ p :: L
/-- how far it is -/
structure StA (n : Int) (v : Pv) (dn : Nat) : Prop where
  cnt : v.n = dn
  st : (v.off = false ∧ (n < 0 → v.ar = -1) ∧ (0 ≤ n → v.ar = n - dn ∧ (dn : Int) ≤ n)) ∨ (v.off = true ∧ 0 ≤ n ∧ n = dn)
theorem askV_go {v : Pv} {o : Pop} (h : v.go = true) : askV v o = v.md.at (doM v.m o) := by
  unfold askV doM Pv.wr Pv.sy
  by_cases h1 : o.k = 1
  · rw [if_pos h1, if_pos h1, if_pos h]
  · rw [if_neg h1, if_neg h1]
    by_cases h2 : o.k = 2
    · rw [if_pos h2, if_pos h2, Pv.at_md]
    · rw [if_neg h2, if_neg h2, if_pos h]
theorem askV_no {v : Pv} {o : Pop} (h : v.go = false) : askV v o = v.md := by
  unfold askV Pv.wr Pv.sy
  rw [h]
  simp
theorem askB_go {v : Pv} {o : Pop} (h : v.go = true) : askB v o = doB v.m o := by
  unfold askB doB Pv.rd
  rw [if_pos h]
theorem askB_no {v : Pv} {o : Pop} (h : v.go = false) : askB v o = [] := by
  unfold askB Pv.rd
  rw [h]
  simp
theorem e_go {v : Pv} (h : v.go = true) (x : Int) : v.e x = x := if_pos h
theorem e_no {v : Pv} (h : v.go = false) (x : Int) : v.e x = 60 := by unfold Pv.e; rw [h]; rfl
theorem StA.stop {n : Int} {v : Pv} {dn : Nat} (h : StA n v dn) (h0 : 0 ≤ n) (h1 : n ≤ dn) : v.go = false ∧ v.md.off = true ∧ StA n v.md dn := by
  obtain ⟨hn, hs⟩ := h
  rcases hs with ⟨a, _, c⟩ | ⟨a, b, c⟩
  · obtain ⟨c1, c2⟩ := c h0
    have har : v.ar = 0 := by omega
    refine ⟨by unfold Pv.go; simp [har], ?_, ?_, ?_⟩
    · unfold Pv.md; rw [if_neg (by rw [a]; decide), if_pos har]
    · unfold Pv.md; rw [if_neg (by rw [a]; decide), if_pos har]; exact hn
    · unfold Pv.md; rw [if_neg (by rw [a]; decide), if_pos har]; exact .inr ⟨rfl, h0, by omega⟩
  · have e : v.md = v := by unfold Pv.md; rw [if_pos a]
    exact ⟨by unfold Pv.go; simp [a], by rw [e]; exact a, by rw [e]; exact ⟨hn, .inr ⟨a, b, c⟩⟩⟩
theorem StA.next {n : Int} {v : Pv} {dn : Nat} (h : StA n v dn) (h1 : ¬ (0 ≤ n ∧ n ≤ dn)) (m : Dm) : v.go = true ∧ (v.md.at m).off = false ∧ StA n (v.md.at m) (dn + 1) := by
  obtain ⟨hn, hs⟩ := h
  rcases hs with ⟨a, b, c⟩ | ⟨a, b, c⟩
  · have har : v.ar ≠ 0 := by
      by_cases h0 : 0 ≤ n
      · have := c h0; omega
      · have := b (by omega); omega
    have e : v.md = ⟨v.m, false, if 0 < v.ar then v.ar - 1 else v.ar, v.n + 1⟩ := by unfold Pv.md; rw [if_neg (by rw [a]; decide), if_neg har]
    refine ⟨by unfold Pv.go; simp [a, har], by rw [e]; rfl, ?_, ?_⟩
    · rw [e]; show v.n + 1 = dn + 1; omega
    · rw [e]
      refine .inl ⟨rfl, fun h0 => ?_, fun h0 => ?_⟩
      · have := b h0
        show (if 0 < v.ar then v.ar - 1 else v.ar) = -1
        rw [if_neg (by omega)]; exact this
      · have := c h0
        show (if 0 < v.ar then v.ar - 1 else v.ar) = n - ((dn + 1 : Nat) : Int) ∧ ((dn + 1 : Nat) : Int) ≤ n
        rw [if_pos (by omega)]
        omega
  · exact absurd ⟨b, by omega⟩ h1
theorem doM_rows (m : Dm) (o : Pop) : (doM m o).row.length ≤ m.row.length + 1 := by
  unfold doM
  split
  · unfold wrM
    split
    · simp [Dm.write]
    · omega
  · split
    · omega
    · simp [Dm.sync, Dm.settle]
theorem may_small (s : Nat) (h1 : 1 ≤ s) (h2 : s ≤ 8) (z : Nat) (hz : z = 64 ∨ z = 128) : mayD s z = true := by
  have hs : s = 1 ∨ s = 2 ∨ s = 3 ∨ s = 4 ∨ s = 5 ∨ s = 6 ∨ s = 7 ∨ s = 8 := by omega
  rcases hs with rfl | rfl | rfl | rfl | rfl | rfl | rfl | rfl <;> rcases hz with rfl | rfl <;> decide
theorem Pops.ext {w w' : World} {v : Value} {os : List Pop} (h : Sl w 6 v os.length (os.flatMap Pop.cells)) (hm : Mod [] w w') : Sl w' 6 v os.length (os.flatMap Pop.cells) := Sl.ext h hm
theorem take_flat (os : List Pop) (n : Nat) : (os.flatMap Pop.cells).take (n * 6) = (os.take n).flatMap Pop.cells := by
  induction n generalizing os with
  | zero => simp
  | succ n ih =>
    cases os with
    | nil => simp
    | cons o os =>
      rw [List.flatMap_cons, List.take_succ_cons, List.flatMap_cons]
      have hl : o.cells.length = 6 := rfl
      rw [show (n + 1) * 6 = o.cells.length + n * 6 by rw [hl]; omega, List.take_length_add_append, ih]
theorem pops_take {w : World} {ao : Option Addr} {cap k : Nat} {os : List Pop} (h : Sl w 6 (.slice ao os.length cap) os.length (os.flatMap Pop.cells)) (hk : k ≤ os.length) : Sl w 6 (.slice ao k cap) (os.take k).length ((os.take k).flatMap Pop.cells) := by
  obtain ⟨ao', cap', hv, hl, hc, hm, h0, hsp⟩ := h
  injection hv with e1 e2 e3
  subst e1 e3
  have hlen : (os.take k).length = k := by rw [List.length_take]; omega
  rw [hlen]
  refine ⟨ao, cap, rfl, by rw [plen6, hlen], by omega, hm, ?_, fun ad had => ?_⟩
  · intro hh; exact h0 hh
  · obtain ⟨q1, q2⟩ := hsp ad had
    refine ⟨q1, fun j u hj => ?_⟩
    rw [← take_flat] at hj
    have hjl := (List.getElem?_eq_some_iff.1 hj).1
    rw [List.length_take] at hjl
    rw [List.getElem?_take_of_lt (by omega)] at hj
    exact q2 j u hj
end Go.Proofs.YtdmnogmhnhjdgaaGreat
