import Derived.Test.YtdmnogmhnhjdgaaGreatDkL
/-! A call of a disk and of the reference's: they tell the same. -/
set_option linter.unusedVariables false
set_option linter.unusedSimpArgs false
set_option maxRecDepth 100000
namespace Go.Proofs.YtdmnogmhnhjdgaaGreat
open Go.RowKit Gw

theorem nil_neq (w : World) : (binOp .neq 25 (.pointer none) (.pointer none)).run Tryz.prog w = .ok (.bool false) w := by rfl
theorem bool_eql (w : World) : (binOp .eql 4 (.bool false) (.bool false)).run Tryz.prog w = .ok (.bool true) w ∧ (binOp .eql 4 (.bool true) (.bool true)).run Tryz.prog w = .ok (.bool true) w := ⟨by rfl, by rfl⟩
/-- how many bytes an operation writes -/
def opN (le : Int) (sz : Nat) : Nat := if pick le 16 = 15 then (pick le 200).toNat else sz
theorem opN_le {le : Int} {sz : Nat} (h : sz ≤ 4096) : opN le sz ≤ 4096 := by
  unfold opN
  split
  · have := pick_lt le 200 (by omega)
    omega
  · exact h
/-- what a call makes of the disk -/
def oOne (d a x le : Int) (F : List (Int × Int)) (M : Option Dm) : Option Dm :=
  if pick d 7 = 0 then oW a (fillL x (opN le (oSz M))) M else if pick d 7 = 2 then oS M else if pick d 7 = 4 then oC F M else M
theorem oOne_rows (d a x le : Int) (F : List (Int × Int)) (M : Option Dm) : oRows (oOne d a x le F M) ≤ oRows M + 1 := by
  unfold oOne
  split
  · exact oW_rows _ _ _
  · split
    · rw [oS_rows]; omega
    · split
      · rw [oC_rows]; omega
      · omega
/-- two disks that tell the same -/
structure Two (w : World) (v u : Value) (M : Option Dm) (L K : List Nat) : Prop where
  d : Ld w v M L
  r : Lr w u M K
  dj : ∀ b ∈ L, b ∉ K
def TwoP (w : World) (v u : Value) (M : Option Dm) (L K : List Nat) (w' : World) : Prop := ∃ L' K', Two w' v u M L' K' ∧ Mod (L ++ K) w w' ∧ (∀ k ∈ L', k ∈ L ∨ w.heap.size ≤ k) ∧ ∀ k ∈ K', k ∈ K ∨ w.heap.size ≤ k
section
variable {w w0 w1 w2 w' : World} {v u : Value} {M M' : Option Dm} {L K L2 : List Nat}
theorem Two.mod (h : Two w v u M L K) (hm : Mod L2 w w') (hL : ∀ b ∈ L, b ∉ L2) (hK : ∀ b ∈ K, b ∉ L2) : Two w' v u M L K := ⟨h.d.mod hm hL, h.r.mod hm hK, h.dj⟩
theorem Two.ext (h : Two w v u M L K) (hm : Mod [] w w') : Two w' v u M L K := h.mod hm (by simp) (by simp)
theorem Two.same (h : Two w v u M L K) (hm : Mod [] w w') : TwoP w v u M L K w' := ⟨L, K, h.ext hm, hm.weak (by simp), fun k hk => .inl hk, fun k hk => .inl hk⟩
/-- the program's disk has turned, behind it the reference's -/
theorem Two.turn {w1' : World} {L' K' G : List Nat} (h : Two w v u M L K) (hm0 : Mod [] w w0) (hd : Mod L w0 w1) (hL : ∀ k ∈ L', k ∈ L ∨ w0.heap.size ≤ k) (hmid : Mod G w1 w1') (hG : ∀ g ∈ G, w.heap.size ≤ g) (hD : Ld w2 v M' L') (hlt : ∀ k ∈ L', k < w1.heap.size) (hm1 : Mod K w1' w2) (hK : ∀ k ∈ K', k ∈ K ∨ w1'.heap.size ≤ k) (hR : Lr w2 u M' K') (hm2 : Mod [] w2 w') : TwoP w v u M' L K w' := by
  have s0 := hm0.size
  have s1 := hd.size
  have s2 := hmid.size
  refine ⟨L', K', Two.ext ⟨hD, hR, fun b hb hb2 => ?_⟩ hm2, ?_, fun k hk => (hL k hk).imp id fun h => Nat.le_trans s0 h, fun k hk => (hK k hk).imp id fun h => by omega⟩
  · rcases hK b hb2 with h2 | h2
    · rcases hL b hb with h1 | h1
      · exact h.dj b h1 h2
      · have := h.r.lt b h2; omega
    · have := hlt b hb; omega
  · exact ((((hm0.weak (by simp)).then hd (fun g hg => .inl (List.mem_append_left _ hg))).then hmid (fun g hg => .inr (hG g hg))).then hm1 (fun g hg => .inl (List.mem_append_right _ hg))).ext hm2
theorem RowsO.r {base : Nat} {X : List (Value × List UInt8)} (h : RowsO w base v X) : RowsR w v X := ⟨h.ow.sl, fun p hp => Ob.bs (h.fam.ob p hp).1⟩
end
end Go.Proofs.YtdmnogmhnhjdgaaGreat
