import Derived.Test.YtdmnogmhnhjdgaaGreatGOe
/-! Bytes and their worth; what taking does to a list that is known. -/
set_option linter.unusedVariables false
set_option linter.unusedSimpArgs false
set_option maxRecDepth 100000
namespace Go.Proofs.YtdmnogmhnhjdgaaGreat
open Go.RowKit Gw

theorem low_cons (n k : Nat) : low n (k + 1) = UInt8.ofNat n :: low (n / 256) k := by
  unfold low
  rw [List.range_succ_eq_map, List.map_cons, List.map_map]
  congr 1
  · simp
  · apply List.map_congr_left
    intro i _
    simp [Function.comp, Nat.pow_succ, Nat.div_div_eq_div_mul, Nat.mul_comm]
theorem low_val : ∀ (l : List UInt8), low (val l) l.length = l
  | [] => rfl
  | b :: l => by
    have hb := b.toNat_lt
    rw [List.length_cons, low_cons, val_cons]
    rw [show (b.toNat + 256 * val l) / 256 = val l by omega, low_val l]
    congr 1
    apply UInt8.toNat_inj.1
    rw [UInt8.toNat_ofNat']
    omega
theorem val_low' : ∀ (k n : Nat), n < 256 ^ k → val (low n k) = n
  | 0, n, h => by simp at h; subst h; rfl
  | k + 1, n, h => by
    rw [low_cons, val_cons, val_low' k (n / 256) (by rw [Nat.pow_succ] at h; omega), UInt8.toNat_ofNat']
    omega

theorem tk_app (x y : List UInt8) (w : Nat) (h : x.length = w) : tkGot (x ++ y) 0 w = x ∧ tkRest (x ++ y) 0 w = y ∧ tkErr (x ++ y) 0 w = 0 := by
  subst h
  have h1 : (0 : Int) ≤ (x.length : Int) ∧ (x.length : Int) ≤ ((x ++ y).length : Int) := by rw [List.length_append]; omega
  refine ⟨?_, ?_, ?_⟩
  · unfold tkGot; rw [if_pos ⟨rfl, h1.1, h1.2⟩]; simp
  · unfold tkRest; rw [if_pos rfl, if_pos h1]; simp
  · unfold tkErr; rw [if_pos rfl, if_neg (by omega), if_neg (by omega)]
theorem tk_inv (l : List UInt8) (e : Int) (w : Nat) (h : tkErr l e w = 0) : e = 0 ∧ ∃ x y, l = x ++ y ∧ x.length = w := by
  unfold tkErr at h
  by_cases he : e = 0
  · rw [if_pos he, if_neg (by omega)] at h
    by_cases hl : (l.length : Int) < w
    · rw [if_pos hl] at h; cases h
    · exact ⟨he, l.take w, l.drop w, by rw [List.take_append_drop], by rw [List.length_take]; omega⟩
  · rw [if_neg he] at h; exact absurd h he

theorem wrap64_in {n : Nat} (h : (n : Int) ≤ 9223372036854775807) : wrap64 n = n := by
  unfold wrap64; omega
theorem wrap64_pos {n : Nat} (h1 : n < 18446744073709551616) (h : 0 ≤ wrap64 n) : wrap64 n = n ∧ (n : Int) ≤ 9223372036854775807 := by
  unfold wrap64 at h ⊢; omega
theorem val_wd {x : List UInt8} {n : Nat} (h : x.length = n) : val x < 256 ^ n := h ▸ val_lt x
theorem Bs.str {w : World} {ao : Option Addr} {n cap : Nat} {l : List UInt8} (h : Bs w (.slice ao n cap) l) : (convert 32 9 (.slice ao n cap)).run Tryz.prog w = .ok (.string ⟨l.toArray⟩) w := by
  obtain ⟨ao', cap', hv, hl, hc, hm, hn, hcell⟩ := h
  injection hv with e1 e2 e3
  subst e1 e2 e3
  cases ao with
  | none =>
    have h0 := hn rfl
    have h1 : l = [] := List.eq_nil_of_length_eq_zero (by omega)
    subst h1
    rw [run_convert_bytes_string w _ _ _ none _ _ Tryz.underlying32 Tryz.underlying5 Tryz.underlying9]
    simp [Conv.bytesToString, Sem.run_pure]
    rfl
  | some ad =>
    refine run_convert_bytes_back w _ _ _ ad cap l Tryz.underlying32 Tryz.underlying5 Tryz.underlying9 fun j hj => ?_
    by_cases hc0 : 0 < cap
    · have h1 := (hcell ad rfl).2 j _ (by simp [bv, hj]; rfl)
      have h2 : ad.add j = ⟨ad.block, ad.off + j, none⟩ := by
        have := (hcell ad rfl).1 hc0
        obtain ⟨b, o, s⟩ := ad
        dsimp only at this
        subst this
        simp [Addr.add]
      rw [h2]
      exact h1
    · omega
end Go.Proofs.YtdmnogmhnhjdgaaGreat
