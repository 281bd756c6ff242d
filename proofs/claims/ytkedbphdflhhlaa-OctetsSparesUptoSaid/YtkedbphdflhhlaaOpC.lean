import Derived.Test.YtkedbphdflhhlaaOpB
import Derived.Test.YtkedbphdflhhlaaOctH
set_option linter.unusedVariables false
set_option linter.unusedSimpArgs false
set_option maxRecDepth 100000
namespace Go.Proofs.Ytkedbphdflhhlaa
open Go.RowKit Gw

def encs (os : List Opr) : List UInt8 := os.flatMap enc
theorem encs_take (os : List Opr) (j : Nat) (hj : j < os.length) : encs (os.take (j + 1)) = encs (os.take j) ++ enc os[j] := by
  unfold encs; rw [List.take_succ_eq_append_getElem hj, List.flatMap_append]; simp
theorem encs_drop (os : List Opr) (j : Nat) (hj : j < os.length) : encs (os.drop j) = enc os[j] ++ encs (os.drop (j + 1)) := by
  unfold encs; rw [List.drop_eq_getElem_cons hj, List.flatMap_cons]
theorem encs_drop_le (os : List Opr) (k : Nat) : (encs (os.drop k)).length ≤ (encs os).length := by
  conv => rhs; rw [← List.take_append_drop k os]
  unfold encs
  rw [List.flatMap_append, List.length_append]
  omega
theorem enc_le (o : Opr) : (enc o).length ≤ o.l.length + 8 := by
  unfold enc
  repeat' split
  all_goals simp [low_length]
  all_goals omega
def bytes (os : List Opr) : Nat := (os.map fun o => o.l.length).sum
theorem bytes_take (os : List Opr) (j : Nat) : bytes (os.take j) ≤ bytes os := by
  unfold bytes
  conv => rhs; rw [← List.take_append_drop j os]
  rw [List.map_append, List.sum_append]
  omega
theorem bytes_at (os : List Opr) (j : Nat) (hj : j < os.length) : os[j].l.length ≤ bytes os := by
  unfold bytes
  conv => rhs; rw [← List.take_append_drop j os, List.drop_eq_getElem_cons hj]
  simp only [List.map_append, List.sum_append, List.map_cons, List.sum_cons]
  omega
theorem encs_le : ∀ (os : List Opr), (encs os).length ≤ bytes os + 8 * os.length
  | [] => by simp [encs]
  | o :: os => by
    have := encs_le os
    have := enc_le o
    simp only [encs, List.flatMap_cons, List.length_append, bytes, List.map_cons, List.sum_cons, List.length_cons] at *
    omega
theorem encs_take_le (os : List Opr) (j m : Nat) (hj : j ≤ m) : (encs (os.take j)).length ≤ bytes os + 8 * m := by
  have h1 := encs_le (os.take j)
  have h2 := bytes_take os j
  have h3 : (os.take j).length ≤ j := by simp; omega
  omega

theorem tk_ok (a b : List UInt8) : tkGot (a ++ b) 0 a.length = a ∧ tkRest (a ++ b) 0 a.length = b ∧ tkErr (a ++ b) 0 a.length = 0 := by
  have h1 : (0 : Int) ≤ (a.length : Int) ∧ (a.length : Int) ≤ ((a ++ b).length : Int) := by rw [List.length_append]; omega
  refine ⟨?_, ?_, ?_⟩
  · unfold tkGot; rw [if_pos ⟨rfl, h1.1, h1.2⟩]; simp
  · unfold tkRest; rw [if_pos rfl, if_pos h1]; simp
  · unfold tkErr; rw [if_pos rfl, if_neg (by omega), if_neg (by omega)]
theorem tk_bad (l : List UInt8) (n : Nat) (h : l.length < n) : tkRest l 0 n = [] ∧ tkErr l 0 n = 4 := by
  refine ⟨?_, ?_⟩
  · unfold tkRest; rw [if_pos rfl, if_neg (by omega)]
  · unfold tkErr; rw [if_pos rfl, if_neg (by omega), if_pos (by omega)]
theorem tk_err (n : Int) : tkRest [] 4 n = [] ∧ tkErr [] 4 n = 4 := ⟨rfl, rfl⟩
theorem enc_sz (o : Opr) (h : acts o) : (enc o).length = sz o := by
  unfold enc sz
  repeat' split
  all_goals simp [low_length]
theorem enc_none (o : Opr) (h : ¬ acts o) : enc o = [] := by
  unfold acts at h
  unfold enc
  repeat' split
  all_goals simp_all
theorem got_enc (o : Opr) (hn : o.n < 18446744073709551616) (R : List UInt8) : gotB o (enc o ++ R) 0 = true ∧ gotL o (enc o ++ R) 0 = R ∧ gotE o (enc o ++ R) 0 = 0 := by
  by_cases ha : acts o
  · have hk := enc_sz o ha
    obtain ⟨t1, t2, t3⟩ := tk_ok (enc o) R
    rw [hk] at t1 t2 t3
    refine ⟨?_, by unfold gotL; rw [if_pos ha, t2], by unfold gotE; rw [if_pos ha, t3]⟩
    have hv1 := val_low (o.n % 256) 1
    have hv2 := val_low (o.n % 65536) 2
    have hv3 := val_low (o.n % 4294967296) 4
    have hv4 := val_low o.n 8
    rw [Nat.mod_eq_of_lt (show o.n < 256 ^ 8 by omega)] at hv4
    obtain ⟨kind, n, tk, ao, cap, l⟩ := o
    unfold acts at ha
    dsimp only at ha hn hv1 hv2 hv3 hv4
    rcases ha with rfl | rfl | rfl | rfl | rfl
    · simp only [sz, enc] at t1
      simp [gotB, got, enc] at t1 ⊢
      rw [t1, hv1]; omega
    · simp [sz, enc] at t1
      simp [gotB, got, enc]
      rw [t1, hv2]; omega
    · simp [sz, enc] at t1
      simp [gotB, got, enc]
      rw [t1, hv3]; omega
    · simp [sz, enc] at t1
      simp [gotB, got, enc]
      rw [t1, hv4]
    · simp [sz, enc] at t1
      simp [gotB, enc]
      exact t1
  · rw [enc_none o ha, List.nil_append]
    refine ⟨?_, by unfold gotL; rw [if_neg ha], by unfold gotE; rw [if_neg ha]⟩
    unfold acts at ha
    unfold gotB
    simp_all

/-- a reader that has a byte less than is asked for, or has met that already -/
def St (l : List UInt8) (err : Int) (R : List UInt8) : Prop := (err = 0 ∧ R ≠ [] ∧ l = R.dropLast) ∨ (err = 4 ∧ l = [])
theorem short_err (o : Opr) : gotL o [] 4 = [] ∧ gotE o [] 4 = 4 := by
  refine ⟨?_, ?_⟩
  · unfold gotL; split
    · exact (tk_err _).1
    · rfl
  · unfold gotE; split
    · exact (tk_err _).2
    · rfl
theorem short_step (o : Opr) (hn : o.n < 18446744073709551616) (R : List UInt8) (h : enc o ++ R ≠ []) :
    (R ≠ [] ∧ gotB o (enc o ++ R).dropLast 0 = true ∧ gotL o (enc o ++ R).dropLast 0 = R.dropLast ∧ gotE o (enc o ++ R).dropLast 0 = 0) ∨ (gotL o (enc o ++ R).dropLast 0 = [] ∧ gotE o (enc o ++ R).dropLast 0 = 4) := by
  by_cases hR : R = []
  · subst hR
    right
    rw [List.append_nil] at h ⊢
    have ha : acts o := by
      by_cases ha : acts o
      · exact ha
      · exact absurd (enc_none o ha) h
    have hk := enc_sz o ha
    have hl : (enc o).dropLast.length < sz o := by
      rw [List.length_dropLast]
      have : 0 < (enc o).length := List.length_pos_iff.2 h
      omega
    obtain ⟨b1, b2⟩ := tk_bad _ _ hl
    exact ⟨by unfold gotL; rw [if_pos ha, b1], by unfold gotE; rw [if_pos ha, b2]⟩
  · left
    rw [List.dropLast_append_of_ne_nil hR]
    have := got_enc o hn R.dropLast
    exact ⟨hR, this.1, this.2.1, this.2.2⟩
end Go.Proofs.Ytkedbphdflhhlaa
