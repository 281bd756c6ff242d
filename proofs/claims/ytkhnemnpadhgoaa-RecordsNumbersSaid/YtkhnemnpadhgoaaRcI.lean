import Derived.Test.YtkhnemnpadhgoaaRcH
/-! Records: contracts by value, and more of the plain law. -/
set_option linter.unusedVariables false
set_option linter.unusedSimpArgs false
set_option maxRecDepth 100000
namespace Go.Proofs.Ytkhnemnpadhgoaa
open Go.RowKit Gw

theorem cput_yes (r : Rc) (hr : r.ok) (hm : mayC r = true) (w : World) : Calls Try.prog 9 #[r.v] w fun e w' => ∃ v, e = .returned (.tuple #[v, .int .i64 0]) ∧ Ob w' v (cbytes r) ∧ New w v ∧ Mod [] w w' :=
  (cput_any r hr w).mono fun e w' ⟨v, h1, h2, h3, h4⟩ => by
    rw [hm, if_pos rfl] at h2
    exact ⟨v, by rw [h1, chkC_yes (of_decide_eq_true hm)], h2, h3, h4⟩
theorem cput_no (r : Rc) (hr : r.ok) (hm : mayC r = false) (w : World) : Calls Try.prog 9 #[r.v] w fun e w' => ∃ ao cap, e = .returned (.tuple #[.slice ao 0 cap, .int .i64 160]) ∧ Mod [] w w' :=
  (cput_any r hr w).mono fun e w' ⟨v, h1, h2, h3, h4⟩ => by
    rw [hm, if_neg (by simp)] at h2
    obtain ⟨ao, cap, rfl, _, _⟩ := h2.bs.form
    exact ⟨ao, cap, by rw [h1, chkC_no (of_decide_eq_false hm)]; rfl, h4⟩
theorem ccheck_yes (r : Rc) (hr : r.ok) (hm : mayC r = true) (w : World) : Calls Try.prog 10 #[r.v] w fun e w' => e = .returned (.int .i64 0) ∧ Mod [] w w' :=
  (ccheck_any r hr w).mono fun e w' ⟨h1, h2⟩ => ⟨by rw [h1, chkC_yes (of_decide_eq_true hm)], h2⟩
theorem ccheck_no (r : Rc) (hr : r.ok) (hm : mayC r = false) (w : World) : Calls Try.prog 10 #[r.v] w fun e w' => e = .returned (.int .i64 160) ∧ Mod [] w w' :=
  (ccheck_any r hr w).mono fun e w' ⟨h1, h2⟩ => ⟨by rw [h1, chkC_no (of_decide_eq_false hm)], h2⟩
theorem cget_val (b : List UInt8) (v : Value) (E : Int) (q : Rc) (w : World) (hE : errC b = E) (hq : getC b = q) (hb : Bs w v b) (hl : b.length ≤ 140737488355328) : Calls Try.prog 11 #[v] w fun e w' => e = .returned (.tuple #[q.v, .int .i64 E]) ∧ Mod [] w w' :=
  (cget_any b v w hb hl).mono fun e w' ⟨h1, h2⟩ => ⟨by rw [h1, hE, hq], h2⟩
theorem getC_no {b : List UInt8} (h : errC b ≠ 0) : getC b = cz := by unfold getC; rw [if_neg h]
theorem errC_vals (b : List UInt8) : errC b = 0 ∨ errC b = 4 ∨ errC b = 5 ∨ errC b = 160 := by
  unfold errC
  split
  · simp
  split
  · simp
  split
  · simp
  split
  · simp
  split <;> simp
theorem nb_pre (b m : List UInt8) (p k : Nat) (h : p + k ≤ b.length) : nb (b ++ m) p k = nb b p k := by
  unfold nb
  rw [List.drop_append_of_le_length (by omega), List.take_append_of_le_length (by rw [List.length_drop]; omega)]
theorem parC_pre (b m : List UInt8) (hk : okC (nb b 0 1) = true) (hs : sizeC (nb b 0 1) ≤ b.length) (h1 : 1 ≤ b.length) : parC (b ++ m) = parC b := by
  have e0 := nb_pre b m 0 1 (by omega)
  have hkk := kindsC _ hk
  unfold parC
  rw [e0]
  obtain ⟨n, hn⟩ : ∃ n, n = nb b 0 1 := ⟨_, rfl⟩
  rw [← hn] at hkk hs ⊢
  rcases (show n = 1 ∨ n = 2 ∨ n = 3 ∨ n = 4 ∨ n = 5 by omega) with rfl | rfl | rfl | rfl | rfl
  · have h5 : 15 ≤ b.length := hs
    rw [nb_pre b m 1 4 (by omega), nb_pre b m 5 2 (by omega), nb_pre b m 7 8 (by omega)]
    simp [cC]
  · have h5 : 5 ≤ b.length := hs
    rw [nb_pre b m 1 4 (by omega)]
    simp [cC, cS, cU]
  · have h5 : 5 ≤ b.length := hs
    rw [nb_pre b m 1 4 (by omega)]
    simp [cC, cS, cU]
  · have h5 : 7 ≤ b.length := hs
    rw [nb_pre b m 1 4 (by omega), nb_pre b m 5 2 (by omega)]
    simp [cC, cU]
  · have h5 : 9 ≤ b.length := hs
    rw [nb_pre b m 1 8 (by omega)]
    simp [cI, cS, cU]
/-- what was refused stays refused, whatever comes behind -/
theorem errC_more (b m : List UInt8) (h : errC b = 5 ∨ errC b = 160) : errC (b ++ m) = errC b := by
  unfold errC at h ⊢
  by_cases h0 : b = []
  · rw [if_pos h0] at h; simp at h
  have hl := List.length_pos_iff.2 h0
  have h0' : b ++ m ≠ [] := by simp [h0]
  rw [if_neg h0] at h ⊢
  rw [if_neg h0', nb_pre b m 0 1 (by omega)]
  cases hk : okC (nb b 0 1) with
  | false => simp
  | true =>
    rw [hk] at h
    simp only [Bool.true_eq_false, ↓reduceIte] at h ⊢
    by_cases h2 : b.length < sizeC (nb b 0 1)
    · rw [if_pos h2] at h; simp at h
    rw [if_neg h2] at h ⊢
    rw [if_neg (by rw [List.length_append]; omega), parC_pre b m hk (by omega) (by omega)]
    cases hm : mayC (parC b) with
    | false => simp
    | true =>
      rw [hm] at h
      simp only [Bool.true_eq_false, ↓reduceIte] at h ⊢
      by_cases h3 : sizeC (nb b 0 1) < b.length
      · rw [if_pos h3, if_pos (by rw [List.length_append]; omega)]
      · rw [if_neg h3] at h; simp at h
theorem errC_ok_more (b m : List UInt8) (h : errC b = 0) : errC (b ++ m) = if m = [] then 0 else 5 := by
  by_cases hm : m = []
  · subst hm; rw [if_pos rfl, List.append_nil]; exact h
  · obtain ⟨r, _, _, hr, rfl⟩ := errC_zero b h
    rw [if_neg hm]
    exact errC_long r hr m hm
theorem errC_short (b : List UInt8) (h : errC b = 4) : b = [] ∨ b ≠ [] ∧ b.length < sizeC (nb b 0 1) := by
  unfold errC at h
  by_cases h0 : b = []
  · exact .inl h0
  right
  refine ⟨h0, ?_⟩
  rw [if_neg h0] at h
  split at h
  · cases h
  split at h
  · assumption
  split at h
  · cases h
  split at h <;> cases h
theorem Bs.pre {w : World} {ao : Option Addr} {n cap k : Nat} {l : List UInt8} (h : Bs w (.slice ao n cap) l) (hn : n = l.length) (hk : k ≤ n) (hc : k ≤ cap) : Bs w (.slice ao k cap) (l.take k) := by
  subst hn
  have := Sl.cut (lo := 0) (hi := k) (m := cap) h (by omega) hk hc (by omega)
  simp only [Nat.mul_one, Nat.zero_mul, List.drop_zero, Nat.sub_zero, Addr.add, if_true, Option.map_id'] at this
  unfold Bs
  rw [List.length_take, Nat.min_eq_left (by omega)]
  have hb : bv (l.take k) = (bv l).take k := by simp [bv, List.map_take]
  rw [hb]
  simpa using this
end Go.Proofs.Ytkhnemnpadhgoaa
