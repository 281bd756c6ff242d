import Derived.Test.YtkhnemnpadhgoaaRcI
import Derived.Test.YtkhnemnpadhgoaaCopA
/-! Records: RecordsOrder. -/
set_option linter.unusedVariables false
set_option linter.unusedSimpArgs false
set_option maxRecDepth 100000
namespace Go.Proofs.Ytkhnemnpadhgoaa
open Go.RowKit Gw

set_option maxRecDepth 1000000 in
set_option maxHeartbeats 8000000 in
theorem recordsOrder_core (b m : List UInt8) (bv0 mv0 : Value) (w : World) (hb : Bs w bv0 b) (hm : Bs w mv0 m) (hl : b.length ≤ 1048576) (hl2 : m.length ≤ 1048576) :
    Calls Try.prog 8 #[bv0, mv0] w fun e w' => e = .returned (.bool true) ∧ Mod [] w w' := by
  obtain ⟨aob, capb, rfl, hcb, _⟩ := hb.form
  obtain ⟨aom, capm, rfl, _, _⟩ := hm.form
  obtain ⟨E, hE⟩ : ∃ E : Int, E = errC b := ⟨_, rfl⟩
  obtain ⟨q, hq⟩ : ∃ q, q = getC b := ⟨_, rfl⟩
  obtain ⟨F, hF⟩ : ∃ E : Int, E = errC (b ++ m) := ⟨_, rfl⟩
  obtain ⟨p, hp⟩ : ∃ q, q = getC (b ++ m) := ⟨_, rfl⟩
  have hlen : (b ++ m).length = b.length + m.length := List.length_append
  have G1 := fun v w h => cget_val b v E q w hE.symm hq.symm h (by omega)
  have G2 := fun v w h => cget_val (b ++ m) v F p w hF.symm hp.symm h (by omega)
  have hv := errC_vals b
  have h5 := errC_more b m
  have h0 := errC_ok_more b m
  have h4 := errC_short b
  rw [← hE] at hv h0 h4 h5
  rw [← hF] at h0 h5
  clear hE hq hF hp
  obtain ⟨q0, q1, q2, q3, q4⟩ := q
  obtain ⟨p0, p1, p2, p3, p4⟩ := p
  dsimp only [Rc.v] at *
  have H0 := Lib.hid h0
  have H4 := Lib.hid h4
  have H5 := Lib.hid h5
  have HV := Lib.hid hv
  have HLEN := Lib.hid hlen
  clear h0 h4 h5 hv hlen
  go_enter Try.func8, Try.ntmps8
  go_wp2_with (first
                | (with_reducible refine st_alloc ?_)
                | (go_at_call 11; refine (G1 _ _ hb).mono ?_; rintro e w1 ⟨rfl, hm1⟩))
  refine StopOp.go rfl fun K hK => ?_
  refine wp_alloc zero_rec ?_
  intro g2 w2 h21 h22 hm2 hB2
  simp only [put_some, List.set_cons_succ, List.set_cons_zero]
  refine hK _ _ ?_
  clear hK K
  go_wp2_with (with_reducible refine st_store ?_)
  refine StopOp.go rfl fun K hK => ?_
  refine wp_store (u := .agg #[.int .i64 q0, .int .u32 q1, .int .i64 q2, .int .i64 q3, .int .i64 q4]) (by rfl) (by rfl) (by kernel_rfl) hB2 (by simp [Value.cells]) (by simp [Value.cells, Value.oneCell']) ?_
  intro w3 hm3 hB3
  refine hK _ _ ?_
  clear hK K
  have hM3 : Mod [] w w3 := hm1.ext (hm2.fresh hm3 (by simpa using h21))
  clear hB2 hm2 hB3 hm3 hm1
  go_wp2_with (first
                | (with_reducible refine st_append ?_)
                | (go_at_call 17; refine (copy_any b _ _ (hb.ext hM3) (by omega)).mono ?_; rintro e w4 ⟨v4, rfl, ho4, hn4, hm4⟩; obtain ⟨ao4, cap4, rfl, _, _⟩ := ho4.bs.form))
  refine StopOp.go rfl fun K hK => ?_
  refine wp_append_ow stB (by rfl) (by rfl) ho4 (hm.ext (hM3.ext hm4)) (bv_one _) (by omega) (by omega) ?_
  intro v5 w5 ho5 hm5 hb5
  simp only [put_some, List.set_cons_succ, List.set_cons_zero]
  refine hK _ _ ?_
  clear hK K
  rw [← bv_append] at ho5
  have hb5' : Bs w5 v5 (b ++ m) := by have := ho5.sl; unfold Bs; rw [HLEN.out]; exact this
  obtain ⟨ao5, cap5, rfl, _, _⟩ := ho5.sl.form
  have hM5 : Mod [] w w5 := (hM3.ext hm4).fresh hm5 (fun k hk => Nat.le_trans hM3.size (hn4 k hk))
  clear ho4 hn4 hm4 ho5 hm5 hb5 hM3
  go_wp2_with (first
                | (with_reducible refine st_alloc ?_)
                | (go_at_call 11; refine (G2 _ _ hb5').mono ?_; rintro e w6 ⟨rfl, hm6⟩))
  refine StopOp.go rfl fun K hK => ?_
  refine wp_alloc zero_rec ?_
  intro g7 w7 h71 h72 hm7 hB7
  simp only [put_some, List.set_cons_succ, List.set_cons_zero]
  refine hK _ _ ?_
  clear hK K
  go_wp2_with (with_reducible refine st_store ?_)
  refine StopOp.go rfl fun K hK => ?_
  refine wp_store (u := .agg #[.int .i64 p0, .int .u32 p1, .int .i64 p2, .int .i64 p3, .int .i64 p4]) (by rfl) (by rfl) (by kernel_rfl) hB7 (by simp [Value.cells]) (by simp [Value.cells, Value.oneCell']) ?_
  intro w8 hm8 hB8
  refine hK _ _ ?_
  clear hK K
  have hM8 : Mod [] w w8 := (hM5.ext hm6).ext (hm7.fresh hm8 (by simpa using h71))
  clear hm7 hB7 hm8 hB8 hm6 hb5' hM5 G1 G2
  rcases HV.out with rfl | rfl | rfl | rfl
  · have hF := H0.out rfl
    by_cases hmn : m = []
    · subst hmn
      rw [if_pos rfl] at hF
      subst hF
      go_wp2_with (go_at_call 12; (with_reducible refine (rcawake_any _).mono ?_); rintro e w9 ⟨rfl, hm9⟩)
      go_ret
      exact ⟨rfl, hM8.ext hm9⟩
    · rw [if_neg hmn] at hF
      subst hF
      have e1 : (m.length == 0) = false := by simpa using hmn
      have e2 : ((m.length : Int) == 0) = false := by simpa using hmn
      have e3 : 0 < m.length := List.length_pos_iff.2 hmn
      have e4 : (0 : Int) < m.length := by omega
      go_wp2_with (go_at_call 12; (with_reducible refine (rcawake_any _).mono ?_); rintro e w9 ⟨rfl, hm9⟩)
      go_ret
      exact ⟨rfl, hM8.ext hm9⟩
  · rcases H4.out rfl with rfl | ⟨hbn, hlt⟩
    · go_wp2_with (go_at_call 12; (with_reducible refine (rcawake_any _).mono ?_); rintro e w9 ⟨rfl, hm9⟩)
      go_ret
      exact ⟨rfl, hM8.ext hm9⟩
    · have e1 : (b.length == 0) = false := by simpa using hbn
      have e2 : ((b.length : Int) == 0) = false := by simpa using hbn
      have e3 : 0 < b.length := List.length_pos_iff.2 hbn
      obtain ⟨bb, bo, rfl, hc⟩ := (hb.ext hM8).byte (j := 0) e3
      rw [nb_byte b e3, Nat.add_zero] at hc
      have S1 := fun w => csize_any (nb b 0 1 : Nat) w
      obtain ⟨S, hS⟩ : ∃ S, S = sizeC (nb b 0 1 : Nat) := ⟨_, rfl⟩
      rw [← hS] at S1 hlt
      have n255 : (nb b 0 1 : Int) ≤ 255 := by have := nb_lt b 0 1; omega
      have nn : (0 : Int) ≤ (nb b 0 1 : Int) := by omega
      obtain ⟨n, hn⟩ : ∃ n, n = nb b 0 1 := ⟨_, rfl⟩
      rw [← hn] at S1 hc n255 nn
      have e5 : (b.length : Int) < S := by omega
      clear hS hn
      go_wp2_with (first
                    | (go_at_call 21; (with_reducible refine (S1 _).mono ?_); rintro e w9 ⟨rfl, hm9⟩)
                    | (go_at_call 12; (with_reducible refine (rcawake_any _).mono ?_); rintro e w10 ⟨rfl, hm10⟩))
      go_ret
      exact ⟨rfl, (hM8.ext hm9).ext hm10⟩
  · obtain rfl := H5.out (.inl rfl)
    go_wp2_with (go_at_call 12; (with_reducible refine (rcawake_any _).mono ?_); rintro e w9 ⟨rfl, hm9⟩)
    go_ret
    exact ⟨rfl, hM8.ext hm9⟩
  · obtain rfl := H5.out (.inr rfl)
    go_wp2_with (go_at_call 12; (with_reducible refine (rcawake_any _).mono ?_); rintro e w9 ⟨rfl, hm9⟩)
    go_ret
    exact ⟨rfl, hM8.ext hm9⟩
end Go.Proofs.Ytkhnemnpadhgoaa
