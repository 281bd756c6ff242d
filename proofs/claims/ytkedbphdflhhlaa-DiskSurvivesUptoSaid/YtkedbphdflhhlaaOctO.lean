import Derived.Test.YtkedbphdflhhlaaOctN
set_option linter.unusedVariables false
set_option linter.unusedSimpArgs false
set_option maxRecDepth 100000
namespace Go.Proofs.Ytkedbphdflhhlaa
open Go.RowKit Gw

theorem Rd.keep {w w' : World} {r q r1 q1 : Nat} {l l1 : List UInt8} {e e1 : Int} (h : Rd w r q l e) (h1 : Rd w r1 q1 l1 e1) (hm : Mod [q1] w w') (hr : r ≠ q1) (hq : q ≠ q1) : Rd w' r q l e := by
  obtain ⟨v, hB, hv⟩ := h.2
  obtain ⟨v1, hB1, hv1⟩ := h1.2
  obtain ⟨ao, cap, rfl, _, _⟩ := hv1.form
  exact ⟨h.1.mod hm (by simpa using hr), v, hB.mod hm (by simpa using hq), hv.keepAt hB1 (by simp) hm⟩
theorem rbyte_val (r q : Nat) (l : List UInt8) (err : Int) (m : Nat) (l' : List UInt8) (err' : Int) (w : World) (h : Rd w r q l err) (hm : got l err 1 = m) (hl : tkRest l err 1 = l') (he : tkErr l err 1 = err') :
    Calls Try.prog 41 #[.pointer (some ⟨r, 0, none⟩)] w fun e w' => e = .returned (.int .u8 m) ∧ Rd w' r q l' err' ∧ Mod [q] w w' :=
  (rbyte_any r q l err w h).mono fun e w' ⟨h1, h2, h3⟩ => ⟨by rw [h1, hm], by rw [← hl, ← he]; exact h2, h3⟩
theorem end_val (r q : Nat) (l : List UInt8) (err m : Int) (w : World) (h : Rd w r q l err) (hm : endOf l err = m) :
    Calls Try.prog 49 #[.pointer (some ⟨r, 0, none⟩)] w fun e w' => e = .returned (.int .i64 m) ∧ w = w' :=
  (end_any r q l err w h).mono fun e w' ⟨h1, h2⟩ => ⟨by rw [h1, hm], h2⟩
theorem rtake_val (r q : Nat) (l : List UInt8) (err n : Int) (l' : List UInt8) (err' : Int) (w : World) (h : Rd w r q l err) (hn1 : -9223372036854775808 ≤ n) (hn2 : n ≤ 9223372036854775807) (hl : l.length ≤ 140737488355328) (hl' : tkRest l err n = l') (he : tkErr l err n = err') :
    Calls Try.prog 25 #[.pointer (some ⟨r, 0, none⟩), .int .i64 n] w fun e w' => ∃ ao k cap, e = .returned (.slice ao k cap) ∧ Rd w' r q l' err' ∧ Mod [q] w w' :=
  (rtake_any r q l err n w h hn1 hn2 hl).mono fun e w' ⟨v, h1, h2, _, h4, h5⟩ => by
    obtain ⟨ao, cap, rfl, _, _⟩ := h2.bs.form
    exact ⟨ao, _, cap, h1, by rw [← hl', ← he]; exact h4, h5⟩

theorem stR : ST Try.prog 81 37 (.pointer none) 1 8 := ⟨Try.underlying81, by kernel_rfl, rfl, by decide⟩

set_option maxHeartbeats 1000000 in
theorem octetsNumbers_any (w : World) : Calls Try.prog 8 #[] w fun e w' => e = .returned (.bool true) ∧ Mod [] w w' := by
  go_enter Try.func8, Try.ntmps8
  go_wp2_with (first
                | (go_at_call 22; refine (byte_nil 1 _ (by omega) (by omega)).mono ?_; rintro e w1 ⟨rfl, hm1⟩)
                | (go_at_call 15; refine (two_nil 1 _ (by omega) (by omega)).mono ?_; rintro e w2 ⟨rfl, hm2⟩)
                | (go_at_call 16; refine (four_nil 1 _ (by omega) (by omega)).mono ?_; rintro e w3 ⟨rfl, hm3⟩)
                | (go_at_call 17; refine (eight_nil 1 _ (by omega) (by omega)).mono ?_; rintro e w4 ⟨rfl, hm4⟩)
                | (with_reducible refine st_bslice ?_))
  refine StopOp.go rfl fun K hK => ?_
  refine wp_bslice stB [.int .u8 1] rfl (by decide) (by rfl) (by simp [Value.cells]) ?_
  intro b0 w5 _ _ hm5 _
  simp only [put_some, List.set_cons_succ, List.set_cons_zero]
  refine hK _ _ ?_
  clear hK K
  go_wp2_with (first
                | (go_at_call 20; refine (put_nil _ _).mono ?_; rintro e w6 ⟨rfl, hm6⟩)
                | (with_reducible refine st_box ?_))
  refine StopOp.go rfl fun K hK => ?_
  refine wp_box (v := .agg #[.pointer none]) (by rfl) ?_
  intro g w7 hg1 hg2 hm7 hB7
  simp only [put_some, List.set_cons_succ, List.set_cons_zero]
  refine hK _ _ ?_
  clear hK K
  go_wp2_with (with_reducible refine st_bslice ?_)
  refine StopOp.go rfl fun K hK => ?_
  refine wp_bslice stR [.pointer none, .pointer (some ⟨g, 0, none⟩)] rfl (by decide) (by rfl) (by simp [Value.cells]) ?_
  intro b w8 _ _ hm8 hB8
  simp only [put_some, List.set_cons_succ, List.set_cons_zero]
  refine hK _ _ ?_
  clear hK K
  have hm : Mod [] w w8 := ((((((hm1.ext hm2).ext hm3).ext hm4).ext hm5).ext hm6).ext hm7).ext hm8
  have hR : Rn w8 (.pointer (some ⟨g, 0, none⟩)) := .inr ⟨g, rfl, by simpa [Value.cells] using hB7.ext hm8⟩
  have hR0 : Rn w8 (.pointer none) := .inl rfl
  have c0 : w8.cell? ⟨b, 0, none⟩ = some (.pointer none) := hB8.cell' (i := 0) rfl
  have c1 : w8.cell? ⟨b, 1, none⟩ = some (.pointer (some ⟨g, 0, none⟩)) := hB8.cell' (i := 1) rfl
  clear hm1 hm2 hm3 hm4 hm5 hm6 hm7 hm8 hB7 hB8
  go_wp2_with fail
  go_loop [25] (fun i => ∃ j : Nat, j ≤ 2 ∧ i = .int .i64 j) (fun i => 2 - (intOf i).toNat)
  case atStart => exact ⟨0, by omega, rfl⟩
  case round =>
    obtain ⟨j, hj, rfl⟩ := hrel
    obtain rfl | rfl | rfl : j = 0 ∨ j = 1 ∨ j = 2 := by omega
    · go_wp2_with (first
                    | (go_at_call 41; refine (rbyte_none _ _ hR0).mono ?_; rintro e w1 ⟨rfl, rfl⟩)
                    | (go_at_call 43; refine (rtwo_none _ _ hR0).mono ?_; rintro e w1 ⟨rfl, rfl⟩)
                    | (go_at_call 44; refine (rfour_none _ _ hR0).mono ?_; rintro e w1 ⟨rfl, rfl⟩)
                    | (go_at_call 45; refine (reight_none _ _ hR0).mono ?_; rintro e w1 ⟨rfl, rfl⟩)
                    | (go_at_call 25; refine (rtake_none _ _ _ hR0).mono ?_; rintro e w1 ⟨rfl, rfl⟩)
                    | (go_at_call 26; refine (left_none _ _ hR0).mono ?_; rintro e w1 ⟨rfl, rfl⟩)
                    | (go_at_call 48; refine (err_none _ _ hR0).mono ?_; rintro e w1 ⟨rfl, rfl⟩)
                    | (go_at_call 49; refine (end_none _ _ hR0).mono ?_; rintro e w1 ⟨rfl, rfl⟩))
      go_round
      case rel => exact ⟨1, by omega, by go_num⟩
      case measure => simp [intOf]
    · go_wp2_with (first
                    | (go_at_call 41; refine (rbyte_none _ _ hR).mono ?_; rintro e w1 ⟨rfl, rfl⟩)
                    | (go_at_call 43; refine (rtwo_none _ _ hR).mono ?_; rintro e w1 ⟨rfl, rfl⟩)
                    | (go_at_call 44; refine (rfour_none _ _ hR).mono ?_; rintro e w1 ⟨rfl, rfl⟩)
                    | (go_at_call 45; refine (reight_none _ _ hR).mono ?_; rintro e w1 ⟨rfl, rfl⟩)
                    | (go_at_call 25; refine (rtake_none _ _ _ hR).mono ?_; rintro e w1 ⟨rfl, rfl⟩)
                    | (go_at_call 26; refine (left_none _ _ hR).mono ?_; rintro e w1 ⟨rfl, rfl⟩)
                    | (go_at_call 48; refine (err_none _ _ hR).mono ?_; rintro e w1 ⟨rfl, rfl⟩)
                    | (go_at_call 49; refine (end_none _ _ hR).mono ?_; rintro e w1 ⟨rfl, rfl⟩))
      go_round
      case rel => exact ⟨2, by omega, by go_num⟩
      case measure => simp [intOf]
    · clear c0 c1 hR hR0
      go_wp2_with (first
                    | (with_reducible refine st_bslice ?_)
                    | (go_at_call 23; refine (of_any [] _ _ (Sl.nil _ 1) (by simp)).mono ?_; rintro e w9 ⟨r1, q1, rfl, hr1, hq1, hne1, hrd1, hm9⟩))
      refine StopOp.go rfl fun K hK => ?_
      refine wp_bslice stB [.int .u8 1] rfl (by decide) (by rfl) (by simp [Value.cells]) ?_
      intro d1 w10 _ _ hm10 hB10
      simp only [put_some, List.set_cons_succ, List.set_cons_zero]
      refine hK _ _ ?_
      clear hK K
      have hb10 : Bs w10 (.slice (some ⟨d1, 0, none⟩) 1 1) [1] := Bs.of_blk (l := [1]) (rest := []) hB10 (by simp) (by omega)
      go_wp2_with (first
                    | (with_reducible refine st_bslice ?_)
                    | (go_at_call 23; refine (of_any [1] _ _ hb10 (by simp)).mono ?_; rintro e w11 ⟨r2, q2, rfl, hr2, hq2, hne2, hrd2, hm11⟩))
      refine StopOp.go rfl fun K hK => ?_
      refine wp_bslice stB [.int .u8 1] rfl (by decide) (by rfl) (by simp [Value.cells]) ?_
      intro d2 w12 _ _ hm12 hB12
      simp only [put_some, List.set_cons_succ, List.set_cons_zero]
      refine hK _ _ ?_
      clear hK K
      have hb12 : Bs w12 (.slice (some ⟨d2, 0, none⟩) 1 1) [1] := Bs.of_blk (l := [1]) (rest := []) hB12 (by simp) (by omega)
      go_wp2_with (go_at_call 23; refine (of_any [1] _ _ hb12 (by simp)).mono ?_; rintro e w13 ⟨r3, q3, rfl, hr3, hq3, hne3, hrd3, hm13⟩)
      have e1 := ((hrd1.ext hm10).ext hm11).ext (hm12.ext hm13)
      have e2 := hrd2.ext (hm12.ext hm13)
      have l1 : r1 < w9.heap.size ∧ q1 < w9.heap.size := ⟨hrd1.1.lt, by obtain ⟨v, hB, _⟩ := hrd1.2; exact hB.lt⟩
      have l2 : r2 < w11.heap.size ∧ q2 < w11.heap.size := ⟨hrd2.1.lt, by obtain ⟨v, hB, _⟩ := hrd2.2; exact hB.lt⟩
      have s8 := hm.size
      have s9 := hm9.size
      have s10 := hm10.size
      have s11 := hm11.size
      have s12 := hm12.size
      have x21 : r2 ≠ q1 := by omega
      have y21 : q2 ≠ q1 := by omega
      have x31 : r3 ≠ q1 := by omega
      have y31 : q3 ≠ q1 := by omega
      have x12 : r1 ≠ q2 := by omega
      have y12 : q1 ≠ q2 := by omega
      have x32 : r3 ≠ q2 := by omega
      have y32 : q3 ≠ q2 := by omega
      have hmA : Mod [] w w13 := (((hm.ext hm9).ext hm10).ext hm11).ext (hm12.ext hm13)
      have z1 : ∀ k ∈ [q1], w.heap.size ≤ k := by simp; omega
      have z2 : ∀ k ∈ [q2], w.heap.size ≤ k := by simp; omega
      have E2 := fun w h => end_val r2 q2 [] 2 2 w h (by decide)
      have E3 := fun w h => end_val r3 q3 [1] 0 5 w h (by decide)
      clear hrd1 hrd2 hb10 hb12 hB10 hB12 hm hm9 hm10 hm11 hm12 hm13
      go_wp2_with (first
                    | (go_at_call 41; refine (rbyte_val r1 q1 [] 0 0 [] 4 _ e1 (by decide) (by decide) (by decide)).mono ?_; rintro e w14 ⟨rfl, f1, hm14⟩; have f2 := e2.keep e1 hm14 x21 y21; have f3 := hrd3.keep e1 hm14 x31 y31)
                    | (go_at_call 25; refine (rtake_val r2 q2 [1] 0 (-1) [] 2 _ f2 (by omega) (by omega) (by simp) (by decide) (by decide)).mono ?_; rintro e w15 ⟨ao, k, cap, rfl, g2, hm15⟩; have g1 := f1.keep f2 hm15 x12 y12; have g3 := f3.keep f2 hm15 x32 y32)
                    | (go_at_call 33; refine (len_nil _).mono ?_; rintro e w1 ⟨rfl, rfl⟩)
                    | (go_at_call 18; refine (out_nil _).mono ?_; rintro e w1 ⟨rfl, rfl⟩)
                    | (go_at_call 48; refine (err_any r1 q1 [] 4 _ g1).mono ?_; rintro e w1 ⟨rfl, rfl⟩)
                    | (go_at_call 49; with_reducible refine (E2 _ g2).mono ?_; rintro e w1 ⟨rfl, rfl⟩)
                    | (go_at_call 49; with_reducible refine (E3 _ g3).mono ?_; rintro e w1 ⟨rfl, rfl⟩)
                    | (go_at_call 19; refine (awake_any _).mono ?_; rintro e w16 ⟨rfl, hm16⟩))
      go_ret
      exact ⟨rfl, ((hmA.fresh hm14 z1).fresh hm15 z2).ext hm16⟩
end Go.Proofs.Ytkedbphdflhhlaa
