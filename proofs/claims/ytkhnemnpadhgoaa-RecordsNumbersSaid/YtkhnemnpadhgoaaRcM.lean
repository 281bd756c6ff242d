import Derived.Test.YtkhnemnpadhgoaaRcI
/-! Records: RecordsNumbers. -/
set_option linter.unusedVariables false
set_option linter.unusedSimpArgs false
set_option maxRecDepth 100000
namespace Go.Proofs.Ytkhnemnpadhgoaa
open Go.RowKit Gw

theorem stRec : ST Try.prog 30 25 (.agg #[.int .i64 0, .int .u32 0, .int .i64 0, .int .i64 0, .int .i64 0]) 5 40 := ⟨Try.underlying30, by kernel_rfl, rfl, by decide⟩
theorem ok_of {r : Rc} (h : (decide (-9223372036854775808 ≤ r.kind) && decide (r.kind ≤ 9223372036854775807) && decide (0 ≤ r.id) && decide (r.id ≤ 4294967295) && decide (-9223372036854775808 ≤ r.seat) && decide (r.seat ≤ 9223372036854775807) && decide (-9223372036854775808 ≤ r.till) && decide (r.till ≤ 9223372036854775807) && decide (-9223372036854775808 ≤ r.clock) && decide (r.clock ≤ 9223372036854775807)) = true) : r.ok := by
  simp only [Bool.and_eq_true, decide_eq_true_eq] at h
  obtain ⟨⟨⟨⟨⟨⟨⟨⟨⟨a, b⟩, c⟩, d⟩, e⟩, f⟩, g⟩, h⟩, i⟩, j⟩ := h
  exact ⟨a, b, c, d, e, f, g, h, i, j⟩
theorem cput_len (r : Rc) (hr : r.ok) (hm : mayC r = true) (n : Nat) (hn : (cbytes r).length = n) (w : World) : Calls Try.prog 9 #[r.v] w fun e w' => ∃ ao cap, e = .returned (.tuple #[.slice ao n cap, .int .i64 0]) ∧ Mod [] w w' :=
  (cput_yes r hr hm w).mono fun e w' ⟨v, h1, h2, h3, h4⟩ => by
    obtain ⟨ao, cap, rfl, _, _⟩ := h2.bs.form
    exact ⟨ao, cap, by rw [h1, hn], h4⟩
def numC : List Value := [.int .i64 1, .int .u32 4294967295, .int .i64 1024, .int .i64 1099511627776, .int .i64 0, .int .i64 1, .int .u32 4294967295, .int .i64 1023, .int .i64 1099511627777, .int .i64 0, .int .i64 5, .int .u32 0, .int .i64 0, .int .i64 0, .int .i64 1099511627777, .int .i64 0, .int .u32 0, .int .i64 0, .int .i64 0, .int .i64 0, .int .i64 6, .int .u32 1, .int .i64 0, .int .i64 0, .int .i64 0, .int .i64 (-1), .int .u32 1, .int .i64 0, .int .i64 0, .int .i64 0, .int .i64 1, .int .u32 1, .int .i64 0, .int .i64 0, .int .i64 0, .int .i64 5, .int .u32 0, .int .i64 0, .int .i64 0, .int .i64 0, .int .i64 1, .int .u32 0, .int .i64 0, .int .i64 1, .int .i64 0, .int .i64 2, .int .u32 0, .int .i64 0, .int .i64 0, .int .i64 0]
set_option maxRecDepth 1000000 in
set_option maxHeartbeats 16000000 in
theorem recordsNumbers_core (w : World) : Calls Try.prog 3 #[] w fun e w' => e = .returned (.bool true) ∧ Mod [] w w' := by
  have PF := fun w => cput_len (⟨1, 4294967295, 1023, 1099511627776, 0⟩ : Rc) (ok_of (by decide)) (by decide) 15 (by decide) w
  have PL := fun w => cput_len (⟨5, 0, 0, 0, 1099511627776⟩ : Rc) (ok_of (by decide)) (by decide) 9 (by decide) w
  dsimp only [Rc.v] at PF PL
  go_enter Try.func3, Try.ntmps3
  go_wp2_with (with_reducible refine st_alloc ?_)
  refine StopOp.go rfl fun K hK => ?_
  refine wp_alloc zero_rec ?_
  intro g1 w1 h11 h12 hm1 hB1
  simp only [put_some, List.set_cons_succ, List.set_cons_zero]
  refine hK _ _ ?_
  clear hK K
  go_wp2_with (with_reducible refine st_store ?_)
  refine StopOp.go rfl fun K hK => ?_
  refine wp_store (u := .agg #[.int .i64 1, .int .u32 4294967295, .int .i64 1023, .int .i64 1099511627776, .int .i64 0]) (by rfl) (by rfl) (by kernel_rfl) hB1 (by simp [Value.cells]) (by simp [Value.cells, Value.oneCell']) ?_
  intro w2 hm2 hB2
  refine hK _ _ ?_
  clear hK K
  have hF2 : Blk w2 g1 25 [.int .i64 1, .int .u32 4294967295, .int .i64 1023, .int .i64 1099511627776, .int .i64 0] := hB2
  have hM2 : Mod [] w w2 := hm1.fresh hm2 (by simpa using h11)
  clear hB1 hB2 hm1 hm2
  go_wp2_with (with_reducible refine st_alloc ?_)
  refine StopOp.go rfl fun K hK => ?_
  refine wp_alloc zero_rec ?_
  intro g3 w3 h31 h32 hm3 hB3
  simp only [put_some, List.set_cons_succ, List.set_cons_zero]
  refine hK _ _ ?_
  clear hK K
  go_wp2_with (with_reducible refine st_store ?_)
  refine StopOp.go rfl fun K hK => ?_
  refine wp_store (u := .agg #[.int .i64 5, .int .u32 0, .int .i64 0, .int .i64 0, .int .i64 1099511627776]) (by rfl) (by rfl) (by kernel_rfl) hB3 (by simp [Value.cells]) (by simp [Value.cells, Value.oneCell']) ?_
  intro w4 hm4 hB4
  refine hK _ _ ?_
  clear hK K
  have hL4 : Blk w4 g3 25 [.int .i64 5, .int .u32 0, .int .i64 0, .int .i64 0, .int .i64 1099511627776] := hB4
  have hm24 : Mod [] w2 w4 := hm3.fresh hm4 (by simpa using h31)
  have hM4 := hM2.ext hm24
  have hF4 := hF2.ext hm24
  have a0 := hF4.cell' (i := 0) rfl
  have a1 := hF4.cell' (i := 1) rfl
  have a2 := hF4.cell' (i := 2) rfl
  have a3 := hF4.cell' (i := 3) rfl
  have a4 := hF4.cell' (i := 4) rfl
  clear hB3 hB4 hm3 hm4 hF2 hM2 hm24
  go_wp2_with (first
                | (with_reducible refine st_bslice ?_)
                | (go_at_call 9; (with_reducible refine (PF w4).mono ?_); rintro e w5 ⟨ao5, cap5, rfl, hm5⟩; have hL5 := hL4.ext hm5; have hF5 := hF4.ext hm5; have b0 := hL5.cell' (i := 0) rfl; have b1 := hL5.cell' (i := 1) rfl; have b2 := hL5.cell' (i := 2) rfl; have b3 := hL5.cell' (i := 3) rfl; have b4 := hL5.cell' (i := 4) rfl)
                | (go_at_call 9; (with_reducible refine (PL w5).mono ?_); rintro e w6 ⟨ao6, cap6, rfl, hm6⟩; have hL6 := hL5.ext hm6; have hF6 := hF5.ext hm6; have c0 := hL6.cell' (i := 0) rfl; have c1 := hL6.cell' (i := 1) rfl; have c2 := hL6.cell' (i := 2) rfl; have c3 := hL6.cell' (i := 3) rfl; have c4 := hL6.cell' (i := 4) rfl; have d0 := hF6.cell' (i := 0) rfl; have d1 := hF6.cell' (i := 1) rfl; have d2 := hF6.cell' (i := 2) rfl; have d3 := hF6.cell' (i := 3) rfl; have d4 := hF6.cell' (i := 4) rfl))
  have hM6 := (hM4.ext hm5).ext hm6
  clear a0 a1 a2 a3 a4 b0 b1 b2 b3 b4 c0 c1 c2 c3 c4 d0 d1 d2 d3 d4 hL4 hL5 hL6 hF4 hF5 hF6 hm5 hm6 hM4
  refine StopOp.go rfl fun K hK => ?_
  refine wp_bslice stRec [.agg #[.int .i64 1, .int .u32 4294967295, .int .i64 1023, .int .i64 1099511627776, .int .i64 0], .agg #[.int .i64 1, .int .u32 4294967295, .int .i64 1023, .int .i64 1099511627776, .int .i64 0], .agg #[.int .i64 5, .int .u32 0, .int .i64 0, .int .i64 0, .int .i64 1099511627776], .agg #[.int .i64 0, .int .u32 0, .int .i64 0, .int .i64 0, .int .i64 0], .agg #[.int .i64 6, .int .u32 1, .int .i64 0, .int .i64 0, .int .i64 0], .agg #[.int .i64 (-1), .int .u32 1, .int .i64 0, .int .i64 0, .int .i64 0], .agg #[.int .i64 1, .int .u32 1, .int .i64 0, .int .i64 0, .int .i64 0], .agg #[.int .i64 5, .int .u32 0, .int .i64 0, .int .i64 0, .int .i64 0], .agg #[.int .i64 1, .int .u32 0, .int .i64 0, .int .i64 1, .int .i64 0], .agg #[.int .i64 2, .int .u32 0, .int .i64 0, .int .i64 0, .int .i64 0]] rfl (by decide) (by rfl) (by simp [Value.cells]) ?_
  intro p w7 hp1 hp2 hm7 hB7
  simp only [put_some, List.set_cons_succ, List.set_cons_zero]
  refine hK _ _ ?_
  clear hK K
  have hR7 : Blk w7 p 25 [.int .i64 1, .int .u32 4294967295, .int .i64 1023, .int .i64 1099511627776, .int .i64 0, .int .i64 1, .int .u32 4294967295, .int .i64 1023, .int .i64 1099511627776, .int .i64 0, .int .i64 5, .int .u32 0, .int .i64 0, .int .i64 0, .int .i64 1099511627776, .int .i64 0, .int .u32 0, .int .i64 0, .int .i64 0, .int .i64 0, .int .i64 6, .int .u32 1, .int .i64 0, .int .i64 0, .int .i64 0, .int .i64 (-1), .int .u32 1, .int .i64 0, .int .i64 0, .int .i64 0, .int .i64 1, .int .u32 1, .int .i64 0, .int .i64 0, .int .i64 0, .int .i64 5, .int .u32 0, .int .i64 0, .int .i64 0, .int .i64 0, .int .i64 1, .int .u32 0, .int .i64 0, .int .i64 1, .int .i64 0, .int .i64 2, .int .u32 0, .int .i64 0, .int .i64 0, .int .i64 0] := hB7
  have hM7 := hM6.ext hm7
  have hpw : w.heap.size ≤ p := Nat.le_trans hM6.size hp1
  clear hB7 hm7 hM6
  have x2 := hR7.cell' (i := 2) rfl
  go_wp2_with (with_reducible refine st_store ?_)
  refine StopOp.go rfl fun K hK => ?_
  refine wp_store1 (by kernel_rfl) (by rfl) (u := (.int .i64 1024)) (by rfl) ⟨rfl, rfl⟩ hR7 (by simp) ?_
  intro w8 hm8 hB8
  refine hK _ _ ?_
  clear hK K
  have hR8 : Blk w8 p 25 [.int .i64 1, .int .u32 4294967295, .int .i64 1024, .int .i64 1099511627776, .int .i64 0, .int .i64 1, .int .u32 4294967295, .int .i64 1023, .int .i64 1099511627776, .int .i64 0, .int .i64 5, .int .u32 0, .int .i64 0, .int .i64 0, .int .i64 1099511627776, .int .i64 0, .int .u32 0, .int .i64 0, .int .i64 0, .int .i64 0, .int .i64 6, .int .u32 1, .int .i64 0, .int .i64 0, .int .i64 0, .int .i64 (-1), .int .u32 1, .int .i64 0, .int .i64 0, .int .i64 0, .int .i64 1, .int .u32 1, .int .i64 0, .int .i64 0, .int .i64 0, .int .i64 5, .int .u32 0, .int .i64 0, .int .i64 0, .int .i64 0, .int .i64 1, .int .u32 0, .int .i64 0, .int .i64 1, .int .i64 0, .int .i64 2, .int .u32 0, .int .i64 0, .int .i64 0, .int .i64 0] := hB8
  have hM8 := hM7.fresh hm8 (by simpa using hpw)
  clear hB8 hm8 hM7 hR7 x2
  have x8 := hR8.cell' (i := 8) rfl
  go_wp2_with (with_reducible refine st_store ?_)
  refine StopOp.go rfl fun K hK => ?_
  refine wp_store1 (by kernel_rfl) (by rfl) (u := (.int .i64 1099511627777)) (by rfl) ⟨rfl, rfl⟩ hR8 (by simp) ?_
  intro w9 hm9 hB9
  refine hK _ _ ?_
  clear hK K
  have hR9 : Blk w9 p 25 [.int .i64 1, .int .u32 4294967295, .int .i64 1024, .int .i64 1099511627776, .int .i64 0, .int .i64 1, .int .u32 4294967295, .int .i64 1023, .int .i64 1099511627777, .int .i64 0, .int .i64 5, .int .u32 0, .int .i64 0, .int .i64 0, .int .i64 1099511627776, .int .i64 0, .int .u32 0, .int .i64 0, .int .i64 0, .int .i64 0, .int .i64 6, .int .u32 1, .int .i64 0, .int .i64 0, .int .i64 0, .int .i64 (-1), .int .u32 1, .int .i64 0, .int .i64 0, .int .i64 0, .int .i64 1, .int .u32 1, .int .i64 0, .int .i64 0, .int .i64 0, .int .i64 5, .int .u32 0, .int .i64 0, .int .i64 0, .int .i64 0, .int .i64 1, .int .u32 0, .int .i64 0, .int .i64 1, .int .i64 0, .int .i64 2, .int .u32 0, .int .i64 0, .int .i64 0, .int .i64 0] := hB9
  have hM9 := hM8.fresh hm9 (by simpa using hpw)
  clear hB9 hm9 hM8 hR8 x8
  have x14 := hR9.cell' (i := 14) rfl
  go_wp2_with (with_reducible refine st_store ?_)
  refine StopOp.go rfl fun K hK => ?_
  refine wp_store1 (by kernel_rfl) (by rfl) (u := (.int .i64 1099511627777)) (by rfl) ⟨rfl, rfl⟩ hR9 (by simp) ?_
  intro w10 hm10 hB10
  refine hK _ _ ?_
  clear hK K
  have hR10 : Blk w10 p 25 numC := hB10
  have hM10 := hM9.fresh hm10 (by simpa using hpw)
  clear hB10 hm10 hM9 hR9 x14 PF PL
  go_wp2_with fail
  go_loopw [8] (fun i wr => ∃ j : Nat, j ≤ 10 ∧ i = .int .i64 j ∧ Mod [] w wr ∧ Blk wr p 25 numC) (fun i _ => 10 - (intOf i).toNat)
  case atStart => exact ⟨0, by omega, rfl, hM10, hR10⟩
  case round =>
    obtain ⟨j, hj, rfl, hmr, hBr⟩ := hrel
    have hjs : j = 0 ∨ j = 1 ∨ j = 2 ∨ j = 3 ∨ j = 4 ∨ j = 5 ∨ j = 6 ∨ j = 7 ∨ j = 8 ∨ j = 9 ∨ j = 10 := by omega
    rcases hjs with rfl | rfl | rfl | rfl | rfl | rfl | rfl | rfl | rfl | rfl | rfl
    · have PN := fun w => cput_no (⟨1, 4294967295, 1024, 1099511627776, 0⟩ : Rc) (ok_of (by decide)) (by decide) w
      have CN := fun w => ccheck_no (⟨1, 4294967295, 1024, 1099511627776, 0⟩ : Rc) (ok_of (by decide)) (by decide) w
      dsimp only [Rc.v] at PN CN
      have c0 := hBr.cell' (i := 0) rfl
      have c1 := hBr.cell' (i := 1) rfl
      have c2 := hBr.cell' (i := 2) rfl
      have c3 := hBr.cell' (i := 3) rfl
      have c4 := hBr.cell' (i := 4) rfl
      go_wp2_with (first
                    | (go_at_call 9; (with_reducible refine (PN _).mono ?_); rintro e w8 ⟨ao8, cap8, rfl, hm8⟩; have hB8 := hBr.ext hm8; have d0 := hB8.cell' (i := 0) rfl; have d1 := hB8.cell' (i := 1) rfl; have d2 := hB8.cell' (i := 2) rfl; have d3 := hB8.cell' (i := 3) rfl; have d4 := hB8.cell' (i := 4) rfl)
                    | (go_at_call 10; (with_reducible refine (CN _).mono ?_); rintro e w9 ⟨rfl, hm9⟩))
      go_roundw
      case rel => exact ⟨1, by omega, by go_num, (hmr.ext hm8).ext hm9, hB8.ext hm9⟩
      case measure => simp [intOf]
    · have PN := fun w => cput_no (⟨1, 4294967295, 1023, 1099511627777, 0⟩ : Rc) (ok_of (by decide)) (by decide) w
      have CN := fun w => ccheck_no (⟨1, 4294967295, 1023, 1099511627777, 0⟩ : Rc) (ok_of (by decide)) (by decide) w
      dsimp only [Rc.v] at PN CN
      have c0 := hBr.cell' (i := 5) rfl
      have c1 := hBr.cell' (i := 6) rfl
      have c2 := hBr.cell' (i := 7) rfl
      have c3 := hBr.cell' (i := 8) rfl
      have c4 := hBr.cell' (i := 9) rfl
      go_wp2_with (first
                    | (go_at_call 9; (with_reducible refine (PN _).mono ?_); rintro e w8 ⟨ao8, cap8, rfl, hm8⟩; have hB8 := hBr.ext hm8; have d0 := hB8.cell' (i := 5) rfl; have d1 := hB8.cell' (i := 6) rfl; have d2 := hB8.cell' (i := 7) rfl; have d3 := hB8.cell' (i := 8) rfl; have d4 := hB8.cell' (i := 9) rfl)
                    | (go_at_call 10; (with_reducible refine (CN _).mono ?_); rintro e w9 ⟨rfl, hm9⟩))
      go_roundw
      case rel => exact ⟨2, by omega, by go_num, (hmr.ext hm8).ext hm9, hB8.ext hm9⟩
      case measure => simp [intOf]
    · have PN := fun w => cput_no (⟨5, 0, 0, 0, 1099511627777⟩ : Rc) (ok_of (by decide)) (by decide) w
      have CN := fun w => ccheck_no (⟨5, 0, 0, 0, 1099511627777⟩ : Rc) (ok_of (by decide)) (by decide) w
      dsimp only [Rc.v] at PN CN
      have c0 := hBr.cell' (i := 10) rfl
      have c1 := hBr.cell' (i := 11) rfl
      have c2 := hBr.cell' (i := 12) rfl
      have c3 := hBr.cell' (i := 13) rfl
      have c4 := hBr.cell' (i := 14) rfl
      go_wp2_with (first
                    | (go_at_call 9; (with_reducible refine (PN _).mono ?_); rintro e w8 ⟨ao8, cap8, rfl, hm8⟩; have hB8 := hBr.ext hm8; have d0 := hB8.cell' (i := 10) rfl; have d1 := hB8.cell' (i := 11) rfl; have d2 := hB8.cell' (i := 12) rfl; have d3 := hB8.cell' (i := 13) rfl; have d4 := hB8.cell' (i := 14) rfl)
                    | (go_at_call 10; (with_reducible refine (CN _).mono ?_); rintro e w9 ⟨rfl, hm9⟩))
      go_roundw
      case rel => exact ⟨3, by omega, by go_num, (hmr.ext hm8).ext hm9, hB8.ext hm9⟩
      case measure => simp [intOf]
    · have PN := fun w => cput_no (⟨0, 0, 0, 0, 0⟩ : Rc) (ok_of (by decide)) (by decide) w
      have CN := fun w => ccheck_no (⟨0, 0, 0, 0, 0⟩ : Rc) (ok_of (by decide)) (by decide) w
      dsimp only [Rc.v] at PN CN
      have c0 := hBr.cell' (i := 15) rfl
      have c1 := hBr.cell' (i := 16) rfl
      have c2 := hBr.cell' (i := 17) rfl
      have c3 := hBr.cell' (i := 18) rfl
      have c4 := hBr.cell' (i := 19) rfl
      go_wp2_with (first
                    | (go_at_call 9; (with_reducible refine (PN _).mono ?_); rintro e w8 ⟨ao8, cap8, rfl, hm8⟩; have hB8 := hBr.ext hm8; have d0 := hB8.cell' (i := 15) rfl; have d1 := hB8.cell' (i := 16) rfl; have d2 := hB8.cell' (i := 17) rfl; have d3 := hB8.cell' (i := 18) rfl; have d4 := hB8.cell' (i := 19) rfl)
                    | (go_at_call 10; (with_reducible refine (CN _).mono ?_); rintro e w9 ⟨rfl, hm9⟩))
      go_roundw
      case rel => exact ⟨4, by omega, by go_num, (hmr.ext hm8).ext hm9, hB8.ext hm9⟩
      case measure => simp [intOf]
    · have PN := fun w => cput_no (⟨6, 1, 0, 0, 0⟩ : Rc) (ok_of (by decide)) (by decide) w
      have CN := fun w => ccheck_no (⟨6, 1, 0, 0, 0⟩ : Rc) (ok_of (by decide)) (by decide) w
      dsimp only [Rc.v] at PN CN
      have c0 := hBr.cell' (i := 20) rfl
      have c1 := hBr.cell' (i := 21) rfl
      have c2 := hBr.cell' (i := 22) rfl
      have c3 := hBr.cell' (i := 23) rfl
      have c4 := hBr.cell' (i := 24) rfl
      go_wp2_with (first
                    | (go_at_call 9; (with_reducible refine (PN _).mono ?_); rintro e w8 ⟨ao8, cap8, rfl, hm8⟩; have hB8 := hBr.ext hm8; have d0 := hB8.cell' (i := 20) rfl; have d1 := hB8.cell' (i := 21) rfl; have d2 := hB8.cell' (i := 22) rfl; have d3 := hB8.cell' (i := 23) rfl; have d4 := hB8.cell' (i := 24) rfl)
                    | (go_at_call 10; (with_reducible refine (CN _).mono ?_); rintro e w9 ⟨rfl, hm9⟩))
      go_roundw
      case rel => exact ⟨5, by omega, by go_num, (hmr.ext hm8).ext hm9, hB8.ext hm9⟩
      case measure => simp [intOf]
    · have PN := fun w => cput_no (⟨-1, 1, 0, 0, 0⟩ : Rc) (ok_of (by decide)) (by decide) w
      have CN := fun w => ccheck_no (⟨-1, 1, 0, 0, 0⟩ : Rc) (ok_of (by decide)) (by decide) w
      dsimp only [Rc.v] at PN CN
      have c0 := hBr.cell' (i := 25) rfl
      have c1 := hBr.cell' (i := 26) rfl
      have c2 := hBr.cell' (i := 27) rfl
      have c3 := hBr.cell' (i := 28) rfl
      have c4 := hBr.cell' (i := 29) rfl
      go_wp2_with (first
                    | (go_at_call 9; (with_reducible refine (PN _).mono ?_); rintro e w8 ⟨ao8, cap8, rfl, hm8⟩; have hB8 := hBr.ext hm8; have d0 := hB8.cell' (i := 25) rfl; have d1 := hB8.cell' (i := 26) rfl; have d2 := hB8.cell' (i := 27) rfl; have d3 := hB8.cell' (i := 28) rfl; have d4 := hB8.cell' (i := 29) rfl)
                    | (go_at_call 10; (with_reducible refine (CN _).mono ?_); rintro e w9 ⟨rfl, hm9⟩))
      go_roundw
      case rel => exact ⟨6, by omega, by go_num, (hmr.ext hm8).ext hm9, hB8.ext hm9⟩
      case measure => simp [intOf]
    · have PN := fun w => cput_no (⟨1, 1, 0, 0, 0⟩ : Rc) (ok_of (by decide)) (by decide) w
      have CN := fun w => ccheck_no (⟨1, 1, 0, 0, 0⟩ : Rc) (ok_of (by decide)) (by decide) w
      dsimp only [Rc.v] at PN CN
      have c0 := hBr.cell' (i := 30) rfl
      have c1 := hBr.cell' (i := 31) rfl
      have c2 := hBr.cell' (i := 32) rfl
      have c3 := hBr.cell' (i := 33) rfl
      have c4 := hBr.cell' (i := 34) rfl
      go_wp2_with (first
                    | (go_at_call 9; (with_reducible refine (PN _).mono ?_); rintro e w8 ⟨ao8, cap8, rfl, hm8⟩; have hB8 := hBr.ext hm8; have d0 := hB8.cell' (i := 30) rfl; have d1 := hB8.cell' (i := 31) rfl; have d2 := hB8.cell' (i := 32) rfl; have d3 := hB8.cell' (i := 33) rfl; have d4 := hB8.cell' (i := 34) rfl)
                    | (go_at_call 10; (with_reducible refine (CN _).mono ?_); rintro e w9 ⟨rfl, hm9⟩))
      go_roundw
      case rel => exact ⟨7, by omega, by go_num, (hmr.ext hm8).ext hm9, hB8.ext hm9⟩
      case measure => simp [intOf]
    · have PN := fun w => cput_no (⟨5, 0, 0, 0, 0⟩ : Rc) (ok_of (by decide)) (by decide) w
      have CN := fun w => ccheck_no (⟨5, 0, 0, 0, 0⟩ : Rc) (ok_of (by decide)) (by decide) w
      dsimp only [Rc.v] at PN CN
      have c0 := hBr.cell' (i := 35) rfl
      have c1 := hBr.cell' (i := 36) rfl
      have c2 := hBr.cell' (i := 37) rfl
      have c3 := hBr.cell' (i := 38) rfl
      have c4 := hBr.cell' (i := 39) rfl
      go_wp2_with (first
                    | (go_at_call 9; (with_reducible refine (PN _).mono ?_); rintro e w8 ⟨ao8, cap8, rfl, hm8⟩; have hB8 := hBr.ext hm8; have d0 := hB8.cell' (i := 35) rfl; have d1 := hB8.cell' (i := 36) rfl; have d2 := hB8.cell' (i := 37) rfl; have d3 := hB8.cell' (i := 38) rfl; have d4 := hB8.cell' (i := 39) rfl)
                    | (go_at_call 10; (with_reducible refine (CN _).mono ?_); rintro e w9 ⟨rfl, hm9⟩))
      go_roundw
      case rel => exact ⟨8, by omega, by go_num, (hmr.ext hm8).ext hm9, hB8.ext hm9⟩
      case measure => simp [intOf]
    · have PN := fun w => cput_no (⟨1, 0, 0, 1, 0⟩ : Rc) (ok_of (by decide)) (by decide) w
      have CN := fun w => ccheck_no (⟨1, 0, 0, 1, 0⟩ : Rc) (ok_of (by decide)) (by decide) w
      dsimp only [Rc.v] at PN CN
      have c0 := hBr.cell' (i := 40) rfl
      have c1 := hBr.cell' (i := 41) rfl
      have c2 := hBr.cell' (i := 42) rfl
      have c3 := hBr.cell' (i := 43) rfl
      have c4 := hBr.cell' (i := 44) rfl
      go_wp2_with (first
                    | (go_at_call 9; (with_reducible refine (PN _).mono ?_); rintro e w8 ⟨ao8, cap8, rfl, hm8⟩; have hB8 := hBr.ext hm8; have d0 := hB8.cell' (i := 40) rfl; have d1 := hB8.cell' (i := 41) rfl; have d2 := hB8.cell' (i := 42) rfl; have d3 := hB8.cell' (i := 43) rfl; have d4 := hB8.cell' (i := 44) rfl)
                    | (go_at_call 10; (with_reducible refine (CN _).mono ?_); rintro e w9 ⟨rfl, hm9⟩))
      go_roundw
      case rel => exact ⟨9, by omega, by go_num, (hmr.ext hm8).ext hm9, hB8.ext hm9⟩
      case measure => simp [intOf]
    · have PN := fun w => cput_no (⟨2, 0, 0, 0, 0⟩ : Rc) (ok_of (by decide)) (by decide) w
      have CN := fun w => ccheck_no (⟨2, 0, 0, 0, 0⟩ : Rc) (ok_of (by decide)) (by decide) w
      dsimp only [Rc.v] at PN CN
      have c0 := hBr.cell' (i := 45) rfl
      have c1 := hBr.cell' (i := 46) rfl
      have c2 := hBr.cell' (i := 47) rfl
      have c3 := hBr.cell' (i := 48) rfl
      have c4 := hBr.cell' (i := 49) rfl
      go_wp2_with (first
                    | (go_at_call 9; (with_reducible refine (PN _).mono ?_); rintro e w8 ⟨ao8, cap8, rfl, hm8⟩; have hB8 := hBr.ext hm8; have d0 := hB8.cell' (i := 45) rfl; have d1 := hB8.cell' (i := 46) rfl; have d2 := hB8.cell' (i := 47) rfl; have d3 := hB8.cell' (i := 48) rfl; have d4 := hB8.cell' (i := 49) rfl)
                    | (go_at_call 10; (with_reducible refine (CN _).mono ?_); rintro e w9 ⟨rfl, hm9⟩))
      go_roundw
      case rel => exact ⟨10, by omega, by go_num, (hmr.ext hm8).ext hm9, hB8.ext hm9⟩
      case measure => simp [intOf]
    · have E1 : errC [] = 4 := by kernel_rfl
      have E2 : errC [2, 1, 0, 0, 0, 7] = 5 := by kernel_rfl
      have E3 : errC [5, 1, 0, 0, 0, 0, 1, 0, 0] = 160 := by kernel_rfl
      have G1 := fun w => cget_val [] (.slice none 0 0) 4 cz w E1 (getC_no (by rw [E1]; decide)) (Ob.nil w).bs (by decide)
      have G2 := fun v w h => cget_val [2, 1, 0, 0, 0, 7] v 5 cz w E2 (getC_no (by rw [E2]; decide)) h (by decide)
      have G3 := fun v w h => cget_val [5, 1, 0, 0, 0, 0, 1, 0, 0] v 160 cz w E3 (getC_no (by rw [E3]; decide)) h (by decide)
      dsimp only [Rc.v, cz] at G1 G2 G3
      clear hBr E1 E2 E3
      go_wp2_with (first
                    | (with_reducible refine st_alloc ?_)
                    | (go_at_call 11; (with_reducible refine (G1 _).mono ?_); rintro e w11 ⟨rfl, hm11⟩))
      refine StopOp.go rfl fun K hK => ?_
      refine wp_alloc zero_rec ?_
      intro g12 w12 h121 h122 hm12 hB12
      simp only [put_some, List.set_cons_succ, List.set_cons_zero]
      refine hK _ _ ?_
      clear hK K
      go_wp2_with (with_reducible refine st_store ?_)
      refine StopOp.go rfl fun K hK => ?_
      refine wp_store (u := .agg #[.int .i64 0, .int .u32 0, .int .i64 0, .int .i64 0, .int .i64 0]) (by rfl) (by rfl) (by kernel_rfl) hB12 (by simp [Value.cells]) (by simp [Value.cells, Value.oneCell']) ?_
      intro w13 hm13 hB13
      refine hK _ _ ?_
      clear hK K
      have hM13 : Mod [] w w13 := (hmr.ext hm11).ext (hm12.fresh hm13 (by simpa using h121))
      clear hB12 hB13 hm11 hm12 hm13
      go_wp2_with (with_reducible refine st_bslice ?_)
      refine StopOp.go rfl fun K hK => ?_
      refine wp_bslice stB [.int .u8 2, .int .u8 1, .int .u8 0, .int .u8 0, .int .u8 0, .int .u8 7] rfl (by decide) (by rfl) (by simp [Value.cells]) ?_
      intro p14 w14 h141 h142 hm14 hB14
      simp only [put_some, List.set_cons_succ, List.set_cons_zero]
      refine hK _ _ ?_
      clear hK K
      have hb14 : Bs w14 (.slice (some ⟨p14, 0, none⟩) 6 6) [2, 1, 0, 0, 0, 7] := Bs.of_blk (l := [2, 1, 0, 0, 0, 7]) (rest := []) hB14 (by decide) (by omega)
      go_wp2_with (first
                    | (with_reducible refine st_alloc ?_)
                    | (go_at_call 11; refine (G2 _ _ hb14).mono ?_; rintro e w15 ⟨rfl, hm15⟩))
      refine StopOp.go rfl fun K hK => ?_
      refine wp_alloc zero_rec ?_
      intro g16 w16 h161 h162 hm16 hB16
      simp only [put_some, List.set_cons_succ, List.set_cons_zero]
      refine hK _ _ ?_
      clear hK K
      go_wp2_with (with_reducible refine st_store ?_)
      refine StopOp.go rfl fun K hK => ?_
      refine wp_store (u := .agg #[.int .i64 0, .int .u32 0, .int .i64 0, .int .i64 0, .int .i64 0]) (by rfl) (by rfl) (by kernel_rfl) hB16 (by simp [Value.cells]) (by simp [Value.cells, Value.oneCell']) ?_
      intro w17 hm17 hB17
      refine hK _ _ ?_
      clear hK K
      have hM17 : Mod [] w w17 := ((hM13.ext hm14).ext hm15).ext (hm16.fresh hm17 (by simpa using h161))
      clear hB16 hB17 hm15 hm16 hm17 hB14 hb14 hm14 hM13
      go_wp2_with (with_reducible refine st_bslice ?_)
      refine StopOp.go rfl fun K hK => ?_
      refine wp_bslice stB [.int .u8 5, .int .u8 1, .int .u8 0, .int .u8 0, .int .u8 0, .int .u8 0, .int .u8 1, .int .u8 0, .int .u8 0] rfl (by decide) (by rfl) (by simp [Value.cells]) ?_
      intro p18 w18 h181 h182 hm18 hB18
      simp only [put_some, List.set_cons_succ, List.set_cons_zero]
      refine hK _ _ ?_
      clear hK K
      have hb18 : Bs w18 (.slice (some ⟨p18, 0, none⟩) 9 9) [5, 1, 0, 0, 0, 0, 1, 0, 0] := Bs.of_blk (l := [5, 1, 0, 0, 0, 0, 1, 0, 0]) (rest := []) hB18 (by decide) (by omega)
      go_wp2_with (first
                    | (with_reducible refine st_alloc ?_)
                    | (go_at_call 11; refine (G3 _ _ hb18).mono ?_; rintro e w19 ⟨rfl, hm19⟩))
      refine StopOp.go rfl fun K hK => ?_
      refine wp_alloc zero_rec ?_
      intro g20 w20 h201 h202 hm20 hB20
      simp only [put_some, List.set_cons_succ, List.set_cons_zero]
      refine hK _ _ ?_
      clear hK K
      go_wp2_with (with_reducible refine st_store ?_)
      refine StopOp.go rfl fun K hK => ?_
      refine wp_store (u := .agg #[.int .i64 0, .int .u32 0, .int .i64 0, .int .i64 0, .int .i64 0]) (by rfl) (by rfl) (by kernel_rfl) hB20 (by simp [Value.cells]) (by simp [Value.cells, Value.oneCell']) ?_
      intro w21 hm21 hB21
      refine hK _ _ ?_
      clear hK K
      have hM21 : Mod [] w w21 := ((hM17.ext hm18).ext hm19).ext (hm20.fresh hm21 (by simpa using h201))
      clear hB20 hB21 hm19 hm20 hm21 hB18 hb18 hm18 hM17
      go_wp2_with (go_at_call 12; (with_reducible refine (rcawake_any _).mono ?_); rintro e w22 ⟨rfl, hm22⟩)
      go_ret
      exact ⟨rfl, hM21.ext hm22⟩
end Go.Proofs.Ytkhnemnpadhgoaa
