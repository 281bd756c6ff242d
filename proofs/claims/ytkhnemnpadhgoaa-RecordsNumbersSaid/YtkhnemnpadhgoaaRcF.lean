import Derived.Test.YtkhnemnpadhgoaaRcE
import Derived.Test.YtkhnemnpadhgoaaWrA
/-! Records: the reference's time, may, Check, Size, Bytes, Put. -/
set_option linter.unusedVariables false
set_option linter.unusedSimpArgs false
set_option maxRecDepth 100000
namespace Go.Proofs.Ytkhnemnpadhgoaa
open Go.RowKit Gw

def timeB (n : Int) : Bool := decide (1 ≤ n) && decide (n ≤ 1099511627776)
theorem rtime_any (n : Int) (c : Bool) (w : World) (hc : timeB n = c) : Calls Try.prog 48 #[.int .i64 n] w fun e w' => e = .returned (.bool c) ∧ w = w' := by
  unfold timeB at hc
  by_cases h1 : 1 ≤ n
  · have e1 : decide (1 ≤ n) = true := decide_eq_true h1
    have e2 : decide (n ≤ 1099511627776) = c := by rw [← hc, e1]; rfl
    clear hc
    go_enter Try.func48, Try.ntmps48
    go_wp2
    go_ret
    exact ⟨rfl, rfl⟩
  · have e1 : decide (1 ≤ n) = false := decide_eq_false h1
    have e2 : c = false := by rw [← hc, e1]; rfl
    subst e2
    clear hc
    go_enter Try.func48, Try.ntmps48
    go_wp2
    go_ret
    exact ⟨rfl, rfl⟩
def seatB (n : Int) : Bool := decide (0 ≤ n) && decide (n < 1024)
theorem mayC_1 (id seat till clock : Int) (h0 : 0 ≤ id) (h1 : id ≤ 4294967295) : mayC ⟨1, id, seat, till, clock⟩ = ((id != 0) && seatB seat && timeB till && (clock == 0)) := by
  rw [Bool.eq_iff_iff]; simp [mayC, MayC, within, cI, cS, cU, cC, seatB, timeB]; omega
theorem mayC_23 (k id seat till clock : Int) (hk : k = 2 ∨ k = 3) (h0 : 0 ≤ id) (h1 : id ≤ 4294967295) : mayC ⟨k, id, seat, till, clock⟩ = ((id != 0) && (seat == 0) && (till == 0) && (clock == 0)) := by
  rw [Bool.eq_iff_iff]; rcases hk with rfl | rfl <;> simp [mayC, MayC, within, cI, cS, cU, cC] <;> omega
theorem mayC_4 (id seat till clock : Int) (h0 : 0 ≤ id) (h1 : id ≤ 4294967295) : mayC ⟨4, id, seat, till, clock⟩ = ((id != 0) && seatB seat && (till == 0) && (clock == 0)) := by
  rw [Bool.eq_iff_iff]; simp [mayC, MayC, within, cI, cS, cU, cC, seatB]; omega
theorem mayC_5 (id seat till clock : Int) (h0 : 0 ≤ id) (h1 : id ≤ 4294967295) : mayC ⟨5, id, seat, till, clock⟩ = ((id == 0) && (seat == 0) && (till == 0) && timeB clock) := by
  rw [Bool.eq_iff_iff]; simp [mayC, MayC, within, cI, cS, cU, cC, timeB]; omega
theorem mayC_no (k id seat till clock : Int) (hk : okC k = false) : mayC ⟨k, id, seat, till, clock⟩ = false := by
  refine decide_eq_false fun h => ?_
  have := mayC_ok h
  rw [hk] at this
  cases this

set_option maxRecDepth 1000000 in
set_option maxHeartbeats 4000000 in
theorem rmay_1 (id seat till clock : Int) (w : World) (h0 : 0 ≤ id) (h1 : id ≤ 4294967295) : Calls Try.prog 39 #[.agg #[.int .i64 1, .int .u32 id, .int .i64 seat, .int .i64 till, .int .i64 clock]] w fun e w' => e = .returned (.bool (mayC ⟨1, id, seat, till, clock⟩)) ∧ Mod [] w w' := by
  rw [mayC_1 _ _ _ _ h0 h1]
  obtain ⟨cs, hcs⟩ : ∃ c, seatB seat = c := ⟨_, rfl⟩
  rw [hcs]
  unfold seatB at hcs
  obtain ⟨ci, hci⟩ : ∃ c, (id != 0) = c := ⟨_, rfl⟩
  rw [hci]
  obtain ⟨ct, hct⟩ : ∃ c, timeB till = c := ⟨_, rfl⟩
  rw [hct]
  have TM := fun w => rtime_any till ct w hct
  clear hct
  obtain ⟨cc, hcc⟩ : ∃ c, (clock == 0) = c := ⟨_, rfl⟩
  rw [hcc]
  have HCS := Lib.hid hcs
  clear hcs
  go_enter Try.func39, Try.ntmps39
  go_wp2_with (with_reducible refine st_box ?_)
  refine StopOp.go rfl fun K hK => ?_
  refine wp_box (v := .agg #[.int .i64 1, .int .u32 id, .int .i64 seat, .int .i64 till, .int .i64 clock]) (by rfl) ?_
  intro g w1 hg1 hg2 hm1 hB1
  simp only [put_some, List.set_cons_succ, List.set_cons_zero]
  refine hK _ _ ?_
  clear hK K
  have hB : Blk w1 g 25 [.int .i64 1, .int .u32 id, .int .i64 seat, .int .i64 till, .int .i64 clock] := hB1
  have b0 := hB.cell' (i := 0) rfl
  have b1 := hB.cell' (i := 1) rfl
  have b2 := hB.cell' (i := 2) rfl
  have b3 := hB.cell' (i := 3) rfl
  have b4 := hB.cell' (i := 4) rfl
  clear hB1
  go_upto_region 1 with fail
  go_cut [3] (fun s wx => s = .bool cs ∧ w1 = wx)
  case first =>
    by_cases hs : 0 ≤ seat
    · have e1 : decide (0 ≤ seat) = true := decide_eq_true hs
      have e2 : decide (seat < 1024) = cs := by rw [← HCS.out, e1]; rfl
      go_wp2_with fail
      go_meet
      exact ⟨rfl, rfl⟩
    · have e1 : decide (0 ≤ seat) = false := decide_eq_false hs
      obtain rfl : cs = false := by rw [← HCS.out, e1]; rfl
      go_wp2_with fail
      go_meet
      exact ⟨rfl, rfl⟩
  case rest =>
  obtain ⟨rfl, rfl⟩ := hcut
  cases ci with
  | false =>
    go_wp2_with (go_at_call 48; (with_reducible refine (TM _).mono ?_); rintro e wz ⟨rfl, rfl⟩)
    (go_ret; exact ⟨rfl, hm1⟩)
  | true =>
    cases cs with
    | false =>
      go_wp2_with (go_at_call 48; (with_reducible refine (TM _).mono ?_); rintro e wz ⟨rfl, rfl⟩)
      (go_ret; exact ⟨rfl, hm1⟩)
    | true =>
      cases ct with
      | false =>
        go_wp2_with (go_at_call 48; (with_reducible refine (TM _).mono ?_); rintro e wz ⟨rfl, rfl⟩)
        (go_ret; exact ⟨rfl, hm1⟩)
      | true =>
        cases cc with
        | false =>
          go_wp2_with (go_at_call 48; (with_reducible refine (TM _).mono ?_); rintro e wz ⟨rfl, rfl⟩)
          (go_ret; exact ⟨rfl, hm1⟩)
        | true =>
          go_wp2_with (go_at_call 48; (with_reducible refine (TM _).mono ?_); rintro e wz ⟨rfl, rfl⟩)
          (go_ret; exact ⟨rfl, hm1⟩)
set_option maxRecDepth 1000000 in
set_option maxHeartbeats 4000000 in
theorem rmay_2 (id seat till clock : Int) (w : World) (h0 : 0 ≤ id) (h1 : id ≤ 4294967295) : Calls Try.prog 39 #[.agg #[.int .i64 2, .int .u32 id, .int .i64 seat, .int .i64 till, .int .i64 clock]] w fun e w' => e = .returned (.bool (mayC ⟨2, id, seat, till, clock⟩)) ∧ Mod [] w w' := by
  rw [mayC_23 _ _ _ _ _ (.inl rfl) h0 h1]
  obtain ⟨cs, hcs⟩ : ∃ c, seatB seat = c := ⟨_, rfl⟩
  unfold seatB at hcs
  obtain ⟨ci, hci⟩ : ∃ c, (id != 0) = c := ⟨_, rfl⟩
  rw [hci]
  obtain ⟨cz, hcz⟩ : ∃ c, (seat == 0) = c := ⟨_, rfl⟩
  rw [hcz]
  obtain ⟨ct, hct⟩ : ∃ c, (till == 0) = c := ⟨_, rfl⟩
  rw [hct]
  obtain ⟨cc, hcc⟩ : ∃ c, (clock == 0) = c := ⟨_, rfl⟩
  rw [hcc]
  have HCS := Lib.hid hcs
  clear hcs
  go_enter Try.func39, Try.ntmps39
  go_wp2_with (with_reducible refine st_box ?_)
  refine StopOp.go rfl fun K hK => ?_
  refine wp_box (v := .agg #[.int .i64 2, .int .u32 id, .int .i64 seat, .int .i64 till, .int .i64 clock]) (by rfl) ?_
  intro g w1 hg1 hg2 hm1 hB1
  simp only [put_some, List.set_cons_succ, List.set_cons_zero]
  refine hK _ _ ?_
  clear hK K
  have hB : Blk w1 g 25 [.int .i64 2, .int .u32 id, .int .i64 seat, .int .i64 till, .int .i64 clock] := hB1
  have b0 := hB.cell' (i := 0) rfl
  have b1 := hB.cell' (i := 1) rfl
  have b2 := hB.cell' (i := 2) rfl
  have b3 := hB.cell' (i := 3) rfl
  have b4 := hB.cell' (i := 4) rfl
  clear hB1
  go_upto_region 1 with fail
  go_cut [3] (fun s wx => s = .bool cs ∧ w1 = wx)
  case first =>
    by_cases hs : 0 ≤ seat
    · have e1 : decide (0 ≤ seat) = true := decide_eq_true hs
      have e2 : decide (seat < 1024) = cs := by rw [← HCS.out, e1]; rfl
      go_wp2_with fail
      go_meet
      exact ⟨rfl, rfl⟩
    · have e1 : decide (0 ≤ seat) = false := decide_eq_false hs
      obtain rfl : cs = false := by rw [← HCS.out, e1]; rfl
      go_wp2_with fail
      go_meet
      exact ⟨rfl, rfl⟩
  case rest =>
  obtain ⟨rfl, rfl⟩ := hcut
  cases ci with
  | false =>
    go_wp2_with fail
    (go_ret; exact ⟨rfl, hm1⟩)
  | true =>
    cases cz with
    | false =>
      go_wp2_with fail
      (go_ret; exact ⟨rfl, hm1⟩)
    | true =>
      cases ct with
      | false =>
        go_wp2_with fail
        (go_ret; exact ⟨rfl, hm1⟩)
      | true =>
        cases cc with
        | false =>
          go_wp2_with fail
          (go_ret; exact ⟨rfl, hm1⟩)
        | true =>
          go_wp2_with fail
          (go_ret; exact ⟨rfl, hm1⟩)
set_option maxRecDepth 1000000 in
set_option maxHeartbeats 4000000 in
theorem rmay_3 (id seat till clock : Int) (w : World) (h0 : 0 ≤ id) (h1 : id ≤ 4294967295) : Calls Try.prog 39 #[.agg #[.int .i64 3, .int .u32 id, .int .i64 seat, .int .i64 till, .int .i64 clock]] w fun e w' => e = .returned (.bool (mayC ⟨3, id, seat, till, clock⟩)) ∧ Mod [] w w' := by
  rw [mayC_23 _ _ _ _ _ (.inr rfl) h0 h1]
  obtain ⟨cs, hcs⟩ : ∃ c, seatB seat = c := ⟨_, rfl⟩
  unfold seatB at hcs
  obtain ⟨ci, hci⟩ : ∃ c, (id != 0) = c := ⟨_, rfl⟩
  rw [hci]
  obtain ⟨cz, hcz⟩ : ∃ c, (seat == 0) = c := ⟨_, rfl⟩
  rw [hcz]
  obtain ⟨ct, hct⟩ : ∃ c, (till == 0) = c := ⟨_, rfl⟩
  rw [hct]
  obtain ⟨cc, hcc⟩ : ∃ c, (clock == 0) = c := ⟨_, rfl⟩
  rw [hcc]
  have HCS := Lib.hid hcs
  clear hcs
  go_enter Try.func39, Try.ntmps39
  go_wp2_with (with_reducible refine st_box ?_)
  refine StopOp.go rfl fun K hK => ?_
  refine wp_box (v := .agg #[.int .i64 3, .int .u32 id, .int .i64 seat, .int .i64 till, .int .i64 clock]) (by rfl) ?_
  intro g w1 hg1 hg2 hm1 hB1
  simp only [put_some, List.set_cons_succ, List.set_cons_zero]
  refine hK _ _ ?_
  clear hK K
  have hB : Blk w1 g 25 [.int .i64 3, .int .u32 id, .int .i64 seat, .int .i64 till, .int .i64 clock] := hB1
  have b0 := hB.cell' (i := 0) rfl
  have b1 := hB.cell' (i := 1) rfl
  have b2 := hB.cell' (i := 2) rfl
  have b3 := hB.cell' (i := 3) rfl
  have b4 := hB.cell' (i := 4) rfl
  clear hB1
  go_upto_region 1 with fail
  go_cut [3] (fun s wx => s = .bool cs ∧ w1 = wx)
  case first =>
    by_cases hs : 0 ≤ seat
    · have e1 : decide (0 ≤ seat) = true := decide_eq_true hs
      have e2 : decide (seat < 1024) = cs := by rw [← HCS.out, e1]; rfl
      go_wp2_with fail
      go_meet
      exact ⟨rfl, rfl⟩
    · have e1 : decide (0 ≤ seat) = false := decide_eq_false hs
      obtain rfl : cs = false := by rw [← HCS.out, e1]; rfl
      go_wp2_with fail
      go_meet
      exact ⟨rfl, rfl⟩
  case rest =>
  obtain ⟨rfl, rfl⟩ := hcut
  cases ci with
  | false =>
    go_wp2_with fail
    (go_ret; exact ⟨rfl, hm1⟩)
  | true =>
    cases cz with
    | false =>
      go_wp2_with fail
      (go_ret; exact ⟨rfl, hm1⟩)
    | true =>
      cases ct with
      | false =>
        go_wp2_with fail
        (go_ret; exact ⟨rfl, hm1⟩)
      | true =>
        cases cc with
        | false =>
          go_wp2_with fail
          (go_ret; exact ⟨rfl, hm1⟩)
        | true =>
          go_wp2_with fail
          (go_ret; exact ⟨rfl, hm1⟩)
set_option maxRecDepth 1000000 in
set_option maxHeartbeats 4000000 in
theorem rmay_4 (id seat till clock : Int) (w : World) (h0 : 0 ≤ id) (h1 : id ≤ 4294967295) : Calls Try.prog 39 #[.agg #[.int .i64 4, .int .u32 id, .int .i64 seat, .int .i64 till, .int .i64 clock]] w fun e w' => e = .returned (.bool (mayC ⟨4, id, seat, till, clock⟩)) ∧ Mod [] w w' := by
  rw [mayC_4 _ _ _ _ h0 h1]
  obtain ⟨cs, hcs⟩ : ∃ c, seatB seat = c := ⟨_, rfl⟩
  rw [hcs]
  unfold seatB at hcs
  obtain ⟨ci, hci⟩ : ∃ c, (id != 0) = c := ⟨_, rfl⟩
  rw [hci]
  obtain ⟨ct, hct⟩ : ∃ c, (till == 0) = c := ⟨_, rfl⟩
  rw [hct]
  obtain ⟨cc, hcc⟩ : ∃ c, (clock == 0) = c := ⟨_, rfl⟩
  rw [hcc]
  have HCS := Lib.hid hcs
  clear hcs
  go_enter Try.func39, Try.ntmps39
  go_wp2_with (with_reducible refine st_box ?_)
  refine StopOp.go rfl fun K hK => ?_
  refine wp_box (v := .agg #[.int .i64 4, .int .u32 id, .int .i64 seat, .int .i64 till, .int .i64 clock]) (by rfl) ?_
  intro g w1 hg1 hg2 hm1 hB1
  simp only [put_some, List.set_cons_succ, List.set_cons_zero]
  refine hK _ _ ?_
  clear hK K
  have hB : Blk w1 g 25 [.int .i64 4, .int .u32 id, .int .i64 seat, .int .i64 till, .int .i64 clock] := hB1
  have b0 := hB.cell' (i := 0) rfl
  have b1 := hB.cell' (i := 1) rfl
  have b2 := hB.cell' (i := 2) rfl
  have b3 := hB.cell' (i := 3) rfl
  have b4 := hB.cell' (i := 4) rfl
  clear hB1
  go_upto_region 1 with fail
  go_cut [3] (fun s wx => s = .bool cs ∧ w1 = wx)
  case first =>
    by_cases hs : 0 ≤ seat
    · have e1 : decide (0 ≤ seat) = true := decide_eq_true hs
      have e2 : decide (seat < 1024) = cs := by rw [← HCS.out, e1]; rfl
      go_wp2_with fail
      go_meet
      exact ⟨rfl, rfl⟩
    · have e1 : decide (0 ≤ seat) = false := decide_eq_false hs
      obtain rfl : cs = false := by rw [← HCS.out, e1]; rfl
      go_wp2_with fail
      go_meet
      exact ⟨rfl, rfl⟩
  case rest =>
  obtain ⟨rfl, rfl⟩ := hcut
  cases ci with
  | false =>
    go_wp2_with fail
    (go_ret; exact ⟨rfl, hm1⟩)
  | true =>
    cases cs with
    | false =>
      go_wp2_with fail
      (go_ret; exact ⟨rfl, hm1⟩)
    | true =>
      cases ct with
      | false =>
        go_wp2_with fail
        (go_ret; exact ⟨rfl, hm1⟩)
      | true =>
        cases cc with
        | false =>
          go_wp2_with fail
          (go_ret; exact ⟨rfl, hm1⟩)
        | true =>
          go_wp2_with fail
          (go_ret; exact ⟨rfl, hm1⟩)
set_option maxRecDepth 1000000 in
set_option maxHeartbeats 4000000 in
theorem rmay_5 (id seat till clock : Int) (w : World) (h0 : 0 ≤ id) (h1 : id ≤ 4294967295) : Calls Try.prog 39 #[.agg #[.int .i64 5, .int .u32 id, .int .i64 seat, .int .i64 till, .int .i64 clock]] w fun e w' => e = .returned (.bool (mayC ⟨5, id, seat, till, clock⟩)) ∧ Mod [] w w' := by
  rw [mayC_5 _ _ _ _ h0 h1]
  obtain ⟨cs, hcs⟩ : ∃ c, seatB seat = c := ⟨_, rfl⟩
  unfold seatB at hcs
  obtain ⟨ci, hci⟩ : ∃ c, (id == 0) = c := ⟨_, rfl⟩
  rw [hci]
  obtain ⟨cz, hcz⟩ : ∃ c, (seat == 0) = c := ⟨_, rfl⟩
  rw [hcz]
  obtain ⟨ct, hct⟩ : ∃ c, (till == 0) = c := ⟨_, rfl⟩
  rw [hct]
  obtain ⟨cc, hcc⟩ : ∃ c, timeB clock = c := ⟨_, rfl⟩
  rw [hcc]
  have TM := fun w => rtime_any clock cc w hcc
  clear hcc
  have HCS := Lib.hid hcs
  clear hcs
  go_enter Try.func39, Try.ntmps39
  go_wp2_with (with_reducible refine st_box ?_)
  refine StopOp.go rfl fun K hK => ?_
  refine wp_box (v := .agg #[.int .i64 5, .int .u32 id, .int .i64 seat, .int .i64 till, .int .i64 clock]) (by rfl) ?_
  intro g w1 hg1 hg2 hm1 hB1
  simp only [put_some, List.set_cons_succ, List.set_cons_zero]
  refine hK _ _ ?_
  clear hK K
  have hB : Blk w1 g 25 [.int .i64 5, .int .u32 id, .int .i64 seat, .int .i64 till, .int .i64 clock] := hB1
  have b0 := hB.cell' (i := 0) rfl
  have b1 := hB.cell' (i := 1) rfl
  have b2 := hB.cell' (i := 2) rfl
  have b3 := hB.cell' (i := 3) rfl
  have b4 := hB.cell' (i := 4) rfl
  clear hB1
  go_upto_region 1 with fail
  go_cut [3] (fun s wx => s = .bool cs ∧ w1 = wx)
  case first =>
    by_cases hs : 0 ≤ seat
    · have e1 : decide (0 ≤ seat) = true := decide_eq_true hs
      have e2 : decide (seat < 1024) = cs := by rw [← HCS.out, e1]; rfl
      go_wp2_with fail
      go_meet
      exact ⟨rfl, rfl⟩
    · have e1 : decide (0 ≤ seat) = false := decide_eq_false hs
      obtain rfl : cs = false := by rw [← HCS.out, e1]; rfl
      go_wp2_with fail
      go_meet
      exact ⟨rfl, rfl⟩
  case rest =>
  obtain ⟨rfl, rfl⟩ := hcut
  cases ci with
  | false =>
    go_wp2_with (go_at_call 48; (with_reducible refine (TM _).mono ?_); rintro e wz ⟨rfl, rfl⟩)
    (go_ret; exact ⟨rfl, hm1⟩)
  | true =>
    cases cz with
    | false =>
      go_wp2_with (go_at_call 48; (with_reducible refine (TM _).mono ?_); rintro e wz ⟨rfl, rfl⟩)
      (go_ret; exact ⟨rfl, hm1⟩)
    | true =>
      cases ct with
      | false =>
        go_wp2_with (go_at_call 48; (with_reducible refine (TM _).mono ?_); rintro e wz ⟨rfl, rfl⟩)
        (go_ret; exact ⟨rfl, hm1⟩)
      | true =>
        cases cc with
        | false =>
          go_wp2_with (go_at_call 48; (with_reducible refine (TM _).mono ?_); rintro e wz ⟨rfl, rfl⟩)
          (go_ret; exact ⟨rfl, hm1⟩)
        | true =>
          go_wp2_with (go_at_call 48; (with_reducible refine (TM _).mono ?_); rintro e wz ⟨rfl, rfl⟩)
          (go_ret; exact ⟨rfl, hm1⟩)
set_option maxRecDepth 1000000 in
set_option maxHeartbeats 4000000 in
theorem rmay_no (k id seat till clock : Int) (w : World) (hk : okC k = false) : Calls Try.prog 39 #[.agg #[.int .i64 k, .int .u32 id, .int .i64 seat, .int .i64 till, .int .i64 clock]] w fun e w' => e = .returned (.bool false) ∧ Mod [] w w' := by
  have hk' := of_decide_eq_false hk
  have k1 : (k == 1) = false := by simp; omega
  have k2 : (k == 2) = false := by simp; omega
  have k3 : (k == 3) = false := by simp; omega
  have k4 : (k == 4) = false := by simp; omega
  have k5 : (k == 5) = false := by simp; omega
  clear hk hk'
  obtain ⟨cs, hcs⟩ : ∃ c, seatB seat = c := ⟨_, rfl⟩
  unfold seatB at hcs
  have HCS := Lib.hid hcs
  clear hcs
  go_enter Try.func39, Try.ntmps39
  go_wp2_with (with_reducible refine st_box ?_)
  refine StopOp.go rfl fun K hK => ?_
  refine wp_box (v := .agg #[.int .i64 k, .int .u32 id, .int .i64 seat, .int .i64 till, .int .i64 clock]) (by rfl) ?_
  intro g w1 hg1 hg2 hm1 hB1
  simp only [put_some, List.set_cons_succ, List.set_cons_zero]
  refine hK _ _ ?_
  clear hK K
  have hB : Blk w1 g 25 [.int .i64 k, .int .u32 id, .int .i64 seat, .int .i64 till, .int .i64 clock] := hB1
  have b0 := hB.cell' (i := 0) rfl
  have b1 := hB.cell' (i := 1) rfl
  have b2 := hB.cell' (i := 2) rfl
  have b3 := hB.cell' (i := 3) rfl
  have b4 := hB.cell' (i := 4) rfl
  clear hB1
  go_upto_region 1 with fail
  go_cut [3] (fun s wx => s = .bool cs ∧ w1 = wx)
  case first =>
    by_cases hs : 0 ≤ seat
    · have e1 : decide (0 ≤ seat) = true := decide_eq_true hs
      have e2 : decide (seat < 1024) = cs := by rw [← HCS.out, e1]; rfl
      go_wp2_with fail
      go_meet
      exact ⟨rfl, rfl⟩
    · have e1 : decide (0 ≤ seat) = false := decide_eq_false hs
      obtain rfl : cs = false := by rw [← HCS.out, e1]; rfl
      go_wp2_with fail
      go_meet
      exact ⟨rfl, rfl⟩
  case rest =>
  obtain ⟨rfl, rfl⟩ := hcut
  go_wp2_with fail
  go_ret
  exact ⟨rfl, hm1⟩
theorem rmay_any (r : Rc) (hr : r.ok) (w : World) : Calls Try.prog 39 #[r.v] w fun e w' => e = .returned (.bool (mayC r)) ∧ Mod [] w w' := by
  have i1 := hr.i1
  have i2 := hr.i2
  clear hr
  obtain ⟨k, id, seat, till, clock⟩ := r
  dsimp only at i1 i2
  cases hk : okC k with
  | false => rw [mayC_no _ _ _ _ _ hk]; exact rmay_no k id seat till clock w hk
  | true =>
    rcases kindsC _ hk with rfl | rfl | rfl | rfl | rfl
    · exact rmay_1 id seat till clock w i1 i2
    · exact rmay_2 id seat till clock w i1 i2
    · exact rmay_3 id seat till clock w i1 i2
    · exact rmay_4 id seat till clock w i1 i2
    · exact rmay_5 id seat till clock w i1 i2
set_option maxHeartbeats 4000000 in
theorem rcheck_any (r : Rc) (hr : r.ok) (w : World) : Calls Try.prog 20 #[r.v] w fun e w' => e = .returned (.int .i64 (chkC r)) ∧ Mod [] w w' := by
  have M := fun w => rmay_any r hr w
  have hck : chkC r = if mayC r = true then 0 else 160 := rfl
  rw [hck]
  obtain ⟨b, hb⟩ : ∃ b, b = mayC r := ⟨_, rfl⟩
  rw [← hb] at M ⊢
  clear hb hr hck
  obtain ⟨k, id, seat, till, clock⟩ := r
  dsimp only [Rc.v] at *
  cases b with
  | false =>
    simp only [Bool.false_eq_true, if_false]
    go_enter Try.func20, Try.ntmps20
    go_wp2_with (with_reducible refine st_box ?_)
    refine StopOp.go rfl fun K hK => ?_
    refine wp_box (v := .agg #[.int .i64 k, .int .u32 id, .int .i64 seat, .int .i64 till, .int .i64 clock]) (by rfl) ?_
    intro g w1 hg1 hg2 hm1 hB1
    simp only [put_some, List.set_cons_succ, List.set_cons_zero]
    refine hK _ _ ?_
    clear hK K
    have hB : Blk w1 g 25 [.int .i64 k, .int .u32 id, .int .i64 seat, .int .i64 till, .int .i64 clock] := hB1
    have b0 := hB.cell' (i := 0) rfl
    have b1 := hB.cell' (i := 1) rfl
    have b2 := hB.cell' (i := 2) rfl
    have b3 := hB.cell' (i := 3) rfl
    have b4 := hB.cell' (i := 4) rfl
    clear hB1
    go_wp2_with (go_at_call 39; (with_reducible refine (M _).mono ?_); rintro e w2 ⟨rfl, hm2⟩)
    go_ret
    exact ⟨rfl, hm1.ext hm2⟩
  | true =>
    simp only [if_true]
    go_enter Try.func20, Try.ntmps20
    go_wp2_with (with_reducible refine st_box ?_)
    refine StopOp.go rfl fun K hK => ?_
    refine wp_box (v := .agg #[.int .i64 k, .int .u32 id, .int .i64 seat, .int .i64 till, .int .i64 clock]) (by rfl) ?_
    intro g w1 hg1 hg2 hm1 hB1
    simp only [put_some, List.set_cons_succ, List.set_cons_zero]
    refine hK _ _ ?_
    clear hK K
    have hB : Blk w1 g 25 [.int .i64 k, .int .u32 id, .int .i64 seat, .int .i64 till, .int .i64 clock] := hB1
    have b0 := hB.cell' (i := 0) rfl
    have b1 := hB.cell' (i := 1) rfl
    have b2 := hB.cell' (i := 2) rfl
    have b3 := hB.cell' (i := 3) rfl
    have b4 := hB.cell' (i := 4) rfl
    clear hB1
    go_wp2_with (go_at_call 39; (with_reducible refine (M _).mono ?_); rintro e w2 ⟨rfl, hm2⟩)
    go_ret
    exact ⟨rfl, hm1.ext hm2⟩
theorem rsize_any (k : Int) (w : World) : Calls Try.prog 22 #[.int .i64 k] w fun e w' => e = .returned (.int .i64 (sizeC k)) ∧ w = w' := by
  by_cases k1 : k = 1
  · subst k1
    go_enter Try.func22, Try.ntmps22
    go_wp2
    go_ret
    exact ⟨rfl, rfl⟩
  by_cases k2 : k = 2
  · subst k2
    go_enter Try.func22, Try.ntmps22
    go_wp2
    go_ret
    exact ⟨rfl, rfl⟩
  by_cases k3 : k = 3
  · subst k3
    go_enter Try.func22, Try.ntmps22
    go_wp2
    go_ret
    exact ⟨rfl, rfl⟩
  by_cases k4 : k = 4
  · subst k4
    go_enter Try.func22, Try.ntmps22
    go_wp2
    go_ret
    exact ⟨rfl, rfl⟩
  by_cases k5 : k = 5
  · subst k5
    go_enter Try.func22, Try.ntmps22
    go_wp2
    go_ret
    exact ⟨rfl, rfl⟩
  have hs : sizeC k = 0 := by unfold sizeC; rw [if_neg k1, if_neg (by omega), if_neg k4, if_neg k5]
  rw [hs]
  have e1 : (k == 1) = false := by simpa using k1
  have e2 : (k == 2) = false := by simpa using k2
  have e3 : (k == 3) = false := by simpa using k3
  have e4 : (k == 4) = false := by simpa using k4
  have e5 : (k == 5) = false := by simpa using k5
  clear k1 k2 k3 k4 k5 hs
  go_enter Try.func22, Try.ntmps22
  go_wp2
  go_ret
  exact ⟨rfl, rfl⟩

theorem Ob.nn {w : World} {v : Value} {l : List UInt8} {n : Nat} (h : Ob w v l) (hl : l.length = n) : ∃ ao cap, v = .slice ao n cap ∧ n ≤ cap ∧ cap ≤ 9223372036854775807 := by
  subst hl
  exact Sl.form h.bs
theorem Ob.on {w : World} {v : Value} {l : List UInt8} {n : Nat} (h : Ob w v l) (hn : l.length = n) : Ow w 5 1 v n (bv l) := by
  subst hn
  exact h
theorem Bs.on {w : World} {v : Value} {l : List UInt8} {n : Nat} (h : Bs w v l) (hn : l.length = n) : Sl w 1 v n (bv l) := by
  subst hn
  exact h
theorem Ob.of_on {w : World} {v : Value} {l : List UInt8} {n : Nat} (h : Ow w 5 1 v n (bv l)) (hn : l.length = n) : Ob w v l := by
  subst hn
  exact h
theorem low_one (n : Nat) : low n 1 = [UInt8.ofNat n] := by simp [low]
def ObN (w : World) (l : List UInt8) (e : Ending) (w' : World) : Prop := ∃ v, e = .returned v ∧ Ob w' v l ∧ New w v ∧ Mod [] w w'

set_option maxRecDepth 1000000 in
set_option maxHeartbeats 4000000 in
theorem rbytes_1 (idn sn tn : Nat) (clock : Int) (w : World) (hidn : idn ≤ 4294967295) (hsn : sn ≤ 65535) (htn : tn ≤ 9223372036854775807) : Calls Try.prog 42 #[.agg #[.int .i64 1, .int .u32 (idn : Nat), .int .i64 (sn : Nat), .int .i64 (tn : Nat), .int .i64 clock]] w (ObN w (low 1 1 ++ low idn 4 ++ low sn 2 ++ low tn 8)) := by
  have yidn : (idn : Int) ≤ 4294967295 := by omega
  have xidn : (0 : Int) ≤ (idn : Int) := by omega
  have zidn : IntKind.u64.wrap (idn : Int) = idn := IntWalk.u64_in _ (by omega)
  have ysn : (sn : Int) ≤ 65535 := by omega
  have xsn : (0 : Int) ≤ (sn : Int) := by omega
  have zsn : IntKind.u64.wrap (sn : Int) = sn := IntWalk.u64_in _ (by omega)
  have ytn : (tn : Int) ≤ 9223372036854775807 := by omega
  have xtn : (0 : Int) ≤ (tn : Int) := by omega
  have ztn : IntKind.u64.wrap (tn : Int) = tn := IntWalk.u64_in _ (by omega)
  go_enter Try.func42, Try.ntmps42
  go_wp2_with (with_reducible refine st_box ?_)
  refine StopOp.go rfl fun K hK => ?_
  refine wp_box (v := .agg #[.int .i64 1, .int .u32 (idn : Nat), .int .i64 (sn : Nat), .int .i64 (tn : Nat), .int .i64 clock]) (by rfl) ?_
  intro g w1 hg1 hg2 hm1 hB1
  simp only [put_some, List.set_cons_succ, List.set_cons_zero]
  refine hK _ _ ?_
  clear hK K
  have hB : Blk w1 g 25 [.int .i64 1, .int .u32 (idn : Nat), .int .i64 (sn : Nat), .int .i64 (tn : Nat), .int .i64 clock] := hB1
  have b0 := hB.cell' (i := 0) rfl
  have b1 := hB.cell' (i := 1) rfl
  have b2 := hB.cell' (i := 2) rfl
  have b3 := hB.cell' (i := 3) rfl
  have b4 := hB.cell' (i := 4) rfl
  clear hB1
  go_wp2_with (with_reducible refine st_bslice ?_)
  refine StopOp.go rfl fun K hK => ?_
  refine wp_bslice stB [.int .u8 1] rfl (by decide) (by rfl) (by simp [Value.cells]) ?_
  intro p w4 hp1 hp2 hm4 hB4
  simp only [put_some, List.set_cons_succ, List.set_cons_zero]
  refine hK _ _ ?_
  clear hK K
  have ho4 : Ob w4 (.slice (some ⟨p, 0, none⟩) 1 1) (low 1 1) := by
    rw [low_one]
    exact Ow.of_blk (rest := []) hB4 (Nat.le_refl _) (by omega) rfl rfl
  have hN4 : New w (.slice (some ⟨p, 0, none⟩) 1 1) := fun k hk => by have := hm1.size; simp [blks] at hk; omega
  have hM4 : Mod [] w w4 := hm1.ext hm4
  have hB' := hB.ext hm4
  have d0 := hB'.cell' (i := 0) rfl
  have d1 := hB'.cell' (i := 1) rfl
  have d2 := hB'.cell' (i := 2) rfl
  have d3 := hB'.cell' (i := 3) rfl
  have d4 := hB'.cell' (i := 4) rfl
  clear hB4 hm4 hm1 b0 b1 b2 b3 b4 hB
  go_wp2_with (first
                | (with_reducible refine st_append ?_)
                | (go_at_call 68; refine (refNumber_any idn 4 _ (by omega) (by omega)).mono ?_; rintro e x5 ⟨y5, rfl, hy5, hny5, hmy5⟩; obtain ⟨ay5, cy5, rfl, _, _⟩ := hy5.nn (low_length _ _)))
  have hpx5 := ho4.ext hmy5
  have hox5 : Ow x5 5 1 _ 1 (bv (low 1 1)) := hpx5.on (by simp [low_length])
  have hyx5 : Sl x5 1 _ 4 (bv (low idn 4)) := hy5.bs.on (low_length _ _)
  refine StopOp.go rfl fun K hK => ?_
  refine wp_append_ow stB (by rfl) (by rfl) hox5 hyx5 (bv_one _) (by omega) (by omega) ?_
  intro v5 w5 hp5 hm5 hb5
  simp only [put_some, List.set_cons_succ, List.set_cons_zero]
  refine hK _ _ ?_
  clear hK K
  rw [← bv_append] at hp5
  have hN5 : New w v5 := fun k hk => (hb5 k hk).elim (hN4 k) fun h => by have := hM4.size; have := hmy5.size; omega
  have hM5 : Mod [] w w5 := (hM4.ext hmy5).fresh hm5 hN4
  have ho5 : Ob w5 v5 (low 1 1 ++ low idn 4) := Ob.of_on hp5 (by simp [low_length])
  obtain ⟨ao5, cap5, rfl, _, _⟩ := ho5.nn (n := 5) (by simp [low_length])
  have hB5 := (hB'.ext hmy5).mod hm5 (Ow.ne hpx5 (hB'.ext hmy5) (by decide))
  clear d0 d1 d2 d3 d4
  have e5_0 := hB5.cell' (i := 0) rfl
  have e5_1 := hB5.cell' (i := 1) rfl
  have e5_2 := hB5.cell' (i := 2) rfl
  have e5_3 := hB5.cell' (i := 3) rfl
  have e5_4 := hB5.cell' (i := 4) rfl
  clear hpx5 hox5 hyx5 hy5 hny5 hmy5 hm5 hb5 hp5 hN4 hM4 ho4 hB'
  go_wp2_with (first
                | (with_reducible refine st_append ?_)
                | (go_at_call 68; refine (refNumber_any sn 2 _ (by omega) (by omega)).mono ?_; rintro e x6 ⟨y6, rfl, hy6, hny6, hmy6⟩; obtain ⟨ay6, cy6, rfl, _, _⟩ := hy6.nn (low_length _ _)))
  have hpx6 := ho5.ext hmy6
  have hox6 : Ow x6 5 1 _ 5 (bv (low 1 1 ++ low idn 4)) := hpx6.on (by simp [low_length])
  have hyx6 : Sl x6 1 _ 2 (bv (low sn 2)) := hy6.bs.on (low_length _ _)
  refine StopOp.go rfl fun K hK => ?_
  refine wp_append_ow stB (by rfl) (by rfl) hox6 hyx6 (bv_one _) (by omega) (by omega) ?_
  intro v6 w6 hp6 hm6 hb6
  simp only [put_some, List.set_cons_succ, List.set_cons_zero]
  refine hK _ _ ?_
  clear hK K
  rw [← bv_append] at hp6
  have hN6 : New w v6 := fun k hk => (hb6 k hk).elim (hN5 k) fun h => by have := hM5.size; have := hmy6.size; omega
  have hM6 : Mod [] w w6 := (hM5.ext hmy6).fresh hm6 hN5
  have ho6 : Ob w6 v6 (low 1 1 ++ low idn 4 ++ low sn 2) := Ob.of_on hp6 (by simp [low_length])
  obtain ⟨ao6, cap6, rfl, _, _⟩ := ho6.nn (n := 7) (by simp [low_length])
  have hB6 := (hB5.ext hmy6).mod hm6 (Ow.ne hpx6 (hB5.ext hmy6) (by decide))
  clear e5_0 e5_1 e5_2 e5_3 e5_4
  have e6_0 := hB6.cell' (i := 0) rfl
  have e6_1 := hB6.cell' (i := 1) rfl
  have e6_2 := hB6.cell' (i := 2) rfl
  have e6_3 := hB6.cell' (i := 3) rfl
  have e6_4 := hB6.cell' (i := 4) rfl
  clear hpx6 hox6 hyx6 hy6 hny6 hmy6 hm6 hb6 hp6 hN5 hM5 ho5 hB5
  go_wp2_with (first
                | (with_reducible refine st_append ?_)
                | (go_at_call 68; refine (refNumber_any tn 8 _ (by omega) (by omega)).mono ?_; rintro e x7 ⟨y7, rfl, hy7, hny7, hmy7⟩; obtain ⟨ay7, cy7, rfl, _, _⟩ := hy7.nn (low_length _ _)))
  have hpx7 := ho6.ext hmy7
  have hox7 : Ow x7 5 1 _ 7 (bv (low 1 1 ++ low idn 4 ++ low sn 2)) := hpx7.on (by simp [low_length])
  have hyx7 : Sl x7 1 _ 8 (bv (low tn 8)) := hy7.bs.on (low_length _ _)
  refine StopOp.go rfl fun K hK => ?_
  refine wp_append_ow stB (by rfl) (by rfl) hox7 hyx7 (bv_one _) (by omega) (by omega) ?_
  intro v7 w7 hp7 hm7 hb7
  simp only [put_some, List.set_cons_succ, List.set_cons_zero]
  refine hK _ _ ?_
  clear hK K
  rw [← bv_append] at hp7
  have hN7 : New w v7 := fun k hk => (hb7 k hk).elim (hN6 k) fun h => by have := hM6.size; have := hmy7.size; omega
  have hM7 : Mod [] w w7 := (hM6.ext hmy7).fresh hm7 hN6
  have ho7 : Ob w7 v7 (low 1 1 ++ low idn 4 ++ low sn 2 ++ low tn 8) := Ob.of_on hp7 (by simp [low_length])
  obtain ⟨ao7, cap7, rfl, _, _⟩ := ho7.nn (n := 15) (by simp [low_length])
  have hB7 := (hB6.ext hmy7).mod hm7 (Ow.ne hpx7 (hB6.ext hmy7) (by decide))
  clear e6_0 e6_1 e6_2 e6_3 e6_4
  have e7_0 := hB7.cell' (i := 0) rfl
  have e7_1 := hB7.cell' (i := 1) rfl
  have e7_2 := hB7.cell' (i := 2) rfl
  have e7_3 := hB7.cell' (i := 3) rfl
  have e7_4 := hB7.cell' (i := 4) rfl
  clear hpx7 hox7 hyx7 hy7 hny7 hmy7 hm7 hb7 hp7 hN6 hM6 ho6 hB6
  go_wp2_with fail
  go_ret
  exact ⟨_, rfl, ho7, hN7, hM7⟩
set_option maxRecDepth 1000000 in
set_option maxHeartbeats 4000000 in
theorem rbytes_2 (idn : Nat) (seat till clock : Int) (w : World) (hidn : idn ≤ 4294967295) : Calls Try.prog 42 #[.agg #[.int .i64 2, .int .u32 (idn : Nat), .int .i64 seat, .int .i64 till, .int .i64 clock]] w (ObN w (low 2 1 ++ low idn 4)) := by
  have yidn : (idn : Int) ≤ 4294967295 := by omega
  have xidn : (0 : Int) ≤ (idn : Int) := by omega
  have zidn : IntKind.u64.wrap (idn : Int) = idn := IntWalk.u64_in _ (by omega)
  go_enter Try.func42, Try.ntmps42
  go_wp2_with (with_reducible refine st_box ?_)
  refine StopOp.go rfl fun K hK => ?_
  refine wp_box (v := .agg #[.int .i64 2, .int .u32 (idn : Nat), .int .i64 seat, .int .i64 till, .int .i64 clock]) (by rfl) ?_
  intro g w1 hg1 hg2 hm1 hB1
  simp only [put_some, List.set_cons_succ, List.set_cons_zero]
  refine hK _ _ ?_
  clear hK K
  have hB : Blk w1 g 25 [.int .i64 2, .int .u32 (idn : Nat), .int .i64 seat, .int .i64 till, .int .i64 clock] := hB1
  have b0 := hB.cell' (i := 0) rfl
  have b1 := hB.cell' (i := 1) rfl
  have b2 := hB.cell' (i := 2) rfl
  have b3 := hB.cell' (i := 3) rfl
  have b4 := hB.cell' (i := 4) rfl
  clear hB1
  go_wp2_with (with_reducible refine st_bslice ?_)
  refine StopOp.go rfl fun K hK => ?_
  refine wp_bslice stB [.int .u8 2] rfl (by decide) (by rfl) (by simp [Value.cells]) ?_
  intro p w4 hp1 hp2 hm4 hB4
  simp only [put_some, List.set_cons_succ, List.set_cons_zero]
  refine hK _ _ ?_
  clear hK K
  have ho4 : Ob w4 (.slice (some ⟨p, 0, none⟩) 1 1) (low 2 1) := by
    rw [low_one]
    exact Ow.of_blk (rest := []) hB4 (Nat.le_refl _) (by omega) rfl rfl
  have hN4 : New w (.slice (some ⟨p, 0, none⟩) 1 1) := fun k hk => by have := hm1.size; simp [blks] at hk; omega
  have hM4 : Mod [] w w4 := hm1.ext hm4
  have hB' := hB.ext hm4
  have d0 := hB'.cell' (i := 0) rfl
  have d1 := hB'.cell' (i := 1) rfl
  have d2 := hB'.cell' (i := 2) rfl
  have d3 := hB'.cell' (i := 3) rfl
  have d4 := hB'.cell' (i := 4) rfl
  clear hB4 hm4 hm1 b0 b1 b2 b3 b4 hB
  go_wp2_with (first
                | (with_reducible refine st_append ?_)
                | (go_at_call 68; refine (refNumber_any idn 4 _ (by omega) (by omega)).mono ?_; rintro e x5 ⟨y5, rfl, hy5, hny5, hmy5⟩; obtain ⟨ay5, cy5, rfl, _, _⟩ := hy5.nn (low_length _ _)))
  have hpx5 := ho4.ext hmy5
  have hox5 : Ow x5 5 1 _ 1 (bv (low 2 1)) := hpx5.on (by simp [low_length])
  have hyx5 : Sl x5 1 _ 4 (bv (low idn 4)) := hy5.bs.on (low_length _ _)
  refine StopOp.go rfl fun K hK => ?_
  refine wp_append_ow stB (by rfl) (by rfl) hox5 hyx5 (bv_one _) (by omega) (by omega) ?_
  intro v5 w5 hp5 hm5 hb5
  simp only [put_some, List.set_cons_succ, List.set_cons_zero]
  refine hK _ _ ?_
  clear hK K
  rw [← bv_append] at hp5
  have hN5 : New w v5 := fun k hk => (hb5 k hk).elim (hN4 k) fun h => by have := hM4.size; have := hmy5.size; omega
  have hM5 : Mod [] w w5 := (hM4.ext hmy5).fresh hm5 hN4
  have ho5 : Ob w5 v5 (low 2 1 ++ low idn 4) := Ob.of_on hp5 (by simp [low_length])
  obtain ⟨ao5, cap5, rfl, _, _⟩ := ho5.nn (n := 5) (by simp [low_length])
  have hB5 := (hB'.ext hmy5).mod hm5 (Ow.ne hpx5 (hB'.ext hmy5) (by decide))
  clear d0 d1 d2 d3 d4
  have e5_0 := hB5.cell' (i := 0) rfl
  have e5_1 := hB5.cell' (i := 1) rfl
  have e5_2 := hB5.cell' (i := 2) rfl
  have e5_3 := hB5.cell' (i := 3) rfl
  have e5_4 := hB5.cell' (i := 4) rfl
  clear hpx5 hox5 hyx5 hy5 hny5 hmy5 hm5 hb5 hp5 hN4 hM4 ho4 hB'
  go_wp2_with fail
  go_ret
  exact ⟨_, rfl, ho5, hN5, hM5⟩
set_option maxRecDepth 1000000 in
set_option maxHeartbeats 4000000 in
theorem rbytes_3 (idn : Nat) (seat till clock : Int) (w : World) (hidn : idn ≤ 4294967295) : Calls Try.prog 42 #[.agg #[.int .i64 3, .int .u32 (idn : Nat), .int .i64 seat, .int .i64 till, .int .i64 clock]] w (ObN w (low 3 1 ++ low idn 4)) := by
  have yidn : (idn : Int) ≤ 4294967295 := by omega
  have xidn : (0 : Int) ≤ (idn : Int) := by omega
  have zidn : IntKind.u64.wrap (idn : Int) = idn := IntWalk.u64_in _ (by omega)
  go_enter Try.func42, Try.ntmps42
  go_wp2_with (with_reducible refine st_box ?_)
  refine StopOp.go rfl fun K hK => ?_
  refine wp_box (v := .agg #[.int .i64 3, .int .u32 (idn : Nat), .int .i64 seat, .int .i64 till, .int .i64 clock]) (by rfl) ?_
  intro g w1 hg1 hg2 hm1 hB1
  simp only [put_some, List.set_cons_succ, List.set_cons_zero]
  refine hK _ _ ?_
  clear hK K
  have hB : Blk w1 g 25 [.int .i64 3, .int .u32 (idn : Nat), .int .i64 seat, .int .i64 till, .int .i64 clock] := hB1
  have b0 := hB.cell' (i := 0) rfl
  have b1 := hB.cell' (i := 1) rfl
  have b2 := hB.cell' (i := 2) rfl
  have b3 := hB.cell' (i := 3) rfl
  have b4 := hB.cell' (i := 4) rfl
  clear hB1
  go_wp2_with (with_reducible refine st_bslice ?_)
  refine StopOp.go rfl fun K hK => ?_
  refine wp_bslice stB [.int .u8 3] rfl (by decide) (by rfl) (by simp [Value.cells]) ?_
  intro p w4 hp1 hp2 hm4 hB4
  simp only [put_some, List.set_cons_succ, List.set_cons_zero]
  refine hK _ _ ?_
  clear hK K
  have ho4 : Ob w4 (.slice (some ⟨p, 0, none⟩) 1 1) (low 3 1) := by
    rw [low_one]
    exact Ow.of_blk (rest := []) hB4 (Nat.le_refl _) (by omega) rfl rfl
  have hN4 : New w (.slice (some ⟨p, 0, none⟩) 1 1) := fun k hk => by have := hm1.size; simp [blks] at hk; omega
  have hM4 : Mod [] w w4 := hm1.ext hm4
  have hB' := hB.ext hm4
  have d0 := hB'.cell' (i := 0) rfl
  have d1 := hB'.cell' (i := 1) rfl
  have d2 := hB'.cell' (i := 2) rfl
  have d3 := hB'.cell' (i := 3) rfl
  have d4 := hB'.cell' (i := 4) rfl
  clear hB4 hm4 hm1 b0 b1 b2 b3 b4 hB
  go_wp2_with (first
                | (with_reducible refine st_append ?_)
                | (go_at_call 68; refine (refNumber_any idn 4 _ (by omega) (by omega)).mono ?_; rintro e x5 ⟨y5, rfl, hy5, hny5, hmy5⟩; obtain ⟨ay5, cy5, rfl, _, _⟩ := hy5.nn (low_length _ _)))
  have hpx5 := ho4.ext hmy5
  have hox5 : Ow x5 5 1 _ 1 (bv (low 3 1)) := hpx5.on (by simp [low_length])
  have hyx5 : Sl x5 1 _ 4 (bv (low idn 4)) := hy5.bs.on (low_length _ _)
  refine StopOp.go rfl fun K hK => ?_
  refine wp_append_ow stB (by rfl) (by rfl) hox5 hyx5 (bv_one _) (by omega) (by omega) ?_
  intro v5 w5 hp5 hm5 hb5
  simp only [put_some, List.set_cons_succ, List.set_cons_zero]
  refine hK _ _ ?_
  clear hK K
  rw [← bv_append] at hp5
  have hN5 : New w v5 := fun k hk => (hb5 k hk).elim (hN4 k) fun h => by have := hM4.size; have := hmy5.size; omega
  have hM5 : Mod [] w w5 := (hM4.ext hmy5).fresh hm5 hN4
  have ho5 : Ob w5 v5 (low 3 1 ++ low idn 4) := Ob.of_on hp5 (by simp [low_length])
  obtain ⟨ao5, cap5, rfl, _, _⟩ := ho5.nn (n := 5) (by simp [low_length])
  have hB5 := (hB'.ext hmy5).mod hm5 (Ow.ne hpx5 (hB'.ext hmy5) (by decide))
  clear d0 d1 d2 d3 d4
  have e5_0 := hB5.cell' (i := 0) rfl
  have e5_1 := hB5.cell' (i := 1) rfl
  have e5_2 := hB5.cell' (i := 2) rfl
  have e5_3 := hB5.cell' (i := 3) rfl
  have e5_4 := hB5.cell' (i := 4) rfl
  clear hpx5 hox5 hyx5 hy5 hny5 hmy5 hm5 hb5 hp5 hN4 hM4 ho4 hB'
  go_wp2_with fail
  go_ret
  exact ⟨_, rfl, ho5, hN5, hM5⟩
set_option maxRecDepth 1000000 in
set_option maxHeartbeats 4000000 in
theorem rbytes_4 (idn sn : Nat) (till clock : Int) (w : World) (hidn : idn ≤ 4294967295) (hsn : sn ≤ 65535) : Calls Try.prog 42 #[.agg #[.int .i64 4, .int .u32 (idn : Nat), .int .i64 (sn : Nat), .int .i64 till, .int .i64 clock]] w (ObN w (low 4 1 ++ low idn 4 ++ low sn 2)) := by
  have yidn : (idn : Int) ≤ 4294967295 := by omega
  have xidn : (0 : Int) ≤ (idn : Int) := by omega
  have zidn : IntKind.u64.wrap (idn : Int) = idn := IntWalk.u64_in _ (by omega)
  have ysn : (sn : Int) ≤ 65535 := by omega
  have xsn : (0 : Int) ≤ (sn : Int) := by omega
  have zsn : IntKind.u64.wrap (sn : Int) = sn := IntWalk.u64_in _ (by omega)
  go_enter Try.func42, Try.ntmps42
  go_wp2_with (with_reducible refine st_box ?_)
  refine StopOp.go rfl fun K hK => ?_
  refine wp_box (v := .agg #[.int .i64 4, .int .u32 (idn : Nat), .int .i64 (sn : Nat), .int .i64 till, .int .i64 clock]) (by rfl) ?_
  intro g w1 hg1 hg2 hm1 hB1
  simp only [put_some, List.set_cons_succ, List.set_cons_zero]
  refine hK _ _ ?_
  clear hK K
  have hB : Blk w1 g 25 [.int .i64 4, .int .u32 (idn : Nat), .int .i64 (sn : Nat), .int .i64 till, .int .i64 clock] := hB1
  have b0 := hB.cell' (i := 0) rfl
  have b1 := hB.cell' (i := 1) rfl
  have b2 := hB.cell' (i := 2) rfl
  have b3 := hB.cell' (i := 3) rfl
  have b4 := hB.cell' (i := 4) rfl
  clear hB1
  go_wp2_with (with_reducible refine st_bslice ?_)
  refine StopOp.go rfl fun K hK => ?_
  refine wp_bslice stB [.int .u8 4] rfl (by decide) (by rfl) (by simp [Value.cells]) ?_
  intro p w4 hp1 hp2 hm4 hB4
  simp only [put_some, List.set_cons_succ, List.set_cons_zero]
  refine hK _ _ ?_
  clear hK K
  have ho4 : Ob w4 (.slice (some ⟨p, 0, none⟩) 1 1) (low 4 1) := by
    rw [low_one]
    exact Ow.of_blk (rest := []) hB4 (Nat.le_refl _) (by omega) rfl rfl
  have hN4 : New w (.slice (some ⟨p, 0, none⟩) 1 1) := fun k hk => by have := hm1.size; simp [blks] at hk; omega
  have hM4 : Mod [] w w4 := hm1.ext hm4
  have hB' := hB.ext hm4
  have d0 := hB'.cell' (i := 0) rfl
  have d1 := hB'.cell' (i := 1) rfl
  have d2 := hB'.cell' (i := 2) rfl
  have d3 := hB'.cell' (i := 3) rfl
  have d4 := hB'.cell' (i := 4) rfl
  clear hB4 hm4 hm1 b0 b1 b2 b3 b4 hB
  go_wp2_with (first
                | (with_reducible refine st_append ?_)
                | (go_at_call 68; refine (refNumber_any idn 4 _ (by omega) (by omega)).mono ?_; rintro e x5 ⟨y5, rfl, hy5, hny5, hmy5⟩; obtain ⟨ay5, cy5, rfl, _, _⟩ := hy5.nn (low_length _ _)))
  have hpx5 := ho4.ext hmy5
  have hox5 : Ow x5 5 1 _ 1 (bv (low 4 1)) := hpx5.on (by simp [low_length])
  have hyx5 : Sl x5 1 _ 4 (bv (low idn 4)) := hy5.bs.on (low_length _ _)
  refine StopOp.go rfl fun K hK => ?_
  refine wp_append_ow stB (by rfl) (by rfl) hox5 hyx5 (bv_one _) (by omega) (by omega) ?_
  intro v5 w5 hp5 hm5 hb5
  simp only [put_some, List.set_cons_succ, List.set_cons_zero]
  refine hK _ _ ?_
  clear hK K
  rw [← bv_append] at hp5
  have hN5 : New w v5 := fun k hk => (hb5 k hk).elim (hN4 k) fun h => by have := hM4.size; have := hmy5.size; omega
  have hM5 : Mod [] w w5 := (hM4.ext hmy5).fresh hm5 hN4
  have ho5 : Ob w5 v5 (low 4 1 ++ low idn 4) := Ob.of_on hp5 (by simp [low_length])
  obtain ⟨ao5, cap5, rfl, _, _⟩ := ho5.nn (n := 5) (by simp [low_length])
  have hB5 := (hB'.ext hmy5).mod hm5 (Ow.ne hpx5 (hB'.ext hmy5) (by decide))
  clear d0 d1 d2 d3 d4
  have e5_0 := hB5.cell' (i := 0) rfl
  have e5_1 := hB5.cell' (i := 1) rfl
  have e5_2 := hB5.cell' (i := 2) rfl
  have e5_3 := hB5.cell' (i := 3) rfl
  have e5_4 := hB5.cell' (i := 4) rfl
  clear hpx5 hox5 hyx5 hy5 hny5 hmy5 hm5 hb5 hp5 hN4 hM4 ho4 hB'
  go_wp2_with (first
                | (with_reducible refine st_append ?_)
                | (go_at_call 68; refine (refNumber_any sn 2 _ (by omega) (by omega)).mono ?_; rintro e x6 ⟨y6, rfl, hy6, hny6, hmy6⟩; obtain ⟨ay6, cy6, rfl, _, _⟩ := hy6.nn (low_length _ _)))
  have hpx6 := ho5.ext hmy6
  have hox6 : Ow x6 5 1 _ 5 (bv (low 4 1 ++ low idn 4)) := hpx6.on (by simp [low_length])
  have hyx6 : Sl x6 1 _ 2 (bv (low sn 2)) := hy6.bs.on (low_length _ _)
  refine StopOp.go rfl fun K hK => ?_
  refine wp_append_ow stB (by rfl) (by rfl) hox6 hyx6 (bv_one _) (by omega) (by omega) ?_
  intro v6 w6 hp6 hm6 hb6
  simp only [put_some, List.set_cons_succ, List.set_cons_zero]
  refine hK _ _ ?_
  clear hK K
  rw [← bv_append] at hp6
  have hN6 : New w v6 := fun k hk => (hb6 k hk).elim (hN5 k) fun h => by have := hM5.size; have := hmy6.size; omega
  have hM6 : Mod [] w w6 := (hM5.ext hmy6).fresh hm6 hN5
  have ho6 : Ob w6 v6 (low 4 1 ++ low idn 4 ++ low sn 2) := Ob.of_on hp6 (by simp [low_length])
  obtain ⟨ao6, cap6, rfl, _, _⟩ := ho6.nn (n := 7) (by simp [low_length])
  have hB6 := (hB5.ext hmy6).mod hm6 (Ow.ne hpx6 (hB5.ext hmy6) (by decide))
  clear e5_0 e5_1 e5_2 e5_3 e5_4
  have e6_0 := hB6.cell' (i := 0) rfl
  have e6_1 := hB6.cell' (i := 1) rfl
  have e6_2 := hB6.cell' (i := 2) rfl
  have e6_3 := hB6.cell' (i := 3) rfl
  have e6_4 := hB6.cell' (i := 4) rfl
  clear hpx6 hox6 hyx6 hy6 hny6 hmy6 hm6 hb6 hp6 hN5 hM5 ho5 hB5
  go_wp2_with fail
  go_ret
  exact ⟨_, rfl, ho6, hN6, hM6⟩
set_option maxRecDepth 1000000 in
set_option maxHeartbeats 4000000 in
theorem rbytes_5 (cn : Nat) (id seat till : Int) (w : World) (hcn : cn ≤ 9223372036854775807) : Calls Try.prog 42 #[.agg #[.int .i64 5, .int .u32 id, .int .i64 seat, .int .i64 till, .int .i64 (cn : Nat)]] w (ObN w (low 5 1 ++ low cn 8)) := by
  have ycn : (cn : Int) ≤ 9223372036854775807 := by omega
  have xcn : (0 : Int) ≤ (cn : Int) := by omega
  have zcn : IntKind.u64.wrap (cn : Int) = cn := IntWalk.u64_in _ (by omega)
  go_enter Try.func42, Try.ntmps42
  go_wp2_with (with_reducible refine st_box ?_)
  refine StopOp.go rfl fun K hK => ?_
  refine wp_box (v := .agg #[.int .i64 5, .int .u32 id, .int .i64 seat, .int .i64 till, .int .i64 (cn : Nat)]) (by rfl) ?_
  intro g w1 hg1 hg2 hm1 hB1
  simp only [put_some, List.set_cons_succ, List.set_cons_zero]
  refine hK _ _ ?_
  clear hK K
  have hB : Blk w1 g 25 [.int .i64 5, .int .u32 id, .int .i64 seat, .int .i64 till, .int .i64 (cn : Nat)] := hB1
  have b0 := hB.cell' (i := 0) rfl
  have b1 := hB.cell' (i := 1) rfl
  have b2 := hB.cell' (i := 2) rfl
  have b3 := hB.cell' (i := 3) rfl
  have b4 := hB.cell' (i := 4) rfl
  clear hB1
  go_wp2_with (with_reducible refine st_bslice ?_)
  refine StopOp.go rfl fun K hK => ?_
  refine wp_bslice stB [.int .u8 5] rfl (by decide) (by rfl) (by simp [Value.cells]) ?_
  intro p w4 hp1 hp2 hm4 hB4
  simp only [put_some, List.set_cons_succ, List.set_cons_zero]
  refine hK _ _ ?_
  clear hK K
  have ho4 : Ob w4 (.slice (some ⟨p, 0, none⟩) 1 1) (low 5 1) := by
    rw [low_one]
    exact Ow.of_blk (rest := []) hB4 (Nat.le_refl _) (by omega) rfl rfl
  have hN4 : New w (.slice (some ⟨p, 0, none⟩) 1 1) := fun k hk => by have := hm1.size; simp [blks] at hk; omega
  have hM4 : Mod [] w w4 := hm1.ext hm4
  have hB' := hB.ext hm4
  have d0 := hB'.cell' (i := 0) rfl
  have d1 := hB'.cell' (i := 1) rfl
  have d2 := hB'.cell' (i := 2) rfl
  have d3 := hB'.cell' (i := 3) rfl
  have d4 := hB'.cell' (i := 4) rfl
  clear hB4 hm4 hm1 b0 b1 b2 b3 b4 hB
  go_wp2_with (first
                | (with_reducible refine st_append ?_)
                | (go_at_call 68; refine (refNumber_any cn 8 _ (by omega) (by omega)).mono ?_; rintro e x5 ⟨y5, rfl, hy5, hny5, hmy5⟩; obtain ⟨ay5, cy5, rfl, _, _⟩ := hy5.nn (low_length _ _)))
  have hpx5 := ho4.ext hmy5
  have hox5 : Ow x5 5 1 _ 1 (bv (low 5 1)) := hpx5.on (by simp [low_length])
  have hyx5 : Sl x5 1 _ 8 (bv (low cn 8)) := hy5.bs.on (low_length _ _)
  refine StopOp.go rfl fun K hK => ?_
  refine wp_append_ow stB (by rfl) (by rfl) hox5 hyx5 (bv_one _) (by omega) (by omega) ?_
  intro v5 w5 hp5 hm5 hb5
  simp only [put_some, List.set_cons_succ, List.set_cons_zero]
  refine hK _ _ ?_
  clear hK K
  rw [← bv_append] at hp5
  have hN5 : New w v5 := fun k hk => (hb5 k hk).elim (hN4 k) fun h => by have := hM4.size; have := hmy5.size; omega
  have hM5 : Mod [] w w5 := (hM4.ext hmy5).fresh hm5 hN4
  have ho5 : Ob w5 v5 (low 5 1 ++ low cn 8) := Ob.of_on hp5 (by simp [low_length])
  obtain ⟨ao5, cap5, rfl, _, _⟩ := ho5.nn (n := 9) (by simp [low_length])
  have hB5 := (hB'.ext hmy5).mod hm5 (Ow.ne hpx5 (hB'.ext hmy5) (by decide))
  clear d0 d1 d2 d3 d4
  have e5_0 := hB5.cell' (i := 0) rfl
  have e5_1 := hB5.cell' (i := 1) rfl
  have e5_2 := hB5.cell' (i := 2) rfl
  have e5_3 := hB5.cell' (i := 3) rfl
  have e5_4 := hB5.cell' (i := 4) rfl
  clear hpx5 hox5 hyx5 hy5 hny5 hmy5 hm5 hb5 hp5 hN4 hM4 ho4 hB'
  go_wp2_with fail
  go_ret
  exact ⟨_, rfl, ho5, hN5, hM5⟩
theorem rbytes_any (r : Rc) (hm : MayC r) (w : World) : Calls Try.prog 42 #[r.v] w (ObN w (cbytes r)) := by
  obtain ⟨p1, p2, p3, p4, p5, p6, p7, p8, p9, p10⟩ := mayC_parts hm
  have hk := mayC_ok hm
  clear hm
  obtain ⟨k, id, seat, till, clock⟩ := r
  dsimp only at *
  obtain ⟨idn, rfl⟩ := Int.eq_ofNat_of_zero_le p3
  obtain ⟨sn, rfl⟩ := Int.eq_ofNat_of_zero_le p5
  obtain ⟨tn, rfl⟩ := Int.eq_ofNat_of_zero_le p7
  obtain ⟨cn, rfl⟩ := Int.eq_ofNat_of_zero_le p9
  rcases kindsC _ hk with rfl | rfl | rfl | rfl | rfl
  · have e : cbytes ⟨1, idn, sn, tn, cn⟩ = low 1 1 ++ low idn 4 ++ low sn 2 ++ low tn 8 := by simp [cbytes, cI, cS, cU, cC]
    rw [e]; exact rbytes_1 idn sn tn cn w (by omega) (by omega) (by omega)
  · have e : cbytes ⟨2, idn, sn, tn, cn⟩ = low 2 1 ++ low idn 4 := by simp [cbytes, cI, cS, cU, cC]
    rw [e]; exact rbytes_2 idn sn tn cn w (by omega)
  · have e : cbytes ⟨3, idn, sn, tn, cn⟩ = low 3 1 ++ low idn 4 := by simp [cbytes, cI, cS, cU, cC]
    rw [e]; exact rbytes_3 idn sn tn cn w (by omega)
  · have e : cbytes ⟨4, idn, sn, tn, cn⟩ = low 4 1 ++ low idn 4 ++ low sn 2 := by simp [cbytes, cI, cS, cU, cC]
    rw [e]; exact rbytes_4 idn sn tn cn w (by omega) (by omega)
  · have e : cbytes ⟨5, idn, sn, tn, cn⟩ = low 5 1 ++ low cn 8 := by simp [cbytes, cI, cS, cU, cC]
    rw [e]; exact rbytes_5 cn idn sn tn w (by omega)
set_option maxHeartbeats 4000000 in
theorem rput_any (r : Rc) (hr : r.ok) (w : World) : Calls Try.prog 19 #[r.v] w (PutC r w) := by
  have M := fun w => rmay_any r hr w
  by_cases hmay : MayC r
  · have hmb : mayC r = true := decide_eq_true hmay
    have B := fun w => rbytes_any r hmay w
    unfold PutC
    rw [chkC_yes hmay, hmb, if_pos rfl]
    rw [hmb] at M
    unfold ObN at B
    obtain ⟨BB, hBB⟩ : ∃ B, B = cbytes r := ⟨_, rfl⟩
    rw [← hBB] at B ⊢
    clear hBB hmay hmb hr
    obtain ⟨k, id, seat, till, clock⟩ := r
    dsimp only [Rc.v] at *
    go_enter Try.func19, Try.ntmps19
    go_wp2_with (with_reducible refine st_box ?_)
    refine StopOp.go rfl fun K hK => ?_
    refine wp_box (v := .agg #[.int .i64 k, .int .u32 id, .int .i64 seat, .int .i64 till, .int .i64 clock]) (by rfl) ?_
    intro g w1 hg1 hg2 hm1 hB1
    simp only [put_some, List.set_cons_succ, List.set_cons_zero]
    refine hK _ _ ?_
    clear hK K
    have hB : Blk w1 g 25 [.int .i64 k, .int .u32 id, .int .i64 seat, .int .i64 till, .int .i64 clock] := hB1
    have b0 := hB.cell' (i := 0) rfl
    have b1 := hB.cell' (i := 1) rfl
    have b2 := hB.cell' (i := 2) rfl
    have b3 := hB.cell' (i := 3) rfl
    have b4 := hB.cell' (i := 4) rfl
    clear hB1
    go_wp2_with (first
                  | (go_at_call 39; (with_reducible refine (M _).mono ?_); rintro e w2 ⟨rfl, hm2⟩; have hB2 := hB.ext hm2; have d0 := hB2.cell' (i := 0) rfl; have d1 := hB2.cell' (i := 1) rfl; have d2 := hB2.cell' (i := 2) rfl; have d3 := hB2.cell' (i := 3) rfl; have d4 := hB2.cell' (i := 4) rfl)
                  | (go_at_call 42; (with_reducible refine (B _).mono ?_); rintro e w3 ⟨v3, rfl, ho3, hn3, hm3⟩; obtain ⟨ao3, cap3, rfl, _, _⟩ := ho3.bs.form))
    go_ret2
    exact ⟨_, rfl, ho3, hn3.mono (hm1.ext hm2).size, (hm1.ext hm2).ext hm3⟩
  · have hmb : mayC r = false := decide_eq_false hmay
    unfold PutC
    rw [chkC_no hmay, hmb, if_neg (by simp)]
    rw [hmb] at M
    clear hmay hmb hr
    obtain ⟨k, id, seat, till, clock⟩ := r
    dsimp only [Rc.v] at *
    go_enter Try.func19, Try.ntmps19
    go_wp2_with (with_reducible refine st_box ?_)
    refine StopOp.go rfl fun K hK => ?_
    refine wp_box (v := .agg #[.int .i64 k, .int .u32 id, .int .i64 seat, .int .i64 till, .int .i64 clock]) (by rfl) ?_
    intro g w1 hg1 hg2 hm1 hB1
    simp only [put_some, List.set_cons_succ, List.set_cons_zero]
    refine hK _ _ ?_
    clear hK K
    have hB : Blk w1 g 25 [.int .i64 k, .int .u32 id, .int .i64 seat, .int .i64 till, .int .i64 clock] := hB1
    have b0 := hB.cell' (i := 0) rfl
    have b1 := hB.cell' (i := 1) rfl
    have b2 := hB.cell' (i := 2) rfl
    have b3 := hB.cell' (i := 3) rfl
    have b4 := hB.cell' (i := 4) rfl
    clear hB1
    go_wp2_with (go_at_call 39; (with_reducible refine (M _).mono ?_); rintro e w2 ⟨rfl, hm2⟩)
    go_ret2
    exact ⟨_, rfl, Ob.nil _, by simp [New, blks], hm1.ext hm2⟩
end Go.Proofs.Ytkhnemnpadhgoaa
