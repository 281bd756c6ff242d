import Derived.Test.YtfcoaiggpcjldaaRqC
set_option linter.unusedVariables false
set_option linter.unusedSimpArgs false
set_option maxRecDepth 100000
namespace Go.Proofs.Ytfcoaiggpcjldaa
open Go.RowKit Gw

def hB (k i : Int) : Bool := decide (i ∈ has k)
theorem hB_eq (k : Int) (l : List Int) (h : has k = l) (i : Int) : hB k i = decide (i ∈ l) := by unfold hB; rw [h]
set_option maxHeartbeats 8000000 in
theorem refHas_any (k : Int) (w : World) : Calls Try.prog 28 #[.int .i64 k] w fun e w' => e = .returned (.tuple #[.bool (hB k 0), .bool (hB k 1), .bool (hB k 2)]) ∧ w = w' := by
  by_cases h1 : k = 1
  · subst h1
    go_enter Try.func28, Try.ntmps28
    go_wp2_with fail
    go_ret3
    exact ⟨rfl, rfl⟩
  by_cases h2 : k = 2
  · subst h2
    go_enter Try.func28, Try.ntmps28
    go_wp2_with fail
    go_ret3
    exact ⟨rfl, rfl⟩
  by_cases h3 : k = 3
  · subst h3
    go_enter Try.func28, Try.ntmps28
    go_wp2_with fail
    go_ret3
    exact ⟨rfl, rfl⟩
  by_cases h4 : k = 4
  · subst h4
    go_enter Try.func28, Try.ntmps28
    go_wp2_with fail
    go_ret3
    exact ⟨rfl, rfl⟩
  by_cases h5 : k = 5
  · subst h5
    go_enter Try.func28, Try.ntmps28
    go_wp2_with fail
    go_ret3
    exact ⟨rfl, rfl⟩
  by_cases h6 : k = 6
  · subst h6
    go_enter Try.func28, Try.ntmps28
    go_wp2_with fail
    go_ret3
    exact ⟨rfl, rfl⟩
  by_cases h7 : k = 7
  · subst h7
    go_enter Try.func28, Try.ntmps28
    go_wp2_with fail
    go_ret3
    exact ⟨rfl, rfl⟩
  have f1 : (k == 1) = false := by simpa using h1
  have f2 : (k == 2) = false := by simpa using h2
  have f3 : (k == 3) = false := by simpa using h3
  have f4 : (k == 4) = false := by simpa using h4
  have f5 : (k == 5) = false := by simpa using h5
  have f6 : (k == 6) = false := by simpa using h6
  have f7 : (k == 7) = false := by simpa using h7
  have hh : has k = [] := by unfold has; simp [h1, h2, h3, h4, h5, h6, h7]
  have e0 : hB k 0 = false := hB_eq k [] hh 0
  have e1 : hB k 1 = false := hB_eq k [] hh 1
  have e2 : hB k 2 = false := hB_eq k [] hh 2
  rw [e0, e1, e2]
  clear hh e0 e1 e2
  go_enter Try.func28, Try.ntmps28
  go_wp2_with fail
  go_ret3
  exact ⟨rfl, rfl⟩
theorem refHas_val (k : Int) (b0 b1 b2 : Bool) (w : World) (h0 : hB k 0 = b0) (h1 : hB k 1 = b1) (h2 : hB k 2 = b2) : Calls Try.prog 28 #[.int .i64 k] w fun e w' => e = .returned (.tuple #[.bool b0, .bool b1, .bool b2]) ∧ w = w' := by
  subst h0 h1 h2
  exact refHas_any k w

set_option maxRecDepth 1000000 in
set_option maxHeartbeats 16000000 in
theorem refCheck_any (q : Rq) (w : World) : Calls Try.prog 13 #[q.v] w fun e w' => e = .returned (.int .i64 (chk q)) ∧ Mod [] w w' := by
  obtain ⟨C, hC⟩ : ∃ C, C = chk q := ⟨_, rfl⟩
  rw [← hC]
  have HC := Lib.hid hC
  clear hC
  have HF : RowKit.Hid (∀ i, i < 3 → fits q i = false → C = 200) := Lib.hid fun i hi h => by rw [HC.out]; exact chk_no (fits_no hi h)
  have HG : RowKit.Hid (preB q = false → C = 200) := Lib.hid fun h => by rw [HC.out]; refine chk_no ?_; unfold mayB; rw [h]; rfl
  have HT : RowKit.Hid (preB q = true → fits q 0 = true → fits q 1 = true → fits q 2 = true → C = 0) := Lib.hid fun h1 h2 h3 h4 => by
    rw [HC.out]; unfold chk mayB
    rw [h1, h2, h3, h4]
    rfl
  have HZ : RowKit.Hid (∀ i : Nat, i < 3 → fits q i = (zeroF q i || hB q.kind i)) := Lib.hid fun _ _ => rfl
  obtain ⟨kind, tag, id, seat, ttl⟩ := q
  dsimp only [Rq.v] at *
  obtain ⟨b0, hb0⟩ : ∃ b, hB kind 0 = b := ⟨_, rfl⟩
  obtain ⟨b1, hb1⟩ : ∃ b, hB kind 1 = b := ⟨_, rfl⟩
  obtain ⟨b2, hb2⟩ : ∃ b, hB kind 2 = b := ⟨_, rfl⟩
  have S := fun w => refHas_val kind b0 b1 b2 w hb0 hb1 hb2
  have HB0 := Lib.hid hb0
  have HB1 := Lib.hid hb1
  have HB2 := Lib.hid hb2
  clear hb0 hb1 hb2
  by_cases k1 : kind < 1
  · have ek1 : decide (kind < 1) = true := decide_eq_true k1
    clear k1
    have X : preB ⟨kind, tag, id, seat, ttl⟩ = false := by
      have := of_decide_eq_true ek1
      unfold preB okB
      simp only [Bool.and_eq_false_iff, decide_eq_false_iff_not]
      omega
    have HX := Lib.hid X
    clear X
    go_enter Try.func13, Try.ntmps13
    go_wp2_with (with_reducible refine st_box ?_)
    refine StopOp.go rfl fun K hK => ?_
    refine wp_box (v := .agg #[.int .i64 kind, .int .u32 tag, .int .u32 id, .int .i64 seat, .int .i64 ttl]) (by rfl) ?_
    intro g w1 hg1 hg2 hm1 hB1
    simp only [put_some, List.set_cons_succ, List.set_cons_zero]
    refine hK _ _ ?_
    clear hK K
    have hB1' : Blk w1 g 25 [.int .i64 kind, .int .u32 tag, .int .u32 id, .int .i64 seat, .int .i64 ttl] := hB1
    have c0 := hB1'.cell' (i := 0) rfl
    have c2 := hB1'.cell' (i := 2) rfl
    have c3 := hB1'.cell' (i := 3) rfl
    have c4 := hB1'.cell' (i := 4) rfl
    clear hB1
    go_wp2_with (go_at_call 28; (with_reducible refine (S _).mono ?_); rintro e w2 ⟨rfl, rfl⟩)
    go_ret
    exact ⟨ret_int (Eq.symm (HG.out HX.out)), hm1⟩
  have ek1 : decide (kind < 1) = false := decide_eq_false k1
  by_cases k2 : 10 < kind
  · have ek2 : decide (10 < kind) = true := decide_eq_true k2
    clear k2
    have X : preB ⟨kind, tag, id, seat, ttl⟩ = false := by
      have := of_decide_eq_true ek2
      unfold preB okB
      simp only [Bool.and_eq_false_iff, decide_eq_false_iff_not]
      omega
    have HX := Lib.hid X
    clear X
    go_enter Try.func13, Try.ntmps13
    go_wp2_with (with_reducible refine st_box ?_)
    refine StopOp.go rfl fun K hK => ?_
    refine wp_box (v := .agg #[.int .i64 kind, .int .u32 tag, .int .u32 id, .int .i64 seat, .int .i64 ttl]) (by rfl) ?_
    intro g w1 hg1 hg2 hm1 hB1
    simp only [put_some, List.set_cons_succ, List.set_cons_zero]
    refine hK _ _ ?_
    clear hK K
    have hB1' : Blk w1 g 25 [.int .i64 kind, .int .u32 tag, .int .u32 id, .int .i64 seat, .int .i64 ttl] := hB1
    have c0 := hB1'.cell' (i := 0) rfl
    have c2 := hB1'.cell' (i := 2) rfl
    have c3 := hB1'.cell' (i := 3) rfl
    have c4 := hB1'.cell' (i := 4) rfl
    clear hB1
    go_wp2_with (go_at_call 28; (with_reducible refine (S _).mono ?_); rintro e w2 ⟨rfl, rfl⟩)
    go_ret
    exact ⟨ret_int (Eq.symm (HG.out HX.out)), hm1⟩
  have ek2 : decide (10 < kind) = false := decide_eq_false k2
  by_cases s1 : seat < 0
  · have es1 : decide (seat < 0) = true := decide_eq_true s1
    clear s1
    have X : preB ⟨kind, tag, id, seat, ttl⟩ = false := by
      have := of_decide_eq_true es1
      unfold preB okB
      simp only [Bool.and_eq_false_iff, decide_eq_false_iff_not]
      omega
    have HX := Lib.hid X
    clear X
    go_enter Try.func13, Try.ntmps13
    go_wp2_with (with_reducible refine st_box ?_)
    refine StopOp.go rfl fun K hK => ?_
    refine wp_box (v := .agg #[.int .i64 kind, .int .u32 tag, .int .u32 id, .int .i64 seat, .int .i64 ttl]) (by rfl) ?_
    intro g w1 hg1 hg2 hm1 hB1
    simp only [put_some, List.set_cons_succ, List.set_cons_zero]
    refine hK _ _ ?_
    clear hK K
    have hB1' : Blk w1 g 25 [.int .i64 kind, .int .u32 tag, .int .u32 id, .int .i64 seat, .int .i64 ttl] := hB1
    have c0 := hB1'.cell' (i := 0) rfl
    have c2 := hB1'.cell' (i := 2) rfl
    have c3 := hB1'.cell' (i := 3) rfl
    have c4 := hB1'.cell' (i := 4) rfl
    clear hB1
    go_wp2_with (go_at_call 28; (with_reducible refine (S _).mono ?_); rintro e w2 ⟨rfl, rfl⟩)
    go_ret
    exact ⟨ret_int (Eq.symm (HG.out HX.out)), hm1⟩
  have es1 : decide (seat < 0) = false := decide_eq_false s1
  by_cases s2 : 65535 < seat
  · have es2 : decide (65535 < seat) = true := decide_eq_true s2
    clear s2
    have X : preB ⟨kind, tag, id, seat, ttl⟩ = false := by
      have := of_decide_eq_true es2
      unfold preB okB
      simp only [Bool.and_eq_false_iff, decide_eq_false_iff_not]
      omega
    have HX := Lib.hid X
    clear X
    go_enter Try.func13, Try.ntmps13
    go_wp2_with (with_reducible refine st_box ?_)
    refine StopOp.go rfl fun K hK => ?_
    refine wp_box (v := .agg #[.int .i64 kind, .int .u32 tag, .int .u32 id, .int .i64 seat, .int .i64 ttl]) (by rfl) ?_
    intro g w1 hg1 hg2 hm1 hB1
    simp only [put_some, List.set_cons_succ, List.set_cons_zero]
    refine hK _ _ ?_
    clear hK K
    have hB1' : Blk w1 g 25 [.int .i64 kind, .int .u32 tag, .int .u32 id, .int .i64 seat, .int .i64 ttl] := hB1
    have c0 := hB1'.cell' (i := 0) rfl
    have c2 := hB1'.cell' (i := 2) rfl
    have c3 := hB1'.cell' (i := 3) rfl
    have c4 := hB1'.cell' (i := 4) rfl
    clear hB1
    go_wp2_with (go_at_call 28; (with_reducible refine (S _).mono ?_); rintro e w2 ⟨rfl, rfl⟩)
    go_ret
    exact ⟨ret_int (Eq.symm (HG.out HX.out)), hm1⟩
  have es2 : decide (65535 < seat) = false := decide_eq_false s2
  by_cases t1 : ttl < 0
  · have et1 : decide (ttl < 0) = true := decide_eq_true t1
    clear t1
    have X : preB ⟨kind, tag, id, seat, ttl⟩ = false := by
      have := of_decide_eq_true et1
      unfold preB okB
      simp only [Bool.and_eq_false_iff, decide_eq_false_iff_not]
      omega
    have HX := Lib.hid X
    clear X
    go_enter Try.func13, Try.ntmps13
    go_wp2_with (with_reducible refine st_box ?_)
    refine StopOp.go rfl fun K hK => ?_
    refine wp_box (v := .agg #[.int .i64 kind, .int .u32 tag, .int .u32 id, .int .i64 seat, .int .i64 ttl]) (by rfl) ?_
    intro g w1 hg1 hg2 hm1 hB1
    simp only [put_some, List.set_cons_succ, List.set_cons_zero]
    refine hK _ _ ?_
    clear hK K
    have hB1' : Blk w1 g 25 [.int .i64 kind, .int .u32 tag, .int .u32 id, .int .i64 seat, .int .i64 ttl] := hB1
    have c0 := hB1'.cell' (i := 0) rfl
    have c2 := hB1'.cell' (i := 2) rfl
    have c3 := hB1'.cell' (i := 3) rfl
    have c4 := hB1'.cell' (i := 4) rfl
    clear hB1
    go_wp2_with (go_at_call 28; (with_reducible refine (S _).mono ?_); rintro e w2 ⟨rfl, rfl⟩)
    go_ret
    exact ⟨ret_int (Eq.symm (HG.out HX.out)), hm1⟩
  have et1 : decide (ttl < 0) = false := decide_eq_false t1
  have X : preB ⟨kind, tag, id, seat, ttl⟩ = true := by
    unfold preB okB
    simp only [Bool.and_eq_true, decide_eq_true_eq]
    omega
  have HX := Lib.hid X
  clear X k1 k2 s1 s2 t1
  cases b0 with
  | true =>
    have HY0 : RowKit.Hid (fits ⟨kind, tag, id, seat, ttl⟩ 0 = true) := Lib.hid (by rw [HZ.out 0 (by omega)]; show (_ || hB kind 0) = true; rw [HB0.out]; simp)
    cases b1 with
    | true =>
      have HY1 : RowKit.Hid (fits ⟨kind, tag, id, seat, ttl⟩ 1 = true) := Lib.hid (by rw [HZ.out 1 (by omega)]; show (_ || hB kind 1) = true; rw [HB1.out]; simp)
      cases b2 with
      | true =>
        have HY2 : RowKit.Hid (fits ⟨kind, tag, id, seat, ttl⟩ 2 = true) := Lib.hid (by rw [HZ.out 2 (by omega)]; show (_ || hB kind 2) = true; rw [HB2.out]; simp)
        go_enter Try.func13, Try.ntmps13
        go_wp2_with (with_reducible refine st_box ?_)
        refine StopOp.go rfl fun K hK => ?_
        refine wp_box (v := .agg #[.int .i64 kind, .int .u32 tag, .int .u32 id, .int .i64 seat, .int .i64 ttl]) (by rfl) ?_
        intro g w1 hg1 hg2 hm1 hB1
        simp only [put_some, List.set_cons_succ, List.set_cons_zero]
        refine hK _ _ ?_
        clear hK K
        have hB1' : Blk w1 g 25 [.int .i64 kind, .int .u32 tag, .int .u32 id, .int .i64 seat, .int .i64 ttl] := hB1
        have c0 := hB1'.cell' (i := 0) rfl
        have c2 := hB1'.cell' (i := 2) rfl
        have c3 := hB1'.cell' (i := 3) rfl
        have c4 := hB1'.cell' (i := 4) rfl
        clear hB1
        go_wp2_with (go_at_call 28; (with_reducible refine (S _).mono ?_); rintro e w2 ⟨rfl, rfl⟩)
        go_ret
        exact ⟨ret_int (Eq.symm (HT.out HX.out HY0.out HY1.out HY2.out)), hm1⟩
      | false =>
        by_cases z2 : ttl = 0
        · have a2 : (ttl == 0) = true := by simpa using z2
          have n2 : (ttl != 0) = false := by simpa using z2
          have HY2 : RowKit.Hid (fits ⟨kind, tag, id, seat, ttl⟩ 2 = true) := Lib.hid (by rw [HZ.out 2 (by omega)]; show ((ttl == 0) || _) = true; rw [a2]; rfl)
          clear z2
          go_enter Try.func13, Try.ntmps13
          go_wp2_with (with_reducible refine st_box ?_)
          refine StopOp.go rfl fun K hK => ?_
          refine wp_box (v := .agg #[.int .i64 kind, .int .u32 tag, .int .u32 id, .int .i64 seat, .int .i64 ttl]) (by rfl) ?_
          intro g w1 hg1 hg2 hm1 hB1
          simp only [put_some, List.set_cons_succ, List.set_cons_zero]
          refine hK _ _ ?_
          clear hK K
          have hB1' : Blk w1 g 25 [.int .i64 kind, .int .u32 tag, .int .u32 id, .int .i64 seat, .int .i64 ttl] := hB1
          have c0 := hB1'.cell' (i := 0) rfl
          have c2 := hB1'.cell' (i := 2) rfl
          have c3 := hB1'.cell' (i := 3) rfl
          have c4 := hB1'.cell' (i := 4) rfl
          clear hB1
          go_wp2_with (go_at_call 28; (with_reducible refine (S _).mono ?_); rintro e w2 ⟨rfl, rfl⟩)
          go_ret
          exact ⟨ret_int (Eq.symm (HT.out HX.out HY0.out HY1.out HY2.out)), hm1⟩
        · have a2 : (ttl == 0) = false := by simpa using z2
          have n2 : (ttl != 0) = true := by simpa using z2
          have HN : RowKit.Hid (fits ⟨kind, tag, id, seat, ttl⟩ 2 = false) := Lib.hid (by rw [HZ.out 2 (by omega)]; show ((ttl == 0) || hB kind 2) = false; rw [a2, HB2.out]; rfl)
          clear z2
          go_enter Try.func13, Try.ntmps13
          go_wp2_with (with_reducible refine st_box ?_)
          refine StopOp.go rfl fun K hK => ?_
          refine wp_box (v := .agg #[.int .i64 kind, .int .u32 tag, .int .u32 id, .int .i64 seat, .int .i64 ttl]) (by rfl) ?_
          intro g w1 hg1 hg2 hm1 hB1
          simp only [put_some, List.set_cons_succ, List.set_cons_zero]
          refine hK _ _ ?_
          clear hK K
          have hB1' : Blk w1 g 25 [.int .i64 kind, .int .u32 tag, .int .u32 id, .int .i64 seat, .int .i64 ttl] := hB1
          have c0 := hB1'.cell' (i := 0) rfl
          have c2 := hB1'.cell' (i := 2) rfl
          have c3 := hB1'.cell' (i := 3) rfl
          have c4 := hB1'.cell' (i := 4) rfl
          clear hB1
          go_wp2_with (go_at_call 28; (with_reducible refine (S _).mono ?_); rintro e w2 ⟨rfl, rfl⟩)
          go_ret
          exact ⟨ret_int (Eq.symm (HF.out 2 (by omega) HN.out)), hm1⟩
    | false =>
      by_cases z1 : seat = 0
      · have a1 : (seat == 0) = true := by simpa using z1
        have n1 : (seat != 0) = false := by simpa using z1
        have HY1 : RowKit.Hid (fits ⟨kind, tag, id, seat, ttl⟩ 1 = true) := Lib.hid (by rw [HZ.out 1 (by omega)]; show ((seat == 0) || _) = true; rw [a1]; rfl)
        clear z1
        cases b2 with
        | true =>
          have HY2 : RowKit.Hid (fits ⟨kind, tag, id, seat, ttl⟩ 2 = true) := Lib.hid (by rw [HZ.out 2 (by omega)]; show (_ || hB kind 2) = true; rw [HB2.out]; simp)
          go_enter Try.func13, Try.ntmps13
          go_wp2_with (with_reducible refine st_box ?_)
          refine StopOp.go rfl fun K hK => ?_
          refine wp_box (v := .agg #[.int .i64 kind, .int .u32 tag, .int .u32 id, .int .i64 seat, .int .i64 ttl]) (by rfl) ?_
          intro g w1 hg1 hg2 hm1 hB1
          simp only [put_some, List.set_cons_succ, List.set_cons_zero]
          refine hK _ _ ?_
          clear hK K
          have hB1' : Blk w1 g 25 [.int .i64 kind, .int .u32 tag, .int .u32 id, .int .i64 seat, .int .i64 ttl] := hB1
          have c0 := hB1'.cell' (i := 0) rfl
          have c2 := hB1'.cell' (i := 2) rfl
          have c3 := hB1'.cell' (i := 3) rfl
          have c4 := hB1'.cell' (i := 4) rfl
          clear hB1
          go_wp2_with (go_at_call 28; (with_reducible refine (S _).mono ?_); rintro e w2 ⟨rfl, rfl⟩)
          go_ret
          exact ⟨ret_int (Eq.symm (HT.out HX.out HY0.out HY1.out HY2.out)), hm1⟩
        | false =>
          by_cases z2 : ttl = 0
          · have a2 : (ttl == 0) = true := by simpa using z2
            have n2 : (ttl != 0) = false := by simpa using z2
            have HY2 : RowKit.Hid (fits ⟨kind, tag, id, seat, ttl⟩ 2 = true) := Lib.hid (by rw [HZ.out 2 (by omega)]; show ((ttl == 0) || _) = true; rw [a2]; rfl)
            clear z2
            go_enter Try.func13, Try.ntmps13
            go_wp2_with (with_reducible refine st_box ?_)
            refine StopOp.go rfl fun K hK => ?_
            refine wp_box (v := .agg #[.int .i64 kind, .int .u32 tag, .int .u32 id, .int .i64 seat, .int .i64 ttl]) (by rfl) ?_
            intro g w1 hg1 hg2 hm1 hB1
            simp only [put_some, List.set_cons_succ, List.set_cons_zero]
            refine hK _ _ ?_
            clear hK K
            have hB1' : Blk w1 g 25 [.int .i64 kind, .int .u32 tag, .int .u32 id, .int .i64 seat, .int .i64 ttl] := hB1
            have c0 := hB1'.cell' (i := 0) rfl
            have c2 := hB1'.cell' (i := 2) rfl
            have c3 := hB1'.cell' (i := 3) rfl
            have c4 := hB1'.cell' (i := 4) rfl
            clear hB1
            go_wp2_with (go_at_call 28; (with_reducible refine (S _).mono ?_); rintro e w2 ⟨rfl, rfl⟩)
            go_ret
            exact ⟨ret_int (Eq.symm (HT.out HX.out HY0.out HY1.out HY2.out)), hm1⟩
          · have a2 : (ttl == 0) = false := by simpa using z2
            have n2 : (ttl != 0) = true := by simpa using z2
            have HN : RowKit.Hid (fits ⟨kind, tag, id, seat, ttl⟩ 2 = false) := Lib.hid (by rw [HZ.out 2 (by omega)]; show ((ttl == 0) || hB kind 2) = false; rw [a2, HB2.out]; rfl)
            clear z2
            go_enter Try.func13, Try.ntmps13
            go_wp2_with (with_reducible refine st_box ?_)
            refine StopOp.go rfl fun K hK => ?_
            refine wp_box (v := .agg #[.int .i64 kind, .int .u32 tag, .int .u32 id, .int .i64 seat, .int .i64 ttl]) (by rfl) ?_
            intro g w1 hg1 hg2 hm1 hB1
            simp only [put_some, List.set_cons_succ, List.set_cons_zero]
            refine hK _ _ ?_
            clear hK K
            have hB1' : Blk w1 g 25 [.int .i64 kind, .int .u32 tag, .int .u32 id, .int .i64 seat, .int .i64 ttl] := hB1
            have c0 := hB1'.cell' (i := 0) rfl
            have c2 := hB1'.cell' (i := 2) rfl
            have c3 := hB1'.cell' (i := 3) rfl
            have c4 := hB1'.cell' (i := 4) rfl
            clear hB1
            go_wp2_with (go_at_call 28; (with_reducible refine (S _).mono ?_); rintro e w2 ⟨rfl, rfl⟩)
            go_ret
            exact ⟨ret_int (Eq.symm (HF.out 2 (by omega) HN.out)), hm1⟩
      · have a1 : (seat == 0) = false := by simpa using z1
        have n1 : (seat != 0) = true := by simpa using z1
        have HN : RowKit.Hid (fits ⟨kind, tag, id, seat, ttl⟩ 1 = false) := Lib.hid (by rw [HZ.out 1 (by omega)]; show ((seat == 0) || hB kind 1) = false; rw [a1, HB1.out]; rfl)
        clear z1
        go_enter Try.func13, Try.ntmps13
        go_wp2_with (with_reducible refine st_box ?_)
        refine StopOp.go rfl fun K hK => ?_
        refine wp_box (v := .agg #[.int .i64 kind, .int .u32 tag, .int .u32 id, .int .i64 seat, .int .i64 ttl]) (by rfl) ?_
        intro g w1 hg1 hg2 hm1 hB1
        simp only [put_some, List.set_cons_succ, List.set_cons_zero]
        refine hK _ _ ?_
        clear hK K
        have hB1' : Blk w1 g 25 [.int .i64 kind, .int .u32 tag, .int .u32 id, .int .i64 seat, .int .i64 ttl] := hB1
        have c0 := hB1'.cell' (i := 0) rfl
        have c2 := hB1'.cell' (i := 2) rfl
        have c3 := hB1'.cell' (i := 3) rfl
        have c4 := hB1'.cell' (i := 4) rfl
        clear hB1
        go_wp2_with (go_at_call 28; (with_reducible refine (S _).mono ?_); rintro e w2 ⟨rfl, rfl⟩)
        go_ret
        exact ⟨ret_int (Eq.symm (HF.out 1 (by omega) HN.out)), hm1⟩
  | false =>
    by_cases z0 : (id : Int) = 0
    · have a0 : ((id : Int) == 0) = true := by simpa using z0
      have n0 : ((id : Int) != 0) = false := by simpa using z0
      have HY0 : RowKit.Hid (fits ⟨kind, tag, id, seat, ttl⟩ 0 = true) := Lib.hid (by rw [HZ.out 0 (by omega)]; show (((id : Int) == 0) || _) = true; rw [a0]; rfl)
      clear z0
      cases b1 with
      | true =>
        have HY1 : RowKit.Hid (fits ⟨kind, tag, id, seat, ttl⟩ 1 = true) := Lib.hid (by rw [HZ.out 1 (by omega)]; show (_ || hB kind 1) = true; rw [HB1.out]; simp)
        cases b2 with
        | true =>
          have HY2 : RowKit.Hid (fits ⟨kind, tag, id, seat, ttl⟩ 2 = true) := Lib.hid (by rw [HZ.out 2 (by omega)]; show (_ || hB kind 2) = true; rw [HB2.out]; simp)
          go_enter Try.func13, Try.ntmps13
          go_wp2_with (with_reducible refine st_box ?_)
          refine StopOp.go rfl fun K hK => ?_
          refine wp_box (v := .agg #[.int .i64 kind, .int .u32 tag, .int .u32 id, .int .i64 seat, .int .i64 ttl]) (by rfl) ?_
          intro g w1 hg1 hg2 hm1 hB1
          simp only [put_some, List.set_cons_succ, List.set_cons_zero]
          refine hK _ _ ?_
          clear hK K
          have hB1' : Blk w1 g 25 [.int .i64 kind, .int .u32 tag, .int .u32 id, .int .i64 seat, .int .i64 ttl] := hB1
          have c0 := hB1'.cell' (i := 0) rfl
          have c2 := hB1'.cell' (i := 2) rfl
          have c3 := hB1'.cell' (i := 3) rfl
          have c4 := hB1'.cell' (i := 4) rfl
          clear hB1
          go_wp2_with (go_at_call 28; (with_reducible refine (S _).mono ?_); rintro e w2 ⟨rfl, rfl⟩)
          go_ret
          exact ⟨ret_int (Eq.symm (HT.out HX.out HY0.out HY1.out HY2.out)), hm1⟩
        | false =>
          by_cases z2 : ttl = 0
          · have a2 : (ttl == 0) = true := by simpa using z2
            have n2 : (ttl != 0) = false := by simpa using z2
            have HY2 : RowKit.Hid (fits ⟨kind, tag, id, seat, ttl⟩ 2 = true) := Lib.hid (by rw [HZ.out 2 (by omega)]; show ((ttl == 0) || _) = true; rw [a2]; rfl)
            clear z2
            go_enter Try.func13, Try.ntmps13
            go_wp2_with (with_reducible refine st_box ?_)
            refine StopOp.go rfl fun K hK => ?_
            refine wp_box (v := .agg #[.int .i64 kind, .int .u32 tag, .int .u32 id, .int .i64 seat, .int .i64 ttl]) (by rfl) ?_
            intro g w1 hg1 hg2 hm1 hB1
            simp only [put_some, List.set_cons_succ, List.set_cons_zero]
            refine hK _ _ ?_
            clear hK K
            have hB1' : Blk w1 g 25 [.int .i64 kind, .int .u32 tag, .int .u32 id, .int .i64 seat, .int .i64 ttl] := hB1
            have c0 := hB1'.cell' (i := 0) rfl
            have c2 := hB1'.cell' (i := 2) rfl
            have c3 := hB1'.cell' (i := 3) rfl
            have c4 := hB1'.cell' (i := 4) rfl
            clear hB1
            go_wp2_with (go_at_call 28; (with_reducible refine (S _).mono ?_); rintro e w2 ⟨rfl, rfl⟩)
            go_ret
            exact ⟨ret_int (Eq.symm (HT.out HX.out HY0.out HY1.out HY2.out)), hm1⟩
          · have a2 : (ttl == 0) = false := by simpa using z2
            have n2 : (ttl != 0) = true := by simpa using z2
            have HN : RowKit.Hid (fits ⟨kind, tag, id, seat, ttl⟩ 2 = false) := Lib.hid (by rw [HZ.out 2 (by omega)]; show ((ttl == 0) || hB kind 2) = false; rw [a2, HB2.out]; rfl)
            clear z2
            go_enter Try.func13, Try.ntmps13
            go_wp2_with (with_reducible refine st_box ?_)
            refine StopOp.go rfl fun K hK => ?_
            refine wp_box (v := .agg #[.int .i64 kind, .int .u32 tag, .int .u32 id, .int .i64 seat, .int .i64 ttl]) (by rfl) ?_
            intro g w1 hg1 hg2 hm1 hB1
            simp only [put_some, List.set_cons_succ, List.set_cons_zero]
            refine hK _ _ ?_
            clear hK K
            have hB1' : Blk w1 g 25 [.int .i64 kind, .int .u32 tag, .int .u32 id, .int .i64 seat, .int .i64 ttl] := hB1
            have c0 := hB1'.cell' (i := 0) rfl
            have c2 := hB1'.cell' (i := 2) rfl
            have c3 := hB1'.cell' (i := 3) rfl
            have c4 := hB1'.cell' (i := 4) rfl
            clear hB1
            go_wp2_with (go_at_call 28; (with_reducible refine (S _).mono ?_); rintro e w2 ⟨rfl, rfl⟩)
            go_ret
            exact ⟨ret_int (Eq.symm (HF.out 2 (by omega) HN.out)), hm1⟩
      | false =>
        by_cases z1 : seat = 0
        · have a1 : (seat == 0) = true := by simpa using z1
          have n1 : (seat != 0) = false := by simpa using z1
          have HY1 : RowKit.Hid (fits ⟨kind, tag, id, seat, ttl⟩ 1 = true) := Lib.hid (by rw [HZ.out 1 (by omega)]; show ((seat == 0) || _) = true; rw [a1]; rfl)
          clear z1
          cases b2 with
          | true =>
            have HY2 : RowKit.Hid (fits ⟨kind, tag, id, seat, ttl⟩ 2 = true) := Lib.hid (by rw [HZ.out 2 (by omega)]; show (_ || hB kind 2) = true; rw [HB2.out]; simp)
            go_enter Try.func13, Try.ntmps13
            go_wp2_with (with_reducible refine st_box ?_)
            refine StopOp.go rfl fun K hK => ?_
            refine wp_box (v := .agg #[.int .i64 kind, .int .u32 tag, .int .u32 id, .int .i64 seat, .int .i64 ttl]) (by rfl) ?_
            intro g w1 hg1 hg2 hm1 hB1
            simp only [put_some, List.set_cons_succ, List.set_cons_zero]
            refine hK _ _ ?_
            clear hK K
            have hB1' : Blk w1 g 25 [.int .i64 kind, .int .u32 tag, .int .u32 id, .int .i64 seat, .int .i64 ttl] := hB1
            have c0 := hB1'.cell' (i := 0) rfl
            have c2 := hB1'.cell' (i := 2) rfl
            have c3 := hB1'.cell' (i := 3) rfl
            have c4 := hB1'.cell' (i := 4) rfl
            clear hB1
            go_wp2_with (go_at_call 28; (with_reducible refine (S _).mono ?_); rintro e w2 ⟨rfl, rfl⟩)
            go_ret
            exact ⟨ret_int (Eq.symm (HT.out HX.out HY0.out HY1.out HY2.out)), hm1⟩
          | false =>
            by_cases z2 : ttl = 0
            · have a2 : (ttl == 0) = true := by simpa using z2
              have n2 : (ttl != 0) = false := by simpa using z2
              have HY2 : RowKit.Hid (fits ⟨kind, tag, id, seat, ttl⟩ 2 = true) := Lib.hid (by rw [HZ.out 2 (by omega)]; show ((ttl == 0) || _) = true; rw [a2]; rfl)
              clear z2
              go_enter Try.func13, Try.ntmps13
              go_wp2_with (with_reducible refine st_box ?_)
              refine StopOp.go rfl fun K hK => ?_
              refine wp_box (v := .agg #[.int .i64 kind, .int .u32 tag, .int .u32 id, .int .i64 seat, .int .i64 ttl]) (by rfl) ?_
              intro g w1 hg1 hg2 hm1 hB1
              simp only [put_some, List.set_cons_succ, List.set_cons_zero]
              refine hK _ _ ?_
              clear hK K
              have hB1' : Blk w1 g 25 [.int .i64 kind, .int .u32 tag, .int .u32 id, .int .i64 seat, .int .i64 ttl] := hB1
              have c0 := hB1'.cell' (i := 0) rfl
              have c2 := hB1'.cell' (i := 2) rfl
              have c3 := hB1'.cell' (i := 3) rfl
              have c4 := hB1'.cell' (i := 4) rfl
              clear hB1
              go_wp2_with (go_at_call 28; (with_reducible refine (S _).mono ?_); rintro e w2 ⟨rfl, rfl⟩)
              go_ret
              exact ⟨ret_int (Eq.symm (HT.out HX.out HY0.out HY1.out HY2.out)), hm1⟩
            · have a2 : (ttl == 0) = false := by simpa using z2
              have n2 : (ttl != 0) = true := by simpa using z2
              have HN : RowKit.Hid (fits ⟨kind, tag, id, seat, ttl⟩ 2 = false) := Lib.hid (by rw [HZ.out 2 (by omega)]; show ((ttl == 0) || hB kind 2) = false; rw [a2, HB2.out]; rfl)
              clear z2
              go_enter Try.func13, Try.ntmps13
              go_wp2_with (with_reducible refine st_box ?_)
              refine StopOp.go rfl fun K hK => ?_
              refine wp_box (v := .agg #[.int .i64 kind, .int .u32 tag, .int .u32 id, .int .i64 seat, .int .i64 ttl]) (by rfl) ?_
              intro g w1 hg1 hg2 hm1 hB1
              simp only [put_some, List.set_cons_succ, List.set_cons_zero]
              refine hK _ _ ?_
              clear hK K
              have hB1' : Blk w1 g 25 [.int .i64 kind, .int .u32 tag, .int .u32 id, .int .i64 seat, .int .i64 ttl] := hB1
              have c0 := hB1'.cell' (i := 0) rfl
              have c2 := hB1'.cell' (i := 2) rfl
              have c3 := hB1'.cell' (i := 3) rfl
              have c4 := hB1'.cell' (i := 4) rfl
              clear hB1
              go_wp2_with (go_at_call 28; (with_reducible refine (S _).mono ?_); rintro e w2 ⟨rfl, rfl⟩)
              go_ret
              exact ⟨ret_int (Eq.symm (HF.out 2 (by omega) HN.out)), hm1⟩
        · have a1 : (seat == 0) = false := by simpa using z1
          have n1 : (seat != 0) = true := by simpa using z1
          have HN : RowKit.Hid (fits ⟨kind, tag, id, seat, ttl⟩ 1 = false) := Lib.hid (by rw [HZ.out 1 (by omega)]; show ((seat == 0) || hB kind 1) = false; rw [a1, HB1.out]; rfl)
          clear z1
          go_enter Try.func13, Try.ntmps13
          go_wp2_with (with_reducible refine st_box ?_)
          refine StopOp.go rfl fun K hK => ?_
          refine wp_box (v := .agg #[.int .i64 kind, .int .u32 tag, .int .u32 id, .int .i64 seat, .int .i64 ttl]) (by rfl) ?_
          intro g w1 hg1 hg2 hm1 hB1
          simp only [put_some, List.set_cons_succ, List.set_cons_zero]
          refine hK _ _ ?_
          clear hK K
          have hB1' : Blk w1 g 25 [.int .i64 kind, .int .u32 tag, .int .u32 id, .int .i64 seat, .int .i64 ttl] := hB1
          have c0 := hB1'.cell' (i := 0) rfl
          have c2 := hB1'.cell' (i := 2) rfl
          have c3 := hB1'.cell' (i := 3) rfl
          have c4 := hB1'.cell' (i := 4) rfl
          clear hB1
          go_wp2_with (go_at_call 28; (with_reducible refine (S _).mono ?_); rintro e w2 ⟨rfl, rfl⟩)
          go_ret
          exact ⟨ret_int (Eq.symm (HF.out 1 (by omega) HN.out)), hm1⟩
    · have a0 : ((id : Int) == 0) = false := by simpa using z0
      have n0 : ((id : Int) != 0) = true := by simpa using z0
      have HN : RowKit.Hid (fits ⟨kind, tag, id, seat, ttl⟩ 0 = false) := Lib.hid (by rw [HZ.out 0 (by omega)]; show (((id : Int) == 0) || hB kind 0) = false; rw [a0, HB0.out]; rfl)
      clear z0
      go_enter Try.func13, Try.ntmps13
      go_wp2_with (with_reducible refine st_box ?_)
      refine StopOp.go rfl fun K hK => ?_
      refine wp_box (v := .agg #[.int .i64 kind, .int .u32 tag, .int .u32 id, .int .i64 seat, .int .i64 ttl]) (by rfl) ?_
      intro g w1 hg1 hg2 hm1 hB1
      simp only [put_some, List.set_cons_succ, List.set_cons_zero]
      refine hK _ _ ?_
      clear hK K
      have hB1' : Blk w1 g 25 [.int .i64 kind, .int .u32 tag, .int .u32 id, .int .i64 seat, .int .i64 ttl] := hB1
      have c0 := hB1'.cell' (i := 0) rfl
      have c2 := hB1'.cell' (i := 2) rfl
      have c3 := hB1'.cell' (i := 3) rfl
      have c4 := hB1'.cell' (i := 4) rfl
      clear hB1
      go_wp2_with (go_at_call 28; (with_reducible refine (S _).mono ?_); rintro e w2 ⟨rfl, rfl⟩)
      go_ret
      exact ⟨ret_int (Eq.symm (HF.out 0 (by omega) HN.out)), hm1⟩

/-- the kinds that change something -/
def chg (k : Int) : Bool := decide (1 ≤ k ∧ k ≤ 4 ∨ k = 7)
set_option maxHeartbeats 4000000 in
theorem changes_any (k : Int) (w : World) : Calls Try.prog 14 #[.int .i64 k] w fun e w' => e = .returned (.bool (chg k)) ∧ w = w' := by
  by_cases h : 1 ≤ k ∧ k ≤ 4
  · have hc : chg k = true := decide_eq_true (.inl h)
    obtain ⟨h1, h2⟩ := h
    have e1 : decide (1 ≤ k) = true := decide_eq_true h1
    have e2 : decide (k ≤ 4) = true := decide_eq_true h2
    rw [hc]
    clear hc
    go_enter Try.func14, Try.ntmps14
    go_wp2_with fail
    go_ret
    exact ⟨rfl, rfl⟩
  · by_cases h7 : k = 7
    · subst h7
      go_enter Try.func14, Try.ntmps14
      go_wp2_with fail
      go_ret
      exact ⟨rfl, rfl⟩
    · have hc : chg k = false := decide_eq_false (by omega)
      have e7 : (k == 7) = false := by simpa using h7
      rw [hc]
      clear hc
      by_cases h1 : 1 ≤ k
      · have e1 : decide (1 ≤ k) = true := decide_eq_true h1
        have e2 : decide (k ≤ 4) = false := decide_eq_false (by omega)
        go_enter Try.func14, Try.ntmps14
        go_wp2_with fail
        go_ret
        exact ⟨rfl, rfl⟩
      · have e1 : decide (1 ≤ k) = false := decide_eq_false h1
        go_enter Try.func14, Try.ntmps14
        go_wp2_with fail
        go_ret
        exact ⟨rfl, rfl⟩
set_option maxHeartbeats 4000000 in
theorem refChanges_any (k : Int) (w : World) : Calls Try.prog 15 #[.int .i64 k] w fun e w' => e = .returned (.bool (chg k)) ∧ w = w' := by
  by_cases h1 : k = 1
  · subst h1
    go_enter Try.func15, Try.ntmps15
    go_wp2_with fail
    go_ret
    exact ⟨rfl, rfl⟩
  by_cases h2 : k = 2
  · subst h2
    go_enter Try.func15, Try.ntmps15
    go_wp2_with fail
    go_ret
    exact ⟨rfl, rfl⟩
  by_cases h3 : k = 3
  · subst h3
    go_enter Try.func15, Try.ntmps15
    go_wp2_with fail
    go_ret
    exact ⟨rfl, rfl⟩
  by_cases h4 : k = 4
  · subst h4
    go_enter Try.func15, Try.ntmps15
    go_wp2_with fail
    go_ret
    exact ⟨rfl, rfl⟩
  by_cases h7 : k = 7
  · subst h7
    go_enter Try.func15, Try.ntmps15
    go_wp2_with fail
    go_ret
    exact ⟨rfl, rfl⟩
  have f1 : (k == 1) = false := by simpa using h1
  have f2 : (k == 2) = false := by simpa using h2
  have f3 : (k == 3) = false := by simpa using h3
  have f4 : (k == 4) = false := by simpa using h4
  have f7 : (k == 7) = false := by simpa using h7
  have hc : chg k = false := decide_eq_false (by omega)
  rw [hc]
  clear hc
  go_enter Try.func15, Try.ntmps15
  go_wp2_with fail
  go_ret
  exact ⟨rfl, rfl⟩
end Go.Proofs.Ytfcoaiggpcjldaa
