import Derived.Test.YtfcoaiggpcjldaaRqD
set_option linter.unusedVariables false
set_option linter.unusedSimpArgs false
set_option maxRecDepth 100000
namespace Go.Proofs.Ytfcoaiggpcjldaa
open Go.RowKit Gw

theorem flat_has (k : Int) (F : Int → List UInt8) : (has k).flatMap F = (if hB k 0 = true then F 0 else []) ++ (if hB k 1 = true then F 1 else []) ++ (if hB k 2 = true then F 2 else []) := by
  by_cases h1 : k = 1
  · subst h1; simp [has, hB]
  by_cases h2 : k = 2 ∨ k = 3 ∨ k = 5
  · have : has k = [0] := by unfold has; rw [if_neg h1, if_pos h2]
    simp [hB, this]
  by_cases h4 : k = 4
  · subst h4; simp [has, hB]
  by_cases h6 : k = 6
  · subst h6; simp [has, hB]
  by_cases h7 : k = 7
  · subst h7; simp [has, hB]
  · have : has k = [] := by unfold has; rw [if_neg h1, if_neg h2, if_neg h4, if_neg h6, if_neg h7]
    simp [hB, this]
theorem Ob.nn {w : World} {v : Value} {l : List UInt8} {n : Nat} (h : Ob w v l) (hl : l.length = n) : ∃ ao cap, v = .slice ao n cap ∧ n ≤ cap ∧ cap ≤ 9223372036854775807 := by
  subst hl
  exact Sl.form h.bs
theorem Ob.on {w : World} {v : Value} {l : List UInt8} {n : Nat} (h : Ob w v l) (hn : l.length = n) : Ow w 5 1 v n (bv l) := by
  subst hn
  exact h
theorem Bs.on {w : World} {v : Value} {l : List UInt8} {n : Nat} (h : Bs w v l) (hn : l.length = n) : Sl w 1 v n (bv l) := by
  subst hn
  exact h
theorem Ob.of_on {w : World} {v : Value} {l : List UInt8} {n : Nat} (h : Ow w 5 1 v n (bv l)) (hn : l.length = n) : Ob w v l := by
  subst hn
  exact h
theorem low_one (n : Nat) : low n 1 = [UInt8.ofNat n] := by simp [low]

set_option maxRecDepth 1000000 in
set_option maxHeartbeats 16000000 in
theorem refPut_any (q : Rq) (w : World) (hq : q.ok) : Calls Try.prog 10 #[q.v] w (PutQ q w) := by
  cases hmay : mayB q with
  | false =>
    have hck : chk q = 200 := chk_no hmay
    unfold PutQ
    rw [hck, hmay, if_neg (by simp)]
    have E := fun w => refCheck_any q w
    rw [hck] at E
    clear hck hmay hq
    obtain ⟨kind, tag, id, seat, ttl⟩ := q
    dsimp only [Rq.v] at *
    go_enter Try.func10, Try.ntmps10
    go_wp2_with (with_reducible refine st_box ?_)
    refine StopOp.go rfl fun K hK => ?_
    refine wp_box (v := .agg #[.int .i64 kind, .int .u32 tag, .int .u32 id, .int .i64 seat, .int .i64 ttl]) (by rfl) ?_
    intro gq w1 hg1 hg2 hm1 hB1
    simp only [put_some, List.set_cons_succ, List.set_cons_zero]
    refine hK _ _ ?_
    clear hK K
    have hBq : Blk w1 gq 25 [.int .i64 kind, .int .u32 tag, .int .u32 id, .int .i64 seat, .int .i64 ttl] := hB1
    have b0 := hBq.cell' (i := 0) rfl
    have b1 := hBq.cell' (i := 1) rfl
    have b2 := hBq.cell' (i := 2) rfl
    have b3 := hBq.cell' (i := 3) rfl
    have b4 := hBq.cell' (i := 4) rfl
    clear hB1
    go_wp2_with (go_at_call 13; (with_reducible refine (E _).mono ?_); rintro e w2 ⟨rfl, hm2⟩)
    go_ret2
    exact ⟨_, rfl, Ob.nil _, by simp [New, blks], hm1.ext hm2⟩
  | true =>
    have hck : chk q = 0 := by unfold chk; rw [hmay]; rfl
    obtain ⟨p1, p2, p3, p4, p5⟩ := mayB_parts hmay
    unfold PutQ
    rw [hck, hmay, if_pos rfl]
    have E := fun w => refCheck_any q w
    rw [hck] at E
    clear hck hmay
    obtain ⟨BQ, hBQ⟩ : ∃ B, B = bytesOf q := ⟨_, rfl⟩
    rw [← hBQ]
    unfold bytesOf at hBQ
    rw [flat_has] at hBQ
    have e0 : fieldB q 0 = low q.id 4 := by simp [fieldB]
    have e1 : fieldB q 1 = low q.seat.toNat 2 := by simp [fieldB]
    have e2 : fieldB q 2 = low q.ttl.toNat 8 := by simp [fieldB]
    rw [e0, e1, e2] at hBQ
    clear e0 e1 e2
    obtain ⟨kind, tag, id, seat, ttl⟩ := q
    obtain ⟨k1, k2, ht, hi, s1, s2, l1, l2⟩ := hq
    dsimp only [Rq.v] at *
    obtain ⟨kn, rfl⟩ := Int.eq_ofNat_of_zero_le (show 0 ≤ kind by omega)
    obtain ⟨sn, rfl⟩ := Int.eq_ofNat_of_zero_le p3
    obtain ⟨tn, rfl⟩ := Int.eq_ofNat_of_zero_le p5
    simp only [Int.ofNat_eq_natCast, Int.toNat_natCast] at *
    obtain ⟨c0, hc0⟩ : ∃ b, hB kn 0 = b := ⟨_, rfl⟩
    obtain ⟨c1, hc1⟩ : ∃ b, hB kn 1 = b := ⟨_, rfl⟩
    obtain ⟨c2, hc2⟩ : ∃ b, hB kn 2 = b := ⟨_, rfl⟩
    have S := fun w => refHas_val kn c0 c1 c2 w hc0 hc1 hc2
    rw [hc0, hc1, hc2] at hBQ
    have HBQ := Lib.hid hBQ
    clear hc0 hc1 hc2 hBQ
    have ht' : (tag : Int) ≤ 4294967295 := by omega
    have hi' : (id : Int) ≤ 4294967295 := by omega
    have hkn : kn ≤ 10 := by omega
    have hsn : sn ≤ 65535 := by omega
    have htn : tn ≤ 9223372036854775807 := by omega
    clear k1 k2 s1 s2 l1 l2 p1 p2 p3 p4 p5
    go_enter Try.func10, Try.ntmps10
    go_wp2_with (with_reducible refine st_box ?_)
    refine StopOp.go rfl fun K hK => ?_
    refine wp_box (v := .agg #[.int .i64 (kn : Nat), .int .u32 tag, .int .u32 id, .int .i64 (sn : Nat), .int .i64 (tn : Nat)]) (by rfl) ?_
    intro gq w1 hg1 hg2 hm1 hB1
    simp only [put_some, List.set_cons_succ, List.set_cons_zero]
    refine hK _ _ ?_
    clear hK K
    have hBq : Blk w1 gq 25 [.int .i64 (kn : Nat), .int .u32 tag, .int .u32 id, .int .i64 (sn : Nat), .int .i64 (tn : Nat)] := hB1
    have b0 := hBq.cell' (i := 0) rfl
    have b1 := hBq.cell' (i := 1) rfl
    have b2 := hBq.cell' (i := 2) rfl
    have b3 := hBq.cell' (i := 3) rfl
    have b4 := hBq.cell' (i := 4) rfl
    clear hB1
    go_wp2_with (first | (with_reducible refine st_bslice ?_) | (go_at_call 13; (with_reducible refine (E _).mono ?_); rintro e w2 ⟨rfl, hm2⟩; have d0 := (hBq.ext hm2).cell' (i := 0) rfl) | (go_at_call 28; (with_reducible refine (S _).mono ?_); rintro e w3 ⟨rfl, rfl⟩))
    refine StopOp.go rfl fun K hK => ?_
    refine wp_bslice stB [.int .u8 (kn : Nat)] rfl (by decide) (by rfl) (by simp [Value.cells]) ?_
    intro p w4 hp1 hp2 hm4 hB4
    simp only [put_some, List.set_cons_succ, List.set_cons_zero]
    refine hK _ _ ?_
    clear hK K
    have hk8 : Value.int .u8 (kn : Nat) = .int .u8 ((UInt8.ofNat kn).toNat : Nat) := by rw [UInt8.toNat_ofNat', Nat.mod_eq_of_lt (by omega)]
    have ho4 : Ob w4 (.slice (some ⟨p, 0, none⟩) 1 1) (low kn 1) := by
      rw [low_one]
      refine Ow.of_blk (rest := []) ?_ (Nat.le_refl _) (by omega) rfl rfl
      have := hB4
      rw [hk8] at this
      exact this
    have hn4 : New w1 (.slice (some ⟨p, 0, none⟩) 1 1) := fun k hk => by have := hm2.size; simp [blks] at hk; omega
    have hM4 : Mod [] w1 w4 := hm2.ext hm4
    have d1 := (hBq.ext hM4).cell' (i := 1) rfl
    clear hB4 hk8 hm4 hm2 d0 E S
    go_wp2_with (first | (with_reducible refine st_append ?_) | (go_at_call 29; refine (refNumber_any tag 4 _ (by omega) (by omega)).mono ?_; rintro e x5 ⟨y5, rfl, hy5, hny5, hmy5⟩; obtain ⟨ay5, cy5, rfl, _, _⟩ := hy5.nn (low_length _ _)))
    refine StopOp.go rfl fun K hK => ?_
    have hpx5 := ho4.ext hmy5
    have hox5 : Ow x5 5 1 _ 1 (bv (low kn 1)) := hpx5.on (by simp [low_length])
    have hyx5 : Sl x5 1 _ 4 (bv (low tag 4)) := hy5.bs.on (low_length _ _)
    refine wp_append_ow stB (by rfl) (by rfl) hox5 hyx5 (bv_one _) (by omega) (by omega) ?_
    intro v5 z5 ho5 hm5 hb5
    simp only [put_some, List.set_cons_succ, List.set_cons_zero]
    refine hK _ _ ?_
    clear hK K
    rw [← bv_append] at ho5
    have hN5 : New w1 v5 := fun k hk => (hb5 k hk).elim (hn4 k) fun h => by have := hM4.size; have := hmy5.size; omega
    have hM5 : Mod [] w1 z5 := (hM4.ext hmy5).fresh hm5 hn4
    have ho5' : Ob z5 v5 (low kn 1 ++ low tag 4) := Ob.of_on ho5 (by simp [low_length])
    obtain ⟨ao5, cap5, rfl, _, _⟩ := ho5'.nn (n := 5) (by simp [low_length])
    cases c0 with
    | true =>
      have g0 := (hBq.ext hM5).cell' (i := 2) rfl
      go_wp2_with (first | (with_reducible refine st_append ?_) | (go_at_call 29; refine (refNumber_any id 4 _ (by omega) (by omega)).mono ?_; rintro e x6 ⟨y6, rfl, hy6, hny6, hmy6⟩; obtain ⟨ay6, cy6, rfl, _, _⟩ := hy6.nn (low_length _ _)))
      refine StopOp.go rfl fun K hK => ?_
      have hpx6 := ho5'.ext hmy6
      have hox6 : Ow x6 5 1 _ 5 (bv (low kn 1 ++ low tag 4)) := hpx6.on (by simp [low_length])
      have hyx6 : Sl x6 1 _ 4 (bv (low id 4)) := hy6.bs.on (low_length _ _)
      refine wp_append_ow stB (by rfl) (by rfl) hox6 hyx6 (bv_one _) (by omega) (by omega) ?_
      intro v6 z6 ho6 hm6 hb6
      simp only [put_some, List.set_cons_succ, List.set_cons_zero]
      refine hK _ _ ?_
      clear hK K
      rw [← bv_append] at ho6
      have hN6 : New w1 v6 := fun k hk => (hb6 k hk).elim (hN5 k) fun h => by have := hM5.size; have := hmy6.size; omega
      have hM6 : Mod [] w1 z6 := (hM5.ext hmy6).fresh hm6 hN5
      have ho6' : Ob z6 v6 (low kn 1 ++ low tag 4 ++ low id 4) := Ob.of_on ho6 (by simp [low_length])
      obtain ⟨ao6, cap6, rfl, _, _⟩ := ho6'.nn (n := 9) (by simp [low_length])
      cases c1 with
      | true =>
        have g1 := (hBq.ext hM6).cell' (i := 3) rfl
        go_wp2_with (first | (with_reducible refine st_append ?_) | (go_at_call 29; refine (refNumber_any sn 2 _ (by omega) (by omega)).mono ?_; rintro e x7 ⟨y7, rfl, hy7, hny7, hmy7⟩; obtain ⟨ay7, cy7, rfl, _, _⟩ := hy7.nn (low_length _ _)))
        refine StopOp.go rfl fun K hK => ?_
        have hpx7 := ho6'.ext hmy7
        have hox7 : Ow x7 5 1 _ 9 (bv (low kn 1 ++ low tag 4 ++ low id 4)) := hpx7.on (by simp [low_length])
        have hyx7 : Sl x7 1 _ 2 (bv (low sn 2)) := hy7.bs.on (low_length _ _)
        refine wp_append_ow stB (by rfl) (by rfl) hox7 hyx7 (bv_one _) (by omega) (by omega) ?_
        intro v7 z7 ho7 hm7 hb7
        simp only [put_some, List.set_cons_succ, List.set_cons_zero]
        refine hK _ _ ?_
        clear hK K
        rw [← bv_append] at ho7
        have hN7 : New w1 v7 := fun k hk => (hb7 k hk).elim (hN6 k) fun h => by have := hM6.size; have := hmy7.size; omega
        have hM7 : Mod [] w1 z7 := (hM6.ext hmy7).fresh hm7 hN6
        have ho7' : Ob z7 v7 (low kn 1 ++ low tag 4 ++ low id 4 ++ low sn 2) := Ob.of_on ho7 (by simp [low_length])
        obtain ⟨ao7, cap7, rfl, _, _⟩ := ho7'.nn (n := 11) (by simp [low_length])
        cases c2 with
        | true =>
          have g2 := (hBq.ext hM7).cell' (i := 4) rfl
          go_wp2_with (first | (with_reducible refine st_append ?_) | (go_at_call 29; refine (refNumber_any tn 8 _ (by omega) (by omega)).mono ?_; rintro e x8 ⟨y8, rfl, hy8, hny8, hmy8⟩; obtain ⟨ay8, cy8, rfl, _, _⟩ := hy8.nn (low_length _ _)))
          refine StopOp.go rfl fun K hK => ?_
          have hpx8 := ho7'.ext hmy8
          have hox8 : Ow x8 5 1 _ 11 (bv (low kn 1 ++ low tag 4 ++ low id 4 ++ low sn 2)) := hpx8.on (by simp [low_length])
          have hyx8 : Sl x8 1 _ 8 (bv (low tn 8)) := hy8.bs.on (low_length _ _)
          refine wp_append_ow stB (by rfl) (by rfl) hox8 hyx8 (bv_one _) (by omega) (by omega) ?_
          intro v8 z8 ho8 hm8 hb8
          simp only [put_some, List.set_cons_succ, List.set_cons_zero]
          refine hK _ _ ?_
          clear hK K
          rw [← bv_append] at ho8
          have hN8 : New w1 v8 := fun k hk => (hb8 k hk).elim (hN7 k) fun h => by have := hM7.size; have := hmy8.size; omega
          have hM8 : Mod [] w1 z8 := (hM7.ext hmy8).fresh hm8 hN7
          have ho8' : Ob z8 v8 (low kn 1 ++ low tag 4 ++ low id 4 ++ low sn 2 ++ low tn 8) := Ob.of_on ho8 (by simp [low_length])
          obtain ⟨ao8, cap8, rfl, _, _⟩ := ho8'.nn (n := 19) (by simp [low_length])
          go_wp2_with fail
          go_ret2
          refine ⟨_, rfl, ?_, hN8.mono hm1.size, hm1.ext hM8⟩
          rw [HBQ.out]
          simpa using ho8'
        | false =>
          go_wp2_with fail
          go_ret2
          refine ⟨_, rfl, ?_, hN7.mono hm1.size, hm1.ext hM7⟩
          rw [HBQ.out]
          simpa using ho7'
      | false =>
        cases c2 with
        | true =>
          have g2 := (hBq.ext hM6).cell' (i := 4) rfl
          go_wp2_with (first | (with_reducible refine st_append ?_) | (go_at_call 29; refine (refNumber_any tn 8 _ (by omega) (by omega)).mono ?_; rintro e x7 ⟨y7, rfl, hy7, hny7, hmy7⟩; obtain ⟨ay7, cy7, rfl, _, _⟩ := hy7.nn (low_length _ _)))
          refine StopOp.go rfl fun K hK => ?_
          have hpx7 := ho6'.ext hmy7
          have hox7 : Ow x7 5 1 _ 9 (bv (low kn 1 ++ low tag 4 ++ low id 4)) := hpx7.on (by simp [low_length])
          have hyx7 : Sl x7 1 _ 8 (bv (low tn 8)) := hy7.bs.on (low_length _ _)
          refine wp_append_ow stB (by rfl) (by rfl) hox7 hyx7 (bv_one _) (by omega) (by omega) ?_
          intro v7 z7 ho7 hm7 hb7
          simp only [put_some, List.set_cons_succ, List.set_cons_zero]
          refine hK _ _ ?_
          clear hK K
          rw [← bv_append] at ho7
          have hN7 : New w1 v7 := fun k hk => (hb7 k hk).elim (hN6 k) fun h => by have := hM6.size; have := hmy7.size; omega
          have hM7 : Mod [] w1 z7 := (hM6.ext hmy7).fresh hm7 hN6
          have ho7' : Ob z7 v7 (low kn 1 ++ low tag 4 ++ low id 4 ++ low tn 8) := Ob.of_on ho7 (by simp [low_length])
          obtain ⟨ao7, cap7, rfl, _, _⟩ := ho7'.nn (n := 17) (by simp [low_length])
          go_wp2_with fail
          go_ret2
          refine ⟨_, rfl, ?_, hN7.mono hm1.size, hm1.ext hM7⟩
          rw [HBQ.out]
          simpa using ho7'
        | false =>
          go_wp2_with fail
          go_ret2
          refine ⟨_, rfl, ?_, hN6.mono hm1.size, hm1.ext hM6⟩
          rw [HBQ.out]
          simpa using ho6'
    | false =>
      cases c1 with
      | true =>
        have g1 := (hBq.ext hM5).cell' (i := 3) rfl
        go_wp2_with (first | (with_reducible refine st_append ?_) | (go_at_call 29; refine (refNumber_any sn 2 _ (by omega) (by omega)).mono ?_; rintro e x6 ⟨y6, rfl, hy6, hny6, hmy6⟩; obtain ⟨ay6, cy6, rfl, _, _⟩ := hy6.nn (low_length _ _)))
        refine StopOp.go rfl fun K hK => ?_
        have hpx6 := ho5'.ext hmy6
        have hox6 : Ow x6 5 1 _ 5 (bv (low kn 1 ++ low tag 4)) := hpx6.on (by simp [low_length])
        have hyx6 : Sl x6 1 _ 2 (bv (low sn 2)) := hy6.bs.on (low_length _ _)
        refine wp_append_ow stB (by rfl) (by rfl) hox6 hyx6 (bv_one _) (by omega) (by omega) ?_
        intro v6 z6 ho6 hm6 hb6
        simp only [put_some, List.set_cons_succ, List.set_cons_zero]
        refine hK _ _ ?_
        clear hK K
        rw [← bv_append] at ho6
        have hN6 : New w1 v6 := fun k hk => (hb6 k hk).elim (hN5 k) fun h => by have := hM5.size; have := hmy6.size; omega
        have hM6 : Mod [] w1 z6 := (hM5.ext hmy6).fresh hm6 hN5
        have ho6' : Ob z6 v6 (low kn 1 ++ low tag 4 ++ low sn 2) := Ob.of_on ho6 (by simp [low_length])
        obtain ⟨ao6, cap6, rfl, _, _⟩ := ho6'.nn (n := 7) (by simp [low_length])
        cases c2 with
        | true =>
          have g2 := (hBq.ext hM6).cell' (i := 4) rfl
          go_wp2_with (first | (with_reducible refine st_append ?_) | (go_at_call 29; refine (refNumber_any tn 8 _ (by omega) (by omega)).mono ?_; rintro e x7 ⟨y7, rfl, hy7, hny7, hmy7⟩; obtain ⟨ay7, cy7, rfl, _, _⟩ := hy7.nn (low_length _ _)))
          refine StopOp.go rfl fun K hK => ?_
          have hpx7 := ho6'.ext hmy7
          have hox7 : Ow x7 5 1 _ 7 (bv (low kn 1 ++ low tag 4 ++ low sn 2)) := hpx7.on (by simp [low_length])
          have hyx7 : Sl x7 1 _ 8 (bv (low tn 8)) := hy7.bs.on (low_length _ _)
          refine wp_append_ow stB (by rfl) (by rfl) hox7 hyx7 (bv_one _) (by omega) (by omega) ?_
          intro v7 z7 ho7 hm7 hb7
          simp only [put_some, List.set_cons_succ, List.set_cons_zero]
          refine hK _ _ ?_
          clear hK K
          rw [← bv_append] at ho7
          have hN7 : New w1 v7 := fun k hk => (hb7 k hk).elim (hN6 k) fun h => by have := hM6.size; have := hmy7.size; omega
          have hM7 : Mod [] w1 z7 := (hM6.ext hmy7).fresh hm7 hN6
          have ho7' : Ob z7 v7 (low kn 1 ++ low tag 4 ++ low sn 2 ++ low tn 8) := Ob.of_on ho7 (by simp [low_length])
          obtain ⟨ao7, cap7, rfl, _, _⟩ := ho7'.nn (n := 15) (by simp [low_length])
          go_wp2_with fail
          go_ret2
          refine ⟨_, rfl, ?_, hN7.mono hm1.size, hm1.ext hM7⟩
          rw [HBQ.out]
          simpa using ho7'
        | false =>
          go_wp2_with fail
          go_ret2
          refine ⟨_, rfl, ?_, hN6.mono hm1.size, hm1.ext hM6⟩
          rw [HBQ.out]
          simpa using ho6'
      | false =>
        cases c2 with
        | true =>
          have g2 := (hBq.ext hM5).cell' (i := 4) rfl
          go_wp2_with (first | (with_reducible refine st_append ?_) | (go_at_call 29; refine (refNumber_any tn 8 _ (by omega) (by omega)).mono ?_; rintro e x6 ⟨y6, rfl, hy6, hny6, hmy6⟩; obtain ⟨ay6, cy6, rfl, _, _⟩ := hy6.nn (low_length _ _)))
          refine StopOp.go rfl fun K hK => ?_
          have hpx6 := ho5'.ext hmy6
          have hox6 : Ow x6 5 1 _ 5 (bv (low kn 1 ++ low tag 4)) := hpx6.on (by simp [low_length])
          have hyx6 : Sl x6 1 _ 8 (bv (low tn 8)) := hy6.bs.on (low_length _ _)
          refine wp_append_ow stB (by rfl) (by rfl) hox6 hyx6 (bv_one _) (by omega) (by omega) ?_
          intro v6 z6 ho6 hm6 hb6
          simp only [put_some, List.set_cons_succ, List.set_cons_zero]
          refine hK _ _ ?_
          clear hK K
          rw [← bv_append] at ho6
          have hN6 : New w1 v6 := fun k hk => (hb6 k hk).elim (hN5 k) fun h => by have := hM5.size; have := hmy6.size; omega
          have hM6 : Mod [] w1 z6 := (hM5.ext hmy6).fresh hm6 hN5
          have ho6' : Ob z6 v6 (low kn 1 ++ low tag 4 ++ low tn 8) := Ob.of_on ho6 (by simp [low_length])
          obtain ⟨ao6, cap6, rfl, _, _⟩ := ho6'.nn (n := 13) (by simp [low_length])
          go_wp2_with fail
          go_ret2
          refine ⟨_, rfl, ?_, hN6.mono hm1.size, hm1.ext hM6⟩
          rw [HBQ.out]
          simpa using ho6'
        | false =>
          go_wp2_with fail
          go_ret2
          refine ⟨_, rfl, ?_, hN5.mono hm1.size, hm1.ext hM5⟩
          rw [HBQ.out]
          simpa using ho5'
end Go.Proofs.Ytfcoaiggpcjldaa
