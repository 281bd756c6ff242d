import Derived.Test.YtfcoaiggpcjldaaRqM
/-! RequestsBack. -/
set_option linter.unusedVariables false
set_option linter.unusedSimpArgs false
set_option maxRecDepth 100000
namespace Go.Proofs.Ytfcoaiggpcjldaa
open Go.RowKit Gw

theorem bytesOf_bounds (q : Rq) : 5 ≤ (bytesOf q).length ∧ (bytesOf q).length ≤ 15 := by
  rw [bytesOf_len]
  rcases has_cases q.kind with e | e | e | e | e | e <;> rw [e] <;> decide
theorem Bs.pre {w : World} {ao : Option Addr} {n cap k : Nat} {l : List UInt8} (h : Bs w (.slice ao n cap) l) (hn : n = l.length) (hk : k ≤ n) (hc : k ≤ cap) : Bs w (.slice ao k cap) (l.take k) := by
  subst hn
  have := Sl.cut (lo := 0) (hi := k) (m := cap) h (by omega) hk hc (by omega)
  simp only [Nat.mul_one, Nat.zero_mul, List.drop_zero, Nat.sub_zero, Addr.add, if_true, Option.map_id'] at this
  unfold Bs
  rw [List.length_take, Nat.min_eq_left (by omega)]
  have hb : bv (l.take k) = (bv l).take k := by simp [bv, List.map_take]
  rw [hb]
  simpa using this
theorem putq_no (q : Rq) (w : World) (hq : q.ok) (hm : mayB q = false) :
    Calls Try.prog 9 #[q.v] w fun e w' => ∃ ao cap, e = .returned (.tuple #[.slice ao 0 cap, .int .i64 200]) ∧ Mod [] w w' :=
  (putq_any q w hq).mono fun e w' ⟨v, h1, h2, h3, h4⟩ => by
    rw [hm, if_neg (by simp)] at h2
    obtain ⟨ao, cap, rfl, _, _⟩ := h2.bs.form
    exact ⟨ao, cap, by rw [h1, chk_no hm]; rfl, h4⟩
theorem checkq_no (q : Rq) (w : World) (hq : q.ok) (hm : mayB q = false) : Calls Try.prog 12 #[q.v] w fun e w' => e = .returned (.int .i64 200) ∧ Mod [] w w' :=
  (check_any q w hq).mono fun e w' ⟨h1, h2⟩ => ⟨by rw [h1, chk_no hm], h2⟩

set_option maxRecDepth 1000000 in
set_option maxHeartbeats 16000000 in
theorem requestsBack_core (q : Rq) (hq : q.ok) (cut : Int) (hc1 : -9223372036854775808 ≤ cut) (hc2 : cut ≤ 9223372036854775807) (t : List UInt8) (tv0 : Value) (w : World) (ht : Bs w tv0 t) (hl : t.length ≤ 1048576) :
    Calls Try.prog 5 #[q.v, .int .i64 cut, tv0] w fun e w' => e = .returned (.bool true) ∧ Mod [] w w' := by
  obtain ⟨aot, capt, rfl, _, _⟩ := ht.form
  cases hm : mayB q with
  | false =>
    have P := fun w => putq_no q w hq hm
    have C := fun w => checkq_no q w hq hm
    clear hm hq
    obtain ⟨kind, tag, id, seat, ttl⟩ := q
    dsimp only [Rq.v] at *
    go_enter Try.func5, Try.ntmps5
    go_wp2_with (with_reducible refine st_box ?_)
    refine StopOp.go rfl fun K hK => ?_
    refine wp_box (v := .agg #[.int .i64 kind, .int .u32 tag, .int .u32 id, .int .i64 seat, .int .i64 ttl]) (by rfl) ?_
    intro g w1 hg1 hg2 hm1 hB1
    simp only [put_some, List.set_cons_succ, List.set_cons_zero]
    refine hK _ _ ?_
    clear hK K
    have hB1' : Blk w1 g 25 [.int .i64 kind, .int .u32 tag, .int .u32 id, .int .i64 seat, .int .i64 ttl] := hB1
    clear hB1
    go_wp2_with (first
                  | (go_at_call 8; refine (rqawake_any _).mono ?_; rintro e w2 ⟨rfl, hm2⟩; have hB2 := hB1'.ext hm2; have a0 := hB2.cell' (i := 0) rfl; have a1 := hB2.cell' (i := 1) rfl; have a2 := hB2.cell' (i := 2) rfl; have a3 := hB2.cell' (i := 3) rfl; have a4 := hB2.cell' (i := 4) rfl)
                  | (go_at_call 9; refine (P _).mono ?_; rintro e w3 ⟨ao3, cap3, rfl, hm3⟩; have hB3 := hB2.ext hm3; have b0 := hB3.cell' (i := 0) rfl; have b1 := hB3.cell' (i := 1) rfl; have b2 := hB3.cell' (i := 2) rfl; have b3 := hB3.cell' (i := 3) rfl; have b4 := hB3.cell' (i := 4) rfl)
                  | (go_at_call 12; refine (C _).mono ?_; rintro e w4 ⟨rfl, hm4⟩))
    go_ret
    exact ⟨rfl, ((hm1.ext hm2).ext hm3).ext hm4⟩
  | true =>
    have P := fun w => putq_yes q w hq hm
    have C := fun w => checkq_yes q w hq hm
    have hok := getOk_of q hq hm
    have hgs := getS_of q hq hm
    have hbd := bytesOf_bounds q
    obtain ⟨B, hB⟩ : ∃ B, B = bytesOf q := ⟨_, rfl⟩
    rw [← hB] at P hok hgs hbd
    obtain ⟨k, hk⟩ := Int.eq_ofNat_of_zero_le (pick_ge cut B.length)
    have hkl : (k : Int) < B.length := by rw [← hk]; exact pick_lt _ _ (by omega)
    have K1 := fun w => pick_any cut B.length w hc1 hc2 (by omega) (by omega)
    rw [hk] at K1
    have G1 := fun v w h => getq_yes q B v w h (by omega) hok hgs
    have G2 := fun v w h => getq_no (B.take k) v w h (by rw [List.length_take]; omega) (getOk_cut B hok k (by omega))
    have hlong : (B ++ (0 :: t)).length = B.length + (1 + t.length) := by simp; omega
    have G3 := fun v w h => getq_no (B ++ (0 :: t)) v w h (by rw [hlong]; omega) (getOk_long B (0 :: t) hok (by simp))
    clear hok hgs hB hm hq hk
    obtain ⟨kind, tag, id, seat, ttl⟩ := q
    dsimp only [Rq.v] at *
    have hcmp := fun w => rq_neq_same kind seat ttl tag id w
    have hcm0 := fun w => rq_neq_same 0 0 0 0 0 w
    have hce0 := fun w => rq_eql_same 0 0 0 0 0 w
    have d1 : ¬ ((B.length : Int) < 5) := by omega
    have d2 : ¬ ((15 : Int) < B.length) := by omega
    have d3 : (0 : Int) ≤ k := by omega
    have d4 : (k : Int) ≤ B.length := by omega
    have d5 : ¬ (B.length < 5) := by omega
    have d6 : ¬ (15 < B.length) := by omega
    go_enter Try.func5, Try.ntmps5
    go_wp2_with (with_reducible refine st_box ?_)
    refine StopOp.go rfl fun K hK => ?_
    refine wp_box (v := .agg #[.int .i64 kind, .int .u32 tag, .int .u32 id, .int .i64 seat, .int .i64 ttl]) (by rfl) ?_
    intro g w1 hg1 hg2 hm1 hB1
    simp only [put_some, List.set_cons_succ, List.set_cons_zero]
    refine hK _ _ ?_
    clear hK K
    have hB1' : Blk w1 g 25 [.int .i64 kind, .int .u32 tag, .int .u32 id, .int .i64 seat, .int .i64 ttl] := hB1
    clear hB1
    go_wp2_with (first
                  | (with_reducible refine st_alloc ?_)
                  | (go_at_call 8; refine (rqawake_any _).mono ?_; rintro e w2 ⟨rfl, hm2⟩; have hB2 := hB1'.ext hm2; have a0 := hB2.cell' (i := 0) rfl; have a1 := hB2.cell' (i := 1) rfl; have a2 := hB2.cell' (i := 2) rfl; have a3 := hB2.cell' (i := 3) rfl; have a4 := hB2.cell' (i := 4) rfl)
                  | (go_at_call 9; refine (P _).mono ?_; rintro e w3 ⟨v3, rfl, ho3, hn3, hm3⟩; obtain ⟨ao3, cap3, rfl, hcp1, hcp2⟩ := ho3.bs.form; have hB3 := hB2.ext hm3; have b0 := hB3.cell' (i := 0) rfl; have b1 := hB3.cell' (i := 1) rfl; have b2 := hB3.cell' (i := 2) rfl; have b3 := hB3.cell' (i := 3) rfl; have b4 := hB3.cell' (i := 4) rfl)
                  | (go_at_call 12; refine (C _).mono ?_; rintro e w4 ⟨rfl, hm4⟩)
                  | (go_at_call 17; refine (G1 _ _ (ho3.bs.ext hm4)).mono ?_; rintro e w5 ⟨rfl, hm5⟩))
    have hM5 := (((hm1.ext hm2).ext hm3).ext hm4).ext hm5
    have ho5 := (ho3.ext hm4).ext hm5
    have hB5 := (hB3.ext hm4).ext hm5
    have d7 : (k : Int) ≤ cap3 := by omega
    clear a0 a1 a2 a3 a4 b0 b1 b2 b3 b4 hm1 hm2 hm3 hm4 hm5 hB1' hB2 hB3 ho3 P C G1 hn3
    refine StopOp.go rfl fun K hK => ?_
    refine wp_alloc zero_req ?_
    intro g6 w6 hg61 hg62 hmww6 hBww6
    simp only [put_some, List.set_cons_succ, List.set_cons_zero]
    refine hK _ _ ?_
    clear hK K
    go_wp2_with (with_reducible refine st_store ?_)
    refine StopOp.go rfl fun K hK => ?_
    refine wp_store (u := .agg #[.int .i64 kind, .int .u32 tag, .int .u32 id, .int .i64 seat, .int .i64 ttl]) (by rfl) (by rfl) (by kernel_rfl) hBww6 (by simp [Value.cells]) (by simp [Value.cells, Value.oneCell']) ?_
    intro w7 hmww7 hBww7
    refine hK _ _ ?_
    clear hK K
    have hBg6 : Blk w7 g6 25 [.int .i64 kind, .int .u32 tag, .int .u32 id, .int .i64 seat, .int .i64 ttl] := hBww7
    have hxw7 : Mod [] w5 w7 := hmww6.fresh hmww7 (by simpa using hg61)
    clear hBww6 hBww7 hmww6 hmww7
    have ho7 := ho5.ext hxw7
    have hM7 := hM5.ext hxw7
    have hB7 := hB5.ext hxw7
    have hcut : Bs w7 (.slice ao3 k cap3) (B.take k) := ho7.bs.pre rfl (by omega) (by omega)
    go_wp2_with (first
                  | (with_reducible refine st_alloc ?_)
                  | (go_at_call 20; refine (K1 _).mono ?_; rintro e w8 ⟨rfl, rfl⟩)
                  | (go_at_call 17; refine (G2 _ _ hcut).mono ?_; rintro e w8 ⟨rfl, hm8⟩))
    have ho8 := ho7.ext hm8
    have hM8 := hM7.ext hm8
    have hB8 := hB7.ext hm8
    have hB68 := hBg6.ext hm8
    clear ho7 hM7 hB7 hcut hm8 hBg6 ho5 hB5 hM5 hxw7
    refine StopOp.go rfl fun K hK => ?_
    refine wp_alloc zero_req ?_
    intro g9 w9 hg91 hg92 hmww9 hBww9
    simp only [put_some, List.set_cons_succ, List.set_cons_zero]
    refine hK _ _ ?_
    clear hK K
    go_wp2_with (with_reducible refine st_store ?_)
    refine StopOp.go rfl fun K hK => ?_
    refine wp_store (u := .agg #[.int .i64 0, .int .u32 0, .int .u32 0, .int .i64 0, .int .i64 0]) (by rfl) (by rfl) (by kernel_rfl) hBww9 (by simp [Value.cells]) (by simp [Value.cells, Value.oneCell']) ?_
    intro w10 hmww10 hBww10
    refine hK _ _ ?_
    clear hK K
    have hBg9 : Blk w10 g9 25 [.int .i64 0, .int .u32 0, .int .u32 0, .int .i64 0, .int .i64 0] := hBww10
    have hxw10 : Mod [] w8 w10 := hmww9.fresh hmww10 (by simpa using hg91)
    clear hBww9 hBww10 hmww9 hmww10
    have ho10 := ho8.ext hxw10
    have hM10 := hM8.ext hxw10
    have hB10 := hB8.ext hxw10
    have hB610 := hB68.ext hxw10
    clear ho8 hM8 hB8 hB68 hxw10
    have a0 := hBg9.cell' (i := 0) rfl
    have a1 := hBg9.cell' (i := 1) rfl
    have a2 := hBg9.cell' (i := 2) rfl
    have a3 := hBg9.cell' (i := 3) rfl
    have a4 := hBg9.cell' (i := 4) rfl
    have b0 := hB10.cell' (i := 0) rfl
    have b1 := hB10.cell' (i := 1) rfl
    have b2 := hB10.cell' (i := 2) rfl
    have b3 := hB10.cell' (i := 3) rfl
    have b4 := hB10.cell' (i := 4) rfl
    have c0 := hB610.cell' (i := 0) rfl
    have c1 := hB610.cell' (i := 1) rfl
    have c2 := hB610.cell' (i := 2) rfl
    have c3 := hB610.cell' (i := 3) rfl
    have c4 := hB610.cell' (i := 4) rfl
    go_wp2_with (first
                  | (with_reducible refine st_bslice ?_)
                  | (go_at_call 21; refine (copy_any B _ _ ho10.bs (by omega)).mono ?_; rintro e w11 ⟨v11, rfl, ho11, hn11, hm11⟩; obtain ⟨ao11, cap11, rfl, _, _⟩ := ho11.bs.form))
    refine StopOp.go rfl fun K hK => ?_
    refine wp_bslice stB [.int .u8 0] rfl (by decide) (by rfl) (by simp [Value.cells]) ?_
    intro p12 w12 hp1 hp2 hm12 hB12
    simp only [put_some, List.set_cons_succ, List.set_cons_zero]
    refine hK _ _ ?_
    clear hK K
    have ho12 : Ob w12 (.slice (some ⟨p12, 0, none⟩) 1 1) [0] := Ow.of_blk (rest := []) (by simpa [bv, Value.cells] using hB12) (by simp) (by omega) (by simp [bv]) (by simp [bv])
    have hn12 : New w11 (.slice (some ⟨p12, 0, none⟩) 1 1) := fun y hy => by
      have : y = p12 := by simpa [blks] using hy
      omega
    clear hB12 a0 a1 a2 a3 a4 b0 b1 b2 b3 b4 c0 c1 c2 c3 c4
    go_wp2_with (with_reducible refine st_append ?_)
    refine StopOp.go rfl fun K hK => ?_
    refine wp_append_ow stB (by rfl) (by rfl) ho12 (ht.ext ((hM10.ext hm11).ext hm12)) (bv_one _) (by simp; omega) (by simp; omega) ?_
    intro v13 w13 ho13 hm13' hb13
    simp only [put_some, List.set_cons_succ, List.set_cons_zero]
    refine hK _ _ ?_
    clear hK K
    have hm13 : Mod [] w11 w13 := hm12.fresh hm13' hn12
    rw [← bv_append] at ho13
    have e13 : (([0] : List UInt8) ++ t) = 0 :: t := rfl
    rw [e13, show ([0] : List UInt8).length + t.length = 1 + t.length from rfl] at ho13
    obtain ⟨ao13, cap13, rfl, _, _⟩ := ho13.sl.form
    have hs13 : Bs w13 (.slice ao13 (1 + t.length) cap13) (0 :: t) := by
      have h0 : (0 :: t : List UInt8).length = 1 + t.length := by simp; omega
      unfold Bs
      rw [h0]
      exact ho13.sl
    have ho11' := ho11.ext hm13
    clear ho12 hm12 hm13' hb13 ho13 e13
    go_wp2_with (with_reducible refine st_append ?_)
    refine StopOp.go rfl fun K hK => ?_
    refine wp_append_ow stB (by rfl) (by rfl) ho11' hs13 (bv_one _) (by simp; omega) (by simp; omega) ?_
    intro v14 w14 ho14 hm14' hb14
    simp only [put_some, List.set_cons_succ, List.set_cons_zero]
    refine hK _ _ ?_
    clear hK K
    have hm14 : Mod [] w10 w14 := (hm11.ext hm13).fresh hm14' hn11
    rw [← bv_append] at ho14
    rw [show B.length + (0 :: t : List UInt8).length = B.length + (t.length + 1) by simp] at ho14
    obtain ⟨ao14, cap14, rfl, _, _⟩ := ho14.sl.form
    have hs14 : Bs w14 (.slice ao14 (B.length + (t.length + 1)) cap14) (B ++ 0 :: t) := by
      have h0 : (B ++ 0 :: t).length = B.length + (t.length + 1) := by simp
      unfold Bs
      rw [h0]
      exact ho14.sl
    have hM14 := hM10.ext hm14
    clear ho11' hs13 hm14' hb14 ho14 hm11 hm13 ho11 hn11
    go_wp2_with (first
                  | (with_reducible refine st_alloc ?_)
                  | (go_at_call 17; refine (G3 _ _ hs14).mono ?_; rintro e w15 ⟨rfl, hm15⟩))
    refine StopOp.go rfl fun K hK => ?_
    refine wp_alloc zero_req ?_
    intro g16 w16 hg161 hg162 hmww16 hBww16
    simp only [put_some, List.set_cons_succ, List.set_cons_zero]
    refine hK _ _ ?_
    clear hK K
    go_wp2_with (with_reducible refine st_store ?_)
    refine StopOp.go rfl fun K hK => ?_
    refine wp_store (u := .agg #[.int .i64 0, .int .u32 0, .int .u32 0, .int .i64 0, .int .i64 0]) (by rfl) (by rfl) (by kernel_rfl) hBww16 (by simp [Value.cells]) (by simp [Value.cells, Value.oneCell']) ?_
    intro w17 hmww17 hBww17
    refine hK _ _ ?_
    clear hK K
    have hBg16 : Blk w17 g16 25 [.int .i64 0, .int .u32 0, .int .u32 0, .int .i64 0, .int .i64 0] := hBww17
    have hxw17 : Mod [] w15 w17 := hmww16.fresh hmww17 (by simpa using hg161)
    clear hBww16 hBww17 hmww16 hmww17
    have a0 := hBg16.cell' (i := 0) rfl
    have a1 := hBg16.cell' (i := 1) rfl
    have a2 := hBg16.cell' (i := 2) rfl
    have a3 := hBg16.cell' (i := 3) rfl
    have a4 := hBg16.cell' (i := 4) rfl
    go_wp2_with fail
    go_ret
    exact ⟨rfl, (hM14.ext hm15).ext hxw17⟩
end Go.Proofs.Ytfcoaiggpcjldaa
