import Derived.Test.YtfcoaiggpcjldaaRqL
import Derived.Test.YtfcoaiggpcjldaaRqG
import Derived.Test.YtfcoaiggpcjldaaApartB
/-! RequestsAgain. -/
set_option linter.unusedVariables false
set_option linter.unusedSimpArgs false
set_option maxRecDepth 100000
namespace Go.Proofs.Ytfcoaiggpcjldaa
open Go.RowKit Gw

theorem getq_yes (q : Rq) (b : List UInt8) (v : Value) (w : World) (hb : Bs w v b) (hl : b.length ≤ 140737488355328) (h : getOk b = true) (hs : getS b = ⟨q, [], 0⟩) :
    Calls Try.prog 17 #[v] w fun e w' => e = .returned (.tuple #[q.v, .int .i64 0]) ∧ Mod [] w w' :=
  (getq_any b v w hb hl).mono fun e w' ⟨h1, h2⟩ => ⟨by rw [h1, h, hs]; rfl, h2⟩
theorem getq_no (b : List UInt8) (v : Value) (w : World) (hb : Bs w v b) (hl : b.length ≤ 140737488355328) (h : getOk b = false) :
    Calls Try.prog 17 #[v] w fun e w' => e = .returned (.tuple #[.agg #[.int .i64 0, .int .u32 0, .int .u32 0, .int .i64 0, .int .i64 0], .int .i64 200]) ∧ Mod [] w w' :=
  (getq_any b v w hb hl).mono fun e w' ⟨h1, h2⟩ => ⟨by rw [h1, h]; rfl, h2⟩
theorem putq_yes (q : Rq) (w : World) (hq : q.ok) (hm : mayB q = true) :
    Calls Try.prog 9 #[q.v] w fun e w' => ∃ v, e = .returned (.tuple #[v, .int .i64 0]) ∧ Ob w' v (bytesOf q) ∧ New w v ∧ Mod [] w w' :=
  (putq_any q w hq).mono fun e w' ⟨v, h1, h2, h3, h4⟩ => by
    rw [hm, if_pos rfl] at h2
    exact ⟨v, by rw [h1]; unfold chk; rw [if_pos hm], h2, h3, h4⟩
theorem checkq_yes (q : Rq) (w : World) (hq : q.ok) (hm : mayB q = true) : Calls Try.prog 12 #[q.v] w fun e w' => e = .returned (.int .i64 0) ∧ Mod [] w w' :=
  (check_any q w hq).mono fun e w' ⟨h1, h2⟩ => ⟨by rw [h1]; unfold chk; rw [if_pos hm], h2⟩
theorem rq_eql_same (k s l : Int) (t i : Nat) (w : World) : (binOp .eql 25 (.agg #[.int .i64 k, .int .u32 t, .int .u32 i, .int .i64 s, .int .i64 l]) (.agg #[.int .i64 k, .int .u32 t, .int .u32 i, .int .i64 s, .int .i64 l])).run Try.prog w = .ok (.bool true) w := by
  rw [run_eql_struct, run_equalIn_agg w 9999 _ _ _ (by kernel_rfl) (by kernel_rfl)]
  go_simp
theorem rq_neq_same (k s l : Int) (t i : Nat) (w : World) : (binOp .neq 25 (.agg #[.int .i64 k, .int .u32 t, .int .u32 i, .int .i64 s, .int .i64 l]) (.agg #[.int .i64 k, .int .u32 t, .int .u32 i, .int .i64 s, .int .i64 l])).run Try.prog w = .ok (.bool false) w := by
  rw [run_neq_struct, run_equalIn_agg w 9999 _ _ _ (by kernel_rfl) (by kernel_rfl)]
  go_simp

set_option maxRecDepth 1000000 in
set_option maxHeartbeats 16000000 in
theorem requestsAgain_core (b : List UInt8) (bv0 : Value) (w : World) (hb : Bs w bv0 b) (hl : b.length ≤ 1048576) :
    Calls Try.prog 6 #[bv0] w fun e w' => e = .returned (.bool true) ∧ Mod [] w w' := by
  obtain ⟨aob, capb, rfl, _, _⟩ := hb.form
  cases hok : getOk b with
  | false =>
    have G := fun v w h => getq_no b v w h (by omega) hok
    have hcmp := fun w => rq_eql_same 0 0 0 0 0 w
    go_enter Try.func6, Try.ntmps6
    go_wp2_with (first
                  | (with_reducible refine st_alloc ?_)
                  | (go_at_call 8; refine (rqawake_any _).mono ?_; rintro e w1 ⟨rfl, hm1⟩)
                  | (go_at_call 21; refine (copy_any b _ _ (hb.ext hm1) (by omega)).mono ?_; rintro e w2 ⟨v2, rfl, ho2, _, hm2⟩; obtain ⟨ao2, cap2, rfl, _, _⟩ := ho2.bs.form)
                  | (go_at_call 17; refine (G _ _ ho2.bs).mono ?_; rintro e w3 ⟨rfl, hm3⟩))
    refine StopOp.go rfl fun K hK => ?_
    refine wp_alloc zero_req ?_
    intro g4 w4 hg41 hg42 hmw4 hBw4
    simp only [put_some, List.set_cons_succ, List.set_cons_zero]
    refine hK _ _ ?_
    clear hK K
    go_wp2_with (with_reducible refine st_store ?_)
    refine StopOp.go rfl fun K hK => ?_
    refine wp_store (u := .agg #[.int .i64 0, .int .u32 0, .int .u32 0, .int .i64 0, .int .i64 0]) (by rfl) (by rfl) (by kernel_rfl) hBw4 (by simp [Value.cells]) (by simp [Value.cells, Value.oneCell']) ?_
    intro w5 hmw5 hBw5
    refine hK _ _ ?_
    clear hK K
    have hB5 : Blk w5 g4 25 [.int .i64 0, .int .u32 0, .int .u32 0, .int .i64 0, .int .i64 0] := hBw5
    have a0 := hB5.cell' (i := 0) rfl
    have a1 := hB5.cell' (i := 1) rfl
    have a2 := hB5.cell' (i := 2) rfl
    have a3 := hB5.cell' (i := 3) rfl
    have a4 := hB5.cell' (i := 4) rfl
    have hm45 : Mod [] w3 w5 := hmw4.fresh hmw5 (by simpa using hg41)
    clear hBw4 hBw5 hmw4 hmw5
    go_wp2_with fail
    go_ret
    exact ⟨rfl, ((hm1.ext hm2).ext hm3).ext hm45⟩
  | true =>
    obtain ⟨q, hs, hq, hm, hbq⟩ := getOk_inv b hok
    have G := fun v w h => getq_yes q b v w h (by omega) hok hs
    have P := fun w => putq_yes q w hq hm
    have C := fun w => checkq_yes q w hq hm
    rw [hbq] at P
    clear hok hs hq hm hbq
    obtain ⟨kind, tag, id, seat, ttl⟩ := q
    dsimp only [Rq.v] at *
    go_enter Try.func6, Try.ntmps6
    go_wp2_with (first
                  | (with_reducible refine st_alloc ?_)
                  | (go_at_call 8; refine (rqawake_any _).mono ?_; rintro e w1 ⟨rfl, hm1⟩)
                  | (go_at_call 21; refine (copy_any b _ _ (hb.ext hm1) (by omega)).mono ?_; rintro e w2 ⟨v2, rfl, ho2, _, hm2⟩; obtain ⟨ao2, cap2, rfl, _, _⟩ := ho2.bs.form)
                  | (go_at_call 17; refine (G _ _ ho2.bs).mono ?_; rintro e w3 ⟨rfl, hm3⟩))
    refine StopOp.go rfl fun K hK => ?_
    refine wp_alloc zero_req ?_
    intro g4 w4 hg41 hg42 hmw4 hBw4
    simp only [put_some, List.set_cons_succ, List.set_cons_zero]
    refine hK _ _ ?_
    clear hK K
    go_wp2_with (with_reducible refine st_store ?_)
    refine StopOp.go rfl fun K hK => ?_
    refine wp_store (u := .agg #[.int .i64 kind, .int .u32 tag, .int .u32 id, .int .i64 seat, .int .i64 ttl]) (by rfl) (by rfl) (by kernel_rfl) hBw4 (by simp [Value.cells]) (by simp [Value.cells, Value.oneCell']) ?_
    intro w5 hmw5 hBw5
    refine hK _ _ ?_
    clear hK K
    have hB5 : Blk w5 g4 25 [.int .i64 kind, .int .u32 tag, .int .u32 id, .int .i64 seat, .int .i64 ttl] := hBw5
    have a0 := hB5.cell' (i := 0) rfl
    have a1 := hB5.cell' (i := 1) rfl
    have a2 := hB5.cell' (i := 2) rfl
    have a3 := hB5.cell' (i := 3) rfl
    have a4 := hB5.cell' (i := 4) rfl
    have hM5 : Mod [] w w5 := ((hm1.ext hm2).ext hm3).ext (hmw4.fresh hmw5 (by simpa using hg41))
    clear hBw4 hBw5 hmw4 hmw5 ho2 hm1 hm2 hm3 G
    go_wp2_with (first
                  | (with_reducible refine st_bslice ?_)
                  | (go_at_call 9; first
                     | (refine (P w5).mono ?_; rintro e w6 ⟨v6, rfl, ho6, hn6, hm6⟩; obtain ⟨ao6, cap6, rfl, _, _⟩ := ho6.bs.form; have hB6 := hB5.ext hm6; have b0 := hB6.cell' (i := 0) rfl; have b1 := hB6.cell' (i := 1) rfl; have b2 := hB6.cell' (i := 2) rfl; have b3 := hB6.cell' (i := 3) rfl; have b4 := hB6.cell' (i := 4) rfl)
                     | (refine (P w6).mono ?_; rintro e w7 ⟨v7, rfl, ho7, hn7, hm7⟩; obtain ⟨ao7, cap7, rfl, _, _⟩ := ho7.bs.form; have hB7 := hB6.ext hm7; have c0 := hB7.cell' (i := 0) rfl; have c1 := hB7.cell' (i := 1) rfl; have c2 := hB7.cell' (i := 2) rfl; have c3 := hB7.cell' (i := 3) rfl; have c4 := hB7.cell' (i := 4) rfl))
                  | (go_at_call 12; refine (C w7).mono ?_; rintro e w8 ⟨rfl, hm8⟩)
                  | (go_at_call 11; refine (same_yes b b _ _ _ ((ho6.bs.ext hm7).ext hm8) (hb.ext (((hM5.ext hm6).ext hm7).ext hm8)) rfl).mono ?_; rintro e w9 ⟨rfl, hm9⟩))
    have hF6 := Fam.ins (A := []) (B := []) (Fam.nil w5 w5.heap.size) (Nat.le_refl _) hm6 ho6 hn6
    have hF7 := Fam.ins (A := [_]) (B := []) hF6 hm6.size hm7 ho7 hn7
    have hF9 := (hF7.ext hm8).ext hm9
    have hB9 := (hB7.ext hm8).ext hm9
    have hM9 := (((hM5.ext hm6).ext hm7).ext hm8).ext hm9
    have hb9 : w5.heap.size ≤ w9.heap.size := Nat.le_trans hm6.size (Nat.le_trans hm7.size (Nat.le_trans hm8.size hm9.size))
    refine StopOp.gw rfl fun K hK => ?_
    refine wp_bslice stRow [.slice ao6 b.length cap6, .slice ao7 b.length cap7] rfl (by decide) (by rfl) (by simp [Value.cells]) ?_
    intro p10 w10 hp1 hp2 hm10 hB10
    simp only [put_some, List.set_cons_succ, List.set_cons_zero]
    refine hK _ _ ?_
    clear hK K
    have hF10 := hF9.ext hm10
    have hrows : Sl w10 1 (.slice (some ⟨p10, 0, none⟩) 2 2) 2 (([(.slice ao6 b.length cap6, b), (.slice ao7 b.length cap7, b)] : List (Value × List UInt8)).map (·.1)) :=
      (Ow.of_blk (rest := []) hB10 (Nat.le_refl _) (by omega) rfl rfl : Ow w10 27 1 (.slice (some ⟨p10, 0, none⟩) 2 2) 2 [.slice ao6 b.length cap6, .slice ao7 b.length cap7]).sl
    have hA := apart_fam _ w5.heap.size 2 _ w10 rfl hrows hF10 (by omega) (by simp; omega)
    have hMB : ∀ (M : List Nat) (w11 : World), (∀ y ∈ M, w5.heap.size ≤ y) → Mod M w10 w11 → Blk w11 g4 25 [.int .i64 kind, .int .u32 tag, .int .u32 id, .int .i64 seat, .int .i64 ttl] ∧ Mod [] w w11 := fun M w11 hMge hm11 =>
      ⟨(hB9.ext hm10).mod hm11 fun h => by have := hMge _ h; have := hB5.lt; omega, (hM9.ext hm10).fresh hm11 fun y hy => Nat.le_trans hM5.size (hMge y hy)⟩
    have hMge : ∀ (M : List Nat), (∀ y ∈ M, ∃ p, p ∈ [(Value.slice ao6 b.length cap6, b), (Value.slice ao7 b.length cap7, b)] ∧ y ∈ blks p.1) → ∀ y ∈ M, w5.heap.size ≤ y := fun M hMM y hy => by
      obtain ⟨p, hp, hyp⟩ := hMM y hy
      exact (hF10.ob p hp).2 y hyp
    clear a0 a1 a2 a3 a4 b0 b1 b2 b3 b4 c0 c1 c2 c3 c4 hrows
    go_wp2_with (go_at_call 22; refine hA.mono ?_; rintro e w11 ⟨rfl, M, hm11, hMM⟩; obtain ⟨hB11, hM11⟩ := hMB M w11 (hMge M hMM) hm11; have a0 := hB11.cell' (i := 0) rfl; have a1 := hB11.cell' (i := 1) rfl; have a2 := hB11.cell' (i := 2) rfl; have a3 := hB11.cell' (i := 3) rfl; have a4 := hB11.cell' (i := 4) rfl)
    clear hMB hMge hA
    go_wp2_with (first
                  | (go_at_call 9; refine (P w11).mono ?_; rintro e w12 ⟨v12, rfl, ho12, hn12, hm12⟩; obtain ⟨ao12, cap12, rfl, _, _⟩ := ho12.bs.form)
                  | (go_at_call 11; refine (same_yes b b _ _ _ ho12.bs (hb.ext (hM11.ext hm12)) rfl).mono ?_; rintro e w13 ⟨rfl, hm13⟩))
    go_ret
    exact ⟨rfl, (hM11.ext hm12).ext hm13⟩
end Go.Proofs.Ytfcoaiggpcjldaa
