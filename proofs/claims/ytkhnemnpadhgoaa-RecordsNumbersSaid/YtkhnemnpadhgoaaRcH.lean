import Derived.Test.YtkhnemnpadhgoaaRcG
/-! Records: awake, RecordsChecks, RecordsReads. -/
set_option linter.unusedVariables false
set_option linter.unusedSimpArgs false
set_option maxRecDepth 100000
namespace Go.Proofs.Ytkhnemnpadhgoaa
open Go.RowKit Gw

def awC : Rc := ⟨2, 1, 0, 0, 0⟩
def awC2 : List UInt8 := [4, 1, 0, 0, 0, 255, 3]
theorem awC_ok : awC.ok := ⟨by decide, by decide, by decide, by decide, by decide, by decide, by decide, by decide, by decide, by decide⟩
theorem awC_bytes : cbytes awC = [2, 1, 0, 0, 0] := by decide
theorem awC_may : mayC awC = true := by decide
theorem awC2_err : errC awC2 = 0 := by kernel_rfl
theorem awC2_v : (getC awC2).v = .agg #[.int .i64 4, .int .u32 1, .int .i64 1023, .int .i64 0, .int .i64 0] := by kernel_rfl
theorem awC_put (w : World) : Calls Try.prog 9 #[.agg #[.int .i64 2, .int .u32 1, .int .i64 0, .int .i64 0, .int .i64 0]] w fun e w' => ∃ v, e = .returned (.tuple #[v, .int .i64 0]) ∧ Ob w' v [2, 1, 0, 0, 0] ∧ Mod [] w w' :=
  (cput_any awC awC_ok w).mono fun e w' ⟨v, h1, h2, _, h4⟩ => by
    rw [awC_may, if_pos rfl, awC_bytes] at h2
    exact ⟨v, by rw [h1]; rfl, h2, h4⟩
theorem awC_get (v : Value) (w : World) (hv : Bs w v awC2) : Calls Try.prog 11 #[v] w fun e w' => e = .returned (.tuple #[.agg #[.int .i64 4, .int .u32 1, .int .i64 1023, .int .i64 0, .int .i64 0], .int .i64 0]) ∧ Mod [] w w' :=
  (cget_any awC2 v w hv (by decide)).mono fun e w' ⟨h1, h2⟩ => ⟨by rw [h1, awC2_err, awC2_v], h2⟩
theorem rc_eql_same (a b c d e : Int) (w : World) : (binOp .eql 25 (.agg #[.int .i64 a, .int .u32 b, .int .i64 c, .int .i64 d, .int .i64 e]) (.agg #[.int .i64 a, .int .u32 b, .int .i64 c, .int .i64 d, .int .i64 e])).run Try.prog w = .ok (.bool true) w := by
  rw [run_eql_struct, run_equalIn_agg w 9999 _ _ _ (by kernel_rfl) (by kernel_rfl)]
  go_simp
theorem rc_neq_same (a b c d e : Int) (w : World) : (binOp .neq 25 (.agg #[.int .i64 a, .int .u32 b, .int .i64 c, .int .i64 d, .int .i64 e]) (.agg #[.int .i64 a, .int .u32 b, .int .i64 c, .int .i64 d, .int .i64 e])).run Try.prog w = .ok (.bool false) w := by
  rw [run_neq_struct, run_equalIn_agg w 9999 _ _ _ (by kernel_rfl) (by kernel_rfl)]
  go_simp

set_option maxRecDepth 1000000 in
set_option maxHeartbeats 4000000 in
theorem rcawake_any (w : World) : Calls Try.prog 12 #[] w fun e w' => e = .returned (.bool true) ∧ Mod [] w w' := by
  have hcmp := fun w => rc_eql_same 4 1 1023 0 0 w
  go_enter Try.func12, Try.ntmps12
  go_wp2_with (first
                | (with_reducible refine st_bslice ?_)
                | (go_at_call 9; refine (awC_put _).mono ?_; rintro e w1 ⟨v1, rfl, ho1, hm1⟩; obtain ⟨ao1, cap1, rfl, _, _⟩ := ho1.bs.form))
  refine StopOp.go rfl fun K hK => ?_
  refine wp_bslice stB [.int .u8 4, .int .u8 1, .int .u8 0, .int .u8 0, .int .u8 0, .int .u8 255, .int .u8 3] rfl (by decide) (by rfl) (by simp [Value.cells]) ?_
  intro p2 w2 hp1 hp2 hm2 hB2
  simp only [put_some, List.set_cons_succ, List.set_cons_zero]
  refine hK _ _ ?_
  clear hK K
  have hb2 : Bs w2 (.slice (some ⟨p2, 0, none⟩) 7 7) awC2 := Bs.of_blk (l := awC2) (rest := []) hB2 (by decide) (by omega)
  go_wp2_with (first
                | (with_reducible refine st_alloc ?_)
                | (go_at_call 11; refine (awC_get _ _ hb2).mono ?_; rintro e w3 ⟨rfl, hm3⟩))
  refine StopOp.go rfl fun K hK => ?_
  refine wp_alloc zero_rec ?_
  intro g4 w4 h41 h42 hm4 hB4
  simp only [put_some, List.set_cons_succ, List.set_cons_zero]
  refine hK _ _ ?_
  clear hK K
  go_wp2_with (with_reducible refine st_store ?_)
  refine StopOp.go rfl fun K hK => ?_
  refine wp_store (u := .agg #[.int .i64 4, .int .u32 1, .int .i64 1023, .int .i64 0, .int .i64 0]) (by rfl) (by rfl) (by kernel_rfl) hB4 (by simp [Value.cells]) (by simp [Value.cells, Value.oneCell']) ?_
  intro w5 hm5 hB5
  refine hK _ _ ?_
  clear hK K
  have hX : Blk w5 g4 25 [.int .i64 4, .int .u32 1, .int .i64 1023, .int .i64 0, .int .i64 0] := hB5
  have hm35 : Mod [] w3 w5 := hm4.fresh hm5 (by simpa using h41)
  have hM5 := ((hm1.ext hm2).ext hm3).ext hm35
  have ho5 := ((ho1.ext hm2).ext hm3).ext hm35
  clear hB4 hB5 hm4 hm5 ho1 hm35
  go_wp2_with (with_reducible refine st_bslice ?_)
  refine StopOp.gw rfl fun K hK => ?_
  refine wp_bslice stB [.int .u8 2, .int .u8 1, .int .u8 0, .int .u8 0, .int .u8 0] rfl (by decide) (by rfl) (by simp [Value.cells]) ?_
  intro p6 w6 h61 h62 hm6 hB6
  simp only [put_some, List.set_cons_succ, List.set_cons_zero]
  refine hK _ _ ?_
  clear hK K
  have hb6 : Bs w6 (.slice (some ⟨p6, 0, none⟩) 5 5) [2, 1, 0, 0, 0] := Bs.of_blk (l := [2, 1, 0, 0, 0]) (rest := []) hB6 (by decide) (by omega)
  have ho6 := ho5.ext hm6
  have hX6 := hX.ext hm6
  go_wp2_with (go_at_call 16; refine (same_yes _ _ _ _ _ ho6.bs hb6 rfl).mono ?_; rintro e w7 ⟨rfl, hm7⟩; have hX7 := hX6.ext hm7; have a0 := hX7.cell' (i := 0) rfl; have a1 := hX7.cell' (i := 1) rfl; have a2 := hX7.cell' (i := 2) rfl; have a3 := hX7.cell' (i := 3) rfl; have a4 := hX7.cell' (i := 4) rfl)
  go_ret
  exact ⟨rfl, (hM5.ext hm6).ext hm7⟩

set_option maxRecDepth 1000000 in
set_option maxHeartbeats 8000000 in
theorem recordsChecks_core (r : Rc) (hr : r.ok) (w : World) : Calls Try.prog 6 #[r.v] w fun e w' => e = .returned (.bool true) ∧ Mod [] w w' := by
  have P1 := fun w => cput_any r hr w
  have P2 := fun w => rput_any r hr w
  have C1 := fun w => ccheck_any r hr w
  have C2 := fun w => rcheck_any r hr w
  have S1 := fun w => csize_any r.kind w
  have S2 := fun w => rsize_any r.kind w
  unfold PutC at P1 P2
  obtain ⟨B, hB⟩ : ∃ B, B = (if mayC r = true then cbytes r else []) := ⟨_, rfl⟩
  obtain ⟨E, hE⟩ : ∃ E, E = chkC r := ⟨_, rfl⟩
  obtain ⟨S, hS⟩ : ∃ S, S = sizeC r.kind := ⟨_, rfl⟩
  rw [← hB, ← hE] at P1 P2
  rw [← hE] at C1 C2
  rw [← hS] at S1 S2
  clear hB hE hS hr
  obtain ⟨kind, id, seat, till, clock⟩ := r
  dsimp only [Rc.v] at *
  go_enter Try.func6, Try.ntmps6
  go_wp2_with (with_reducible refine st_box ?_)
  refine StopOp.go rfl fun K hK => ?_
  refine wp_box (v := .agg #[.int .i64 kind, .int .u32 id, .int .i64 seat, .int .i64 till, .int .i64 clock]) (by rfl) ?_
  intro g w1 hg1 hg2 hm1 hB1
  simp only [put_some, List.set_cons_succ, List.set_cons_zero]
  refine hK _ _ ?_
  clear hK K
  have hB1' : Blk w1 g 25 [.int .i64 kind, .int .u32 id, .int .i64 seat, .int .i64 till, .int .i64 clock] := hB1
  clear hB1
  have a0 := hB1'.cell' (i := 0) rfl
  have a1 := hB1'.cell' (i := 1) rfl
  have a2 := hB1'.cell' (i := 2) rfl
  have a3 := hB1'.cell' (i := 3) rfl
  have a4 := hB1'.cell' (i := 4) rfl
  go_wp2_with (first
                | (go_at_call 9; (with_reducible refine (P1 _).mono ?_); rintro e w3 ⟨v3, rfl, ho3, _, hm3⟩; obtain ⟨ao3, cap3, rfl, _, _⟩ := ho3.bs.form; have hB3 := hB1'.ext hm3; have b0 := hB3.cell' (i := 0) rfl; have b1 := hB3.cell' (i := 1) rfl; have b2 := hB3.cell' (i := 2) rfl; have b3 := hB3.cell' (i := 3) rfl; have b4 := hB3.cell' (i := 4) rfl)
                | (go_at_call 19; (with_reducible refine (P2 _).mono ?_); rintro e w4 ⟨v4, rfl, ho4, _, hm4⟩; obtain ⟨ao4, cap4, rfl, _, _⟩ := ho4.bs.form))
  have hM4 := (hm1.ext hm3).ext hm4
  have hB4 := (hB3.ext hm4).ext (Mod.drew [] _)
  have ho34 := ho3.ext hm4
  clear a0 a1 a2 a3 a4 b0 b1 b2 b3 b4 hB1' hB3 hm1 hm3 hm4 ho3 P1 P2
  refine wp_region_T [⟨0, true, []⟩, ⟨2, true, []⟩, ⟨1, false, [2]⟩, ⟨3, false, []⟩, ⟨4, true, []⟩, ⟨5, true, []⟩, ⟨6, true, []⟩, ⟨7, true, []⟩, ⟨9, true, []⟩, ⟨10, true, []⟩, ⟨8, false, [10]⟩, ⟨11, false, []⟩, ⟨12, true, []⟩, ⟨13, true, []⟩, ⟨14, true, []⟩, ⟨15, true, []⟩, ⟨16, true, []⟩, ⟨17, true, []⟩, ⟨18, true, []⟩, ⟨19, true, []⟩, ⟨20, true, []⟩, ⟨21, true, []⟩, ⟨22, false, []⟩, ⟨23, true, []⟩, ⟨24, true, []⟩, ⟨25, false, []⟩, ⟨26, true, []⟩, ⟨27, true, []⟩] (by kernel_rfl) (by kernel_rfl) ?_
  have hmd : Mod [] w4 w4.drew := Mod.drew [] _
  have hM4' := hM4.ext hmd
  have ho34' := ho34.ext hmd
  have ho4' := ho4.ext hmd
  clear ho34 ho4 hM4 hmd
  obtain ⟨w4', hw4⟩ : ∃ x, x = w4.drew := ⟨_, rfl⟩
  rw [← hw4] at hB4 hM4' ho34' ho4' ⊢
  clear hw4
  have a0 := hB4.cell' (i := 0) rfl
  have a1 := hB4.cell' (i := 1) rfl
  have a2 := hB4.cell' (i := 2) rfl
  have a3 := hB4.cell' (i := 3) rfl
  have a4 := hB4.cell' (i := 4) rfl
  iterate 2 (refine wpT_n rfl rfl (fun K hK => ?_); go_wp2_with fail)
  refine wpT_callh rfl rfl (fun K hK => ?_)
  go_wp2_with (go_at_call 10; (with_reducible refine (C1 _).mono ?_); rintro e w5 ⟨rfl, hm5⟩)
  have hB5 := hB4.ext hm5
  refine ⟨agains_cons rfl (again_load rfl rfl (hm5.block g hB4.lt (by simp)) hB4.kinds) agains_nil, ?_⟩
  refine wpT_call rfl rfl (fun K hK => ?_)
  go_wp2_with (go_at_call 20; (with_reducible refine (C2 _).mono ?_); rintro e w6 ⟨rfl, hm6⟩)
  have hB6 := hB5.ext hm6
  have hm46 := hm5.ext hm6
  clear a0 a1 a2 a3 a4
  have a0 := hB6.cell' (i := 0) rfl
  iterate 2 (refine wpT_n rfl rfl (fun K hK => ?_); go_wp2_with fail)
  iterate 4 (refine wpT_gq (gi := 5) rfl rfl rfl rfl rfl (fun K hK => ?_); go_wp2_with fail)
  refine wpT_gcallh (gi := 5) rfl rfl rfl rfl (fun K hK => ?_)
  go_wp2_with (go_at_call 21; (with_reducible refine (S1 _).mono ?_); rintro e w7 ⟨rfl, hm7⟩)
  refine ⟨agains_cons rfl (again_load rfl rfl (hm7.block g hB6.lt (by simp)) hB6.kinds) agains_nil, ?_⟩
  have hm47 := hm46.ext hm7
  refine wpT_gcall (gi := 5) rfl rfl rfl rfl (fun K hK => ?_)
  go_wp2_with (go_at_call 22; (with_reducible refine (S2 _).mono ?_); rintro e w8 ⟨rfl, rfl⟩)
  refine wpT_gq (gi := 5) rfl rfl rfl rfl rfl (fun K hK => ?_)
  go_wp2_with fail
  iterate 2 (refine wpT_n rfl rfl (fun K hK => ?_); go_wp2_with fail)
  iterate 3 (refine wpT_gq (gi := 14) rfl rfl rfl rfl rfl (fun K hK => ?_); go_wp2_with fail)
  iterate 2 (refine wpT_n rfl rfl (fun K hK => ?_); go_wp2_with fail)
  iterate 2 (refine wpT_gq (gi := 19) rfl rfl rfl rfl rfl (fun K hK => ?_); go_wp2_with fail)
  refine wpT_gcall (gi := 19) rfl rfl rfl rfl (fun K hK => ?_)
  go_wp2_with (go_at_call 16; refine (same_yes B B _ _ _ (ho34'.bs.ext hm47) (ho4'.bs.ext hm47) rfl).mono ?_; rintro e w9 ⟨rfl, hm9⟩)
  iterate 2 (refine wpT_n rfl rfl (fun K hK => ?_); go_wp2_with fail)
  refine wpT_gcall (gi := 24) rfl rfl rfl rfl (fun K hK => ?_)
  go_wp2_with (go_at_call 12; (with_reducible refine (rcawake_any _).mono ?_); rintro e w10 ⟨rfl, hm10⟩)
  iterate 2 (refine wpT_n rfl rfl (fun K hK => ?_); go_wp2_with fail)
  refine wpT_nil ?_
  go_wp2_with fail
  go_ret
  exact ⟨rfl, ((hM4'.ext hm47).ext hm9).ext hm10⟩

set_option maxRecDepth 1000000 in
set_option maxHeartbeats 4000000 in
theorem recordsReads_core (b : List UInt8) (bv0 : Value) (w : World) (hb : Bs w bv0 b) (hl : b.length ≤ 1048576) :
    Calls Try.prog 4 #[bv0] w fun e w' => e = .returned (.bool true) ∧ Mod [] w w' := by
  obtain ⟨aob, capb, rfl, _, _⟩ := hb.form
  have G := fun v w h => cget_any b v w h (by omega)
  have R := fun v w h => rget_any b v w h (by omega)
  unfold GetC at G R
  obtain ⟨E, hE⟩ : ∃ E : Int, E = errC b := ⟨_, rfl⟩
  obtain ⟨q, hq⟩ : ∃ q, q = getC b := ⟨_, rfl⟩
  rw [← hE, ← hq] at G R
  clear hE hq
  obtain ⟨kind, id, seat, till, clock⟩ := q
  dsimp only [Rc.v] at *
  have hcmp := fun w => rc_eql_same kind id seat till clock w
  go_enter Try.func4, Try.ntmps4
  go_wp2_with (first
                | (with_reducible refine st_alloc ?_)
                | (go_at_call 13; refine (lent_any b _ _ hb (by omega)).mono ?_; rintro e w2 ⟨g, cap, rfl, hg, hL2, hm2⟩)
                | (go_at_call 11; refine (G _ _ hL2.bs).mono ?_; rintro e w3 ⟨rfl, hm3⟩))
  refine StopOp.go rfl fun K hK => ?_
  refine wp_alloc zero_rec ?_
  intro p4 w4 hp41 hp42 hm4 hB4
  simp only [put_some, List.set_cons_succ, List.set_cons_zero]
  refine hK _ _ ?_
  clear hK K
  go_wp2_with (with_reducible refine st_store ?_)
  refine StopOp.go rfl fun K hK => ?_
  refine wp_store (u := .agg #[.int .i64 kind, .int .u32 id, .int .i64 seat, .int .i64 till, .int .i64 clock]) (by rfl) (by rfl) (by kernel_rfl) hB4 (by simp [Value.cells]) (by simp [Value.cells, Value.oneCell']) ?_
  intro w5 hm5 hB5
  refine hK _ _ ?_
  clear hK K
  have hX5 : Blk w5 p4 25 [.int .i64 kind, .int .u32 id, .int .i64 seat, .int .i64 till, .int .i64 clock] := hB5
  have hm25 : Mod [] w2 w5 := hm3.ext (hm4.fresh hm5 (by simpa using hp41))
  have hL5 := hL2.ext hm25
  have hM5 := hm2.ext hm25
  clear hB4 hB5 hm4 hm5 hm2 hm3 hm25 hL2
  go_wp2_with (first
                | (with_reducible refine st_alloc ?_)
                | (go_at_call 14; refine (R _ _ (hb.ext hM5)).mono ?_; rintro e w6 ⟨rfl, hm6⟩))
  refine StopOp.go rfl fun K hK => ?_
  refine wp_alloc zero_rec ?_
  intro p7 w7 hp71 hp72 hm7 hB7
  simp only [put_some, List.set_cons_succ, List.set_cons_zero]
  refine hK _ _ ?_
  clear hK K
  go_wp2_with (with_reducible refine st_store ?_)
  refine StopOp.go rfl fun K hK => ?_
  refine wp_store (u := .agg #[.int .i64 kind, .int .u32 id, .int .i64 seat, .int .i64 till, .int .i64 clock]) (by rfl) (by rfl) (by kernel_rfl) hB7 (by simp [Value.cells]) (by simp [Value.cells, Value.oneCell']) ?_
  intro w8 hm8 hB8
  refine hK _ _ ?_
  clear hK K
  have hX8 : Blk w8 p7 25 [.int .i64 kind, .int .u32 id, .int .i64 seat, .int .i64 till, .int .i64 clock] := hB8
  have hm58 : Mod [] w5 w8 := hm6.ext (hm7.fresh hm8 (by simpa using hp71))
  have hL8 := hL5.ext hm58
  have hM8 := hM5.ext hm58
  have hY8 := hX5.ext hm58
  have a0 := hX8.cell' (i := 0) rfl
  have a1 := hX8.cell' (i := 1) rfl
  have a2 := hX8.cell' (i := 2) rfl
  have a3 := hX8.cell' (i := 3) rfl
  have a4 := hX8.cell' (i := 4) rfl
  have b0 := hY8.cell' (i := 0) rfl
  have b1 := hY8.cell' (i := 1) rfl
  have b2 := hY8.cell' (i := 2) rfl
  have b3 := hY8.cell' (i := 3) rfl
  have b4 := hY8.cell' (i := 4) rfl
  clear hB7 hB8 hm7 hm8 hm6 hm58 hX5 hL5
  go_wp2_with (first
                | (go_at_call 15; refine (kept_any g cap b _ _ hL8 (hb.ext hM8)).mono ?_; rintro e w9 ⟨rfl, hm9⟩)
                | (go_at_call 12; (with_reducible refine (rcawake_any _).mono ?_); rintro e w10 ⟨rfl, hm10⟩))
  go_ret
  exact ⟨rfl, (hM8.ext hm9).ext hm10⟩
end Go.Proofs.Ytkhnemnpadhgoaa
