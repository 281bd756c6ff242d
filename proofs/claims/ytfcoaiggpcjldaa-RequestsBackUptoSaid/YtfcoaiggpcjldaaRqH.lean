import Derived.Test.YtfcoaiggpcjldaaRqG
set_option linter.unusedVariables false
set_option linter.unusedSimpArgs false
set_option maxRecDepth 100000
namespace Go.Proofs.Ytfcoaiggpcjldaa
open Go.RowKit Gw

theorem refChanges_val (k : Int) (b : Bool) (w : World) (h : chg k = b) : Calls Try.prog 15 #[.int .i64 k] w fun e w' => e = .returned (.bool b) ∧ w = w' := by
  subst h
  exact refChanges_any k w
set_option maxRecDepth 1000000 in
set_option maxHeartbeats 8000000 in
theorem requestsPuts_core (q : Rq) (w : World) (hq : q.ok) : Calls Try.prog 3 #[q.v] w fun e w' => e = .returned (.bool true) ∧ Mod [] w w' := by
  have P1 := fun w => putq_any q w hq
  have P2 := fun w => refPut_any q w hq
  have C1 := fun w => check_any q w hq
  have C2 := fun w => refCheck_any q w
  unfold PutQ at P1 P2
  obtain ⟨B, hB⟩ : ∃ B, B = (if mayB q = true then bytesOf q else []) := ⟨_, rfl⟩
  obtain ⟨E, hE⟩ : ∃ E, E = chk q := ⟨_, rfl⟩
  rw [← hB, ← hE] at P1 P2
  rw [← hE] at C1 C2
  obtain ⟨cb, hcb⟩ : ∃ b, chg q.kind = b := ⟨_, rfl⟩
  have V1 := fun w => changes_val q.kind cb w hcb
  have V2 := fun w => refChanges_val q.kind cb w hcb
  clear hB hE hcb hq
  obtain ⟨kind, tag, id, seat, ttl⟩ := q
  dsimp only [Rq.v] at *
  go_enter Try.func3, Try.ntmps3
  go_wp2_with (with_reducible refine st_box ?_)
  refine StopOp.go rfl fun K hK => ?_
  refine wp_box (v := .agg #[.int .i64 kind, .int .u32 tag, .int .u32 id, .int .i64 seat, .int .i64 ttl]) (by rfl) ?_
  intro g w1 hg1 hg2 hm1 hB1
  simp only [put_some, List.set_cons_succ, List.set_cons_zero]
  refine hK _ _ ?_
  clear hK K
  have hB1' : Blk w1 g 25 [.int .i64 kind, .int .u32 tag, .int .u32 id, .int .i64 seat, .int .i64 ttl] := hB1
  clear hB1
  go_wp2_with (first | (go_at_call 8; refine (rqawake_any _).mono ?_; rintro e w2 ⟨rfl, hm2⟩; have hB2 := hB1'.ext hm2; have a0 := hB2.cell' (i := 0) rfl; have a1 := hB2.cell' (i := 1) rfl; have a2 := hB2.cell' (i := 2) rfl; have a3 := hB2.cell' (i := 3) rfl; have a4 := hB2.cell' (i := 4) rfl) | (go_at_call 9; (with_reducible refine (P1 _).mono ?_); rintro e w3 ⟨v3, rfl, ho3, _, hm3⟩; obtain ⟨ao3, cap3, rfl, _, _⟩ := ho3.bs.form; have hB3 := hB2.ext hm3; have b0 := hB3.cell' (i := 0) rfl; have b1 := hB3.cell' (i := 1) rfl; have b2 := hB3.cell' (i := 2) rfl; have b3 := hB3.cell' (i := 3) rfl; have b4 := hB3.cell' (i := 4) rfl) | (go_at_call 10; (with_reducible refine (P2 _).mono ?_); rintro e w4 ⟨v4, rfl, ho4, _, hm4⟩; obtain ⟨ao4, cap4, rfl, _, _⟩ := ho4.bs.form))
  have hM4 := ((hm1.ext hm2).ext hm3).ext hm4
  have hB4 := hB3.ext hm4
  have ho34 := ho3.ext hm4
  clear a0 a1 a2 a3 a4 b0 b1 b2 b3 b4 hB1' hB2 hB3 hm1 hm2 hm3 hm4 ho3 P1 P2
  refine wp_region_T [⟨0, true, []⟩, ⟨1, true, []⟩, ⟨2, true, []⟩, ⟨3, true, []⟩, ⟨4, true, []⟩, ⟨5, true, []⟩, ⟨6, false, []⟩, ⟨7, true, []⟩, ⟨8, true, []⟩, ⟨9, true, []⟩, ⟨11, true, []⟩, ⟨10, false, [11]⟩, ⟨12, false, []⟩, ⟨13, true, []⟩, ⟨14, true, []⟩, ⟨15, true, []⟩, ⟨16, true, []⟩, ⟨17, true, []⟩, ⟨19, true, []⟩, ⟨20, true, []⟩, ⟨18, false, [20]⟩, ⟨21, false, []⟩, ⟨22, true, []⟩, ⟨23, true, []⟩, ⟨24, true, []⟩] (by kernel_rfl) (by kernel_rfl) ?_
  iterate 4 (refine wpT_n rfl rfl (fun K hK => ?_); go_wp2_with fail)
  iterate 2 (refine wpT_gq (gi := 3) rfl rfl rfl rfl rfl (fun K hK => ?_); go_wp2_with fail)
  refine wpT_gcall (gi := 3) rfl rfl rfl rfl (fun K hK => ?_)
  go_wp2_with (go_at_call 11; refine (same_yes B B _ _ _ (ho34.bs.ext (Mod.drew [] _)) (ho4.bs.ext (Mod.drew [] _)) rfl).mono ?_; rintro e w5 ⟨rfl, hm5'⟩)
  have hm5 : Mod [] w4 w5 := (Mod.drew [] w4).ext hm5'
  have hB5 := hB4.ext hm5
  have a0 := hB5.cell' (i := 0) rfl
  have a1 := hB5.cell' (i := 1) rfl
  have a2 := hB5.cell' (i := 2) rfl
  have a3 := hB5.cell' (i := 3) rfl
  have a4 := hB5.cell' (i := 4) rfl
  iterate 2 (refine wpT_n rfl rfl (fun K hK => ?_); go_wp2_with fail)
  iterate 2 (refine wpT_gq (gi := 8) rfl rfl rfl rfl rfl (fun K hK => ?_); go_wp2_with fail)
  refine wpT_gcallh (gi := 8) rfl rfl rfl rfl (fun K hK => ?_)
  go_wp2_with (go_at_call 12; (with_reducible refine (C1 _).mono ?_); rintro e w6 ⟨rfl, hm6⟩)
  refine ⟨agains_cons rfl (again_load rfl rfl (hm6.block g hB5.lt (by simp)) hB5.kinds) agains_nil, ?_⟩
  refine wpT_gcall (gi := 8) rfl rfl rfl rfl (fun K hK => ?_)
  go_wp2_with (go_at_call 13; (with_reducible refine (C2 _).mono ?_); rintro e w7 ⟨rfl, hm7⟩)
  have hm57 := hm6.ext hm7
  have hB7 := hB5.ext hm57
  have c0 := hB7.cell' (i := 0) rfl
  refine wpT_gq (gi := 8) rfl rfl rfl rfl rfl (fun K hK => ?_)
  go_wp2_with fail
  iterate 2 (refine wpT_n rfl rfl (fun K hK => ?_); go_wp2_with fail)
  iterate 4 (refine wpT_gq (gi := 15) rfl rfl rfl rfl rfl (fun K hK => ?_); go_wp2_with fail)
  refine wpT_gcallh (gi := 15) rfl rfl rfl rfl (fun K hK => ?_)
  go_wp2_with (go_at_call 14; (with_reducible refine (V1 _).mono ?_); rintro e w8 ⟨rfl, rfl⟩)
  refine ⟨agains_same, ?_⟩
  refine wpT_gcall (gi := 15) rfl rfl rfl rfl (fun K hK => ?_)
  go_wp2_with (go_at_call 15; (with_reducible refine (V2 _).mono ?_); rintro e w9 ⟨rfl, rfl⟩)
  refine wpT_gq (gi := 15) rfl rfl rfl rfl rfl (fun K hK => ?_)
  go_wp2_with fail
  iterate 2 (refine wpT_n rfl rfl (fun K hK => ?_); go_wp2_with fail)
  refine wpT_nil ?_
  go_wp2_with fail
  go_ret
  exact ⟨rfl, (hM4.ext hm5).ext hm57⟩
end Go.Proofs.Ytfcoaiggpcjldaa
