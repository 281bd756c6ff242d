import Derived.Test.YtfcoaiggpcjldaaDoorRpH
import Derived.Test.YtfcoaiggpcjldaaDoorRpF
import Derived.Test.YtfcoaiggpcjldaaDoorApartB
/-! RepliesPuts. -/
set_option linter.unusedVariables false
set_option linter.unusedSimpArgs false
set_option maxRecDepth 100000
namespace Go.Proofs.YtfcoaiggpcjldaaDoor
open Go.RowKit Gw

set_option maxRecDepth 1000000 in
set_option maxHeartbeats 8000000 in
theorem repliesPuts_core (r : Rp) (hr : r.ok) (w : World) (hT : Tab w) : Calls Tryd.prog 3 #[r.v] w fun e w' => e = .returned (.bool true) ∧ Mod [] w w' := by
  have P := fun w h => rput_any r hr w h
  have R := fun w => rrefPut_any r hr w
  have CK := fun w h => rcheck_any r w h
  have RC := fun w => rrefCheck_any r w
  unfold PutR at P R
  have hB0 : (if mayR r = true then rbytes r else []).length ≤ 30 := by split; exact rlen r; simp
  obtain ⟨B, hB⟩ : ∃ B, B = (if mayR r = true then rbytes r else []) := ⟨_, rfl⟩
  obtain ⟨E, hE⟩ : ∃ E, E = chkR r := ⟨_, rfl⟩
  rw [← hB, ← hE] at P R
  rw [← hE] at CK RC
  rw [← hB] at hB0
  clear hB hE hr
  obtain ⟨tag, kind, err, id, seat, till, count⟩ := r
  dsimp only [Rp.v] at *
  go_enter Tryd.func3, Tryd.ntmps3
  go_wp2_with (with_reducible refine st_box ?_)
  refine StopOp.go rfl fun K hK => ?_
  refine wp_box (v := .agg #[.int .u32 tag, .int .i64 kind, .int .i64 err, .int .u32 id, .int .i64 seat, .int .i64 till, .int .i64 count]) (by rfl) ?_
  intro g w1 hg1 hg2 hmw1 hBw1
  simp only [put_some, List.set_cons_succ, List.set_cons_zero]
  refine hK _ _ ?_
  clear hK K
  have hBg : Blk w1 g 26 [.int .u32 tag, .int .i64 kind, .int .i64 err, .int .u32 id, .int .i64 seat, .int .i64 till, .int .i64 count] := hBw1
  clear hBw1
  have a0 := hBg.cell' (i := 0) rfl
  have a1 := hBg.cell' (i := 1) rfl
  have a2 := hBg.cell' (i := 2) rfl
  have a3 := hBg.cell' (i := 3) rfl
  have a4 := hBg.cell' (i := 4) rfl
  have a5 := hBg.cell' (i := 5) rfl
  have a6 := hBg.cell' (i := 6) rfl
  go_wp2_with (first
                | (go_at_call 8; first
                   | ((with_reducible refine (P w1 (hT.ext hmw1)).mono ?_); rintro e w2 ⟨v2, rfl, ho2, hn2, hm2⟩; obtain ⟨ao2, cap2, rfl, _, _⟩ := ho2.bs.form; have hB2 := hBg.ext hm2; have b0 := hB2.cell' (i := 0) rfl; have b1 := hB2.cell' (i := 1) rfl; have b2 := hB2.cell' (i := 2) rfl; have b3 := hB2.cell' (i := 3) rfl; have b4 := hB2.cell' (i := 4) rfl; have b5 := hB2.cell' (i := 5) rfl; have b6 := hB2.cell' (i := 6) rfl)
                   | ((with_reducible refine (P w2 (hT.ext (hmw1.ext hm2))).mono ?_); rintro e w3 ⟨v3, rfl, ho3, hn3, hm3⟩; obtain ⟨ao3, cap3, rfl, _, _⟩ := ho3.bs.form; have hB3 := hB2.ext hm3; have c0 := hB3.cell' (i := 0) rfl; have c1 := hB3.cell' (i := 1) rfl; have c2 := hB3.cell' (i := 2) rfl; have c3 := hB3.cell' (i := 3) rfl; have c4 := hB3.cell' (i := 4) rfl; have c5 := hB3.cell' (i := 5) rfl; have c6 := hB3.cell' (i := 6) rfl))
                | (go_at_call 9; (with_reducible refine (R _).mono ?_); rintro e w4 ⟨v4, rfl, ho4, hn4, hm4⟩; obtain ⟨ao4, cap4, rfl, _, _⟩ := ho4.bs.form; have hB4 := hB3.ext hm4))
  have hM1 := hmw1
  have hF2 := Fam.ins (A := []) (B := []) (Fam.nil w1 w1.heap.size) (Nat.le_refl _) hm2 ho2 hn2
  have hF3 := Fam.ins (A := [_]) (B := []) hF2 hm2.size hm3 ho3 hn3
  have hF4 := hF3.ext hm4
  have hM4 := ((hmw1.ext hm2).ext hm3).ext hm4
  have hs2 := (ho2.ext hm3).ext hm4
  have hs3 := ho3.ext hm4
  have hD := hB4.ext (Mod.drew [] w4)
  clear a0 a1 a2 a3 a4 a5 a6 b0 b1 b2 b3 b4 b5 b6 c0 c1 c2 c3 c4 c5 c6 hB2 hB3 hBg hmw1 hm2 hm3 hm4 ho2 ho3 hn2 hn3 hn4 P R hF2 hF3
  have a0 := hB4.cell' (i := 0) rfl
  have a1 := hB4.cell' (i := 1) rfl
  have a2 := hB4.cell' (i := 2) rfl
  have a3 := hB4.cell' (i := 3) rfl
  have a4 := hB4.cell' (i := 4) rfl
  have a5 := hB4.cell' (i := 5) rfl
  have a6 := hB4.cell' (i := 6) rfl
  have d0 := hD.cell' (i := 0) rfl
  have d1 := hD.cell' (i := 1) rfl
  have d2 := hD.cell' (i := 2) rfl
  have d3 := hD.cell' (i := 3) rfl
  have d4 := hD.cell' (i := 4) rfl
  have d5 := hD.cell' (i := 5) rfl
  have d6 := hD.cell' (i := 6) rfl
  go_wp2_with fail
  refine wp_region_T [⟨0, true, []⟩, ⟨2, true, []⟩, ⟨1, false, [2]⟩, ⟨3, false, []⟩, ⟨4, true, []⟩, ⟨5, true, []⟩, ⟨6, true, []⟩, ⟨7, true, []⟩, ⟨8, true, []⟩, ⟨9, true, []⟩, ⟨10, true, []⟩, ⟨11, true, []⟩, ⟨12, true, []⟩, ⟨13, true, []⟩, ⟨14, true, []⟩, ⟨15, true, []⟩, ⟨16, true, []⟩, ⟨17, true, []⟩, ⟨18, false, []⟩, ⟨19, true, []⟩, ⟨20, true, []⟩, ⟨21, true, []⟩, ⟨22, true, []⟩, ⟨23, true, []⟩, ⟨24, false, []⟩, ⟨25, true, []⟩, ⟨26, true, []⟩] (by kernel_rfl) (by kernel_rfl) ?_
  iterate 2 (refine wpT_n rfl rfl (fun K hK => ?_); go_wp2_with fail)
  refine wpT_callh rfl rfl (fun K hK => ?_)
  go_wp2_with (go_at_call 10; (with_reducible refine (CK _ (hT.ext (hM4.ext (Mod.drew [] _)))).mono ?_); rintro e w5 ⟨rfl, hm5'⟩)
  refine ⟨agains_cons rfl (again_load rfl rfl (hm5'.block g hD.lt (by simp)) hD.kinds) agains_nil, ?_⟩
  have hm5 : Mod [] w4 w5 := (Mod.drew [] w4).ext hm5'
  refine wpT_call rfl rfl (fun K hK => ?_)
  go_wp2_with (go_at_call 11; (with_reducible refine (RC _).mono ?_); rintro e w6 ⟨rfl, hm6'⟩)
  have hm6 := hm5.ext hm6'
  iterate 2 (refine wpT_n rfl rfl (fun K hK => ?_); go_wp2_with fail)
  iterate 3 (refine wpT_gq (gi := 5) rfl rfl rfl rfl rfl (fun K hK => ?_); go_wp2_with fail)
  iterate 2 (refine wpT_n rfl rfl (fun K hK => ?_); go_wp2_with fail)
  iterate 3 (refine wpT_gq (gi := 10) rfl rfl rfl rfl rfl (fun K hK => ?_); go_wp2_with fail)
  iterate 2 (refine wpT_n rfl rfl (fun K hK => ?_); go_wp2_with fail)
  iterate 2 (refine wpT_gq (gi := 15) rfl rfl rfl rfl rfl (fun K hK => ?_); go_wp2_with fail)
  refine wpT_gcall (gi := 15) rfl rfl rfl rfl (fun K hK => ?_)
  go_wp2_with (go_at_call 12; refine (same_yes B B _ _ _ (hs2.bs.ext hm6) (ho4.bs.ext hm6) rfl).mono ?_; rintro e w7 ⟨rfl, hm7'⟩)
  have hm7 := hm6.ext hm7'
  refine wpT_gq (gi := 15) rfl rfl rfl rfl rfl (fun K hK => ?_)
  go_wp2_with fail
  iterate 2 (refine wpT_n rfl rfl (fun K hK => ?_); go_wp2_with fail)
  iterate 2 (refine wpT_gq (gi := 21) rfl rfl rfl rfl rfl (fun K hK => ?_); go_wp2_with fail)
  refine wpT_gcall (gi := 21) rfl rfl rfl rfl (fun K hK => ?_)
  go_wp2_with (go_at_call 12; refine (same_yes B B _ _ _ (hs3.bs.ext hm7) (ho4.bs.ext hm7) rfl).mono ?_; rintro e w8 ⟨rfl, hm8'⟩)
  have hm8 := hm7.ext hm8'
  refine wpT_gq (gi := 21) rfl rfl rfl rfl rfl (fun K hK => ?_)
  go_wp2_with fail
  refine wpT_n rfl rfl (fun K hK => ?_)
  go_wp2_with fail
  refine wpT_nil ?_
  go_wp2_with (with_reducible refine st_bslice ?_)
  refine StopOp.go rfl fun K hK => ?_
  refine wp_bslice stRow [.slice ao2 B.length cap2, .slice ao3 B.length cap3] rfl (by decide) (by rfl) (by simp [Value.cells]) ?_
  intro p10 w10 hp1 hp2 hm10 hB10
  simp only [put_some, List.set_cons_succ, List.set_cons_zero]
  refine hK _ _ ?_
  clear hK K
  have hm410 := hm8.ext hm10
  have hF10 := hF4.ext hm410
  have hM10 := hM4.ext hm410
  have hrows : Sl w10 1 (.slice (some ⟨p10, 0, none⟩) 2 2) 2 (([(.slice ao2 B.length cap2, B), (.slice ao3 B.length cap3, B)] : List (Value × List UInt8)).map (·.1)) :=
    (Ow.of_blk (rest := []) hB10 (Nat.le_refl _) (by omega) rfl rfl : Ow w10 27 1 (.slice (some ⟨p10, 0, none⟩) 2 2) 2 [.slice ao2 B.length cap2, .slice ao3 B.length cap3]).sl
  have hA := apart_fam _ w1.heap.size 2 _ w10 rfl hrows hF10 (by omega) (by simp; omega)
  have hMge : ∀ (M : List Nat), (∀ y ∈ M, ∃ p, p ∈ [(Value.slice ao2 B.length cap2, B), (Value.slice ao3 B.length cap3, B)] ∧ y ∈ blks p.1) → ∀ y ∈ M, w.heap.size ≤ y := fun M hMM y hy => by
    obtain ⟨p, hp, hyp⟩ := hMM y hy
    exact Nat.le_trans hM1.size ((hF10.ob p hp).2 y hyp)
  go_wp2_with (first
                | (go_at_call 13; refine hA.mono ?_; rintro e w11 ⟨rfl, M, hm11, hMM⟩; have hM11 := hM10.fresh hm11 (hMge M hMM))
                | (go_at_call 14; refine (rpawake_any _ (hT.ext hM11)).mono ?_; rintro e w12 ⟨rfl, hm12⟩))
  go_ret
  exact ⟨rfl, hM11.ext hm12⟩
end Go.Proofs.YtfcoaiggpcjldaaDoor
