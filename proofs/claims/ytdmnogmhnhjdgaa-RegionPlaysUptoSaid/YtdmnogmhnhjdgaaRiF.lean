import Derived.Test.YtdmnogmhnhjdgaaRiA
/-! RegionPlays: stands. -/
set_option linter.unusedVariables false
set_option linter.unusedSimpArgs false
set_option maxRecDepth 100000
namespace Go.Proofs.Ytdmnogmhnhjdgaa
open Go.RowKit Gw

set_option maxRecDepth 1000000 in
set_option maxHeartbeats 16000000 in
theorem stands_any {W w : World} {x p q P Q z N : Nat} {v : Pv} {L M : List Nat} {o0 o1 : Option Reg2} (H : Wld W w x p q P Q z N v v L M o0 o1) (hN : N ≤ 9) (hz : z ≤ 128) :
    Calls Try.prog 50 #[.pointer (some ⟨x, 0, none⟩)] w fun e w' => e = .returned (.bool true) ∧ Mod [] w w' := by
  have CO := fun w h => pCount_any p q v w h
  have CQ := fun w h => qCount_any P Q v w h
  have DO := fun w h => pDown_any p q v w h
  have DQ := fun w h => qDown_any P Q v w h
  have WO := fun w h => pWaiting_any p q v L w h
  have WQ := fun w h => qWaiting_any P Q v M w h
  have SQ := fun w h => qSize_any P Q v M w h
  have hvz := H.vz
  simp only [hvz] at SQ
  obtain ⟨nn, hnn⟩ : ∃ n, n = v.n := ⟨_, rfl⟩
  obtain ⟨rr, hrr⟩ : ∃ n, n = v.m.row.length := ⟨_, rfl⟩
  obtain ⟨of, hof⟩ : ∃ n, n = v.off := ⟨_, rfl⟩
  simp only [← hnn] at CO CQ
  simp only [← hrr] at WO WQ
  simp only [← hof] at DO DQ
  have HV := Lib.hid (And.intro hnn (And.intro hrr hof))
  clear hnn hrr hof
  go_enter Try.func50, Try.ntmps50
  go_wp2_with fail
  go_loopw [3] (fun kv wr => (kv = .int .i64 0 ∨ kv = .int .i64 1 ∨ kv = .int .i64 2) ∧ Mod [] w wr) (fun kv _ => 2 - (intOf kv).toNat)
  case atStart => exact ⟨.inl rfl, Mod.refl _ _⟩
  case round =>
    obtain ⟨hk, hM⟩ := hrel
    have HW := H.ext hM
    rcases hk with rfl | rfl | rfl
    · rcases o0 with _ | g
      · go_wp2_with fail
        refine wp_region_T [⟨0, true, []⟩, ⟨1, true, []⟩, ⟨2, true, []⟩, ⟨3, true, []⟩, ⟨4, true, []⟩, ⟨5, true, []⟩, ⟨6, true, []⟩, ⟨7, true, []⟩, ⟨8, true, []⟩, ⟨9, true, []⟩, ⟨10, true, []⟩, ⟨11, true, []⟩, ⟨12, true, []⟩, ⟨13, true, []⟩, ⟨15, true, []⟩, ⟨16, true, []⟩, ⟨17, true, []⟩, ⟨18, true, []⟩, ⟨19, true, []⟩, ⟨20, true, []⟩, ⟨14, false, [17, 20]⟩, ⟨21, false, []⟩, ⟨22, true, []⟩, ⟨23, true, []⟩, ⟨24, true, []⟩, ⟨25, true, []⟩, ⟨26, true, []⟩, ⟨27, true, []⟩, ⟨28, true, []⟩, ⟨29, true, []⟩, ⟨31, true, []⟩, ⟨32, true, []⟩, ⟨33, true, []⟩, ⟨34, true, []⟩, ⟨30, false, [32, 34]⟩, ⟨35, false, []⟩, ⟨36, true, []⟩, ⟨37, true, []⟩, ⟨38, true, []⟩, ⟨39, true, []⟩, ⟨40, true, []⟩, ⟨41, true, []⟩, ⟨42, true, []⟩, ⟨43, true, []⟩, ⟨44, true, []⟩, ⟨46, true, []⟩, ⟨47, true, []⟩, ⟨48, true, []⟩, ⟨49, true, []⟩, ⟨45, false, [47, 49]⟩, ⟨50, false, []⟩, ⟨51, true, []⟩, ⟨52, true, []⟩, ⟨53, true, []⟩, ⟨54, true, []⟩, ⟨55, true, []⟩, ⟨56, true, []⟩, ⟨57, true, []⟩, ⟨58, true, []⟩, ⟨59, true, []⟩, ⟨61, true, []⟩, ⟨62, true, []⟩, ⟨63, true, []⟩, ⟨64, true, []⟩, ⟨60, false, [62, 64]⟩, ⟨65, false, []⟩, ⟨66, true, []⟩, ⟨67, true, []⟩, ⟨68, true, []⟩] (by kernel_rfl) (by kernel_rfl) ?_
        have hmD := Mod.drew [] wr
        obtain ⟨xa, hxa⟩ : ∃ xa, xa = wr.drew := ⟨_, rfl⟩
        rw [← hxa] at hmD ⊢
        clear hxa
        have HX := HW.ext hmD
        have x2 := Blk.cell' HX.bx (i := 2) (u := .pointer none) rfl
        iterate 8 (refine wpT_n rfl rfl (fun K hK => ?_); go_wp2_with fail)
        iterate 16 (refine wpT_gk (gi := 7) rfl rfl rfl rfl rfl rfl (fun K hK => ?_); go_wp2_with fail)
        iterate 13 (refine wpT_gu (gi := 23) rfl rfl rfl rfl rfl (fun K hK => ?_); go_wp2_with fail)
        iterate 2 (refine wpT_gk (gi := 7) rfl rfl rfl rfl rfl rfl (fun K hK => ?_); go_wp2_with fail)
        iterate 13 (refine wpT_gu (gi := 38) rfl rfl rfl rfl rfl (fun K hK => ?_); go_wp2_with fail)
        iterate 2 (refine wpT_gk (gi := 7) rfl rfl rfl rfl rfl rfl (fun K hK => ?_); go_wp2_with fail)
        iterate 13 (refine wpT_gu (gi := 53) rfl rfl rfl rfl rfl (fun K hK => ?_); go_wp2_with fail)
        refine wpT_gk (gi := 7) rfl rfl rfl rfl rfl rfl (fun K hK => ?_)
        go_wp2_with fail
        refine wpT_n rfl rfl (fun K hK => ?_)
        go_wp2_with fail
        refine wpT_nil ?_
        go_wp2_with fail
        go_roundw
        case rel => exact ⟨.inr (.inl rfl), hM.ext hmD⟩
        case measure => simp [intOf]
      · obtain ⟨r, h, f, c⟩ := g
        have hfc : f + c ≤ N := (HW.g0 _ rfl).fc
        have hcz : c * z ≤ 1152 := Nat.le_trans (Nat.mul_le_mul (by omega : c ≤ 9) hz) (by omega)
        have BY := fun w h => gBytes_any r p f c z w h (by omega)
        have BH := fun w hR hP => hBytes_any h P Q f c z v M w hR hP hvz (by omega)
        have SZ := fun w h => gSize_any r p f c z w h
        have GC := fun w hR hP => gCount_any r p q f c z v w hR hP
        have GD := fun w hR hP => gDown_any r p q f c z v w hR hP
        simp only [← HV.out.1] at GC
        simp only [← HV.out.2.2] at GD
        obtain ⟨B, hB⟩ : ∃ B, B = c * z := ⟨_, rfl⟩
        rw [← hB] at BY BH
        clear hB
        go_wp2_with fail
        refine wp_region_T [⟨0, true, []⟩, ⟨1, true, []⟩, ⟨2, true, []⟩, ⟨3, true, []⟩, ⟨4, true, []⟩, ⟨5, true, []⟩, ⟨6, true, []⟩, ⟨7, true, []⟩, ⟨8, true, []⟩, ⟨9, true, []⟩, ⟨10, true, []⟩, ⟨11, true, []⟩, ⟨12, true, []⟩, ⟨13, true, []⟩, ⟨15, true, []⟩, ⟨16, true, []⟩, ⟨17, true, []⟩, ⟨18, true, []⟩, ⟨19, true, []⟩, ⟨20, true, []⟩, ⟨14, false, [17, 20]⟩, ⟨21, false, []⟩, ⟨22, true, []⟩, ⟨23, true, []⟩, ⟨24, true, []⟩, ⟨25, true, []⟩, ⟨26, true, []⟩, ⟨27, true, []⟩, ⟨28, true, []⟩, ⟨29, true, []⟩, ⟨31, true, []⟩, ⟨32, true, []⟩, ⟨33, true, []⟩, ⟨34, true, []⟩, ⟨30, false, [32, 34]⟩, ⟨35, false, []⟩, ⟨36, true, []⟩, ⟨37, true, []⟩, ⟨38, true, []⟩, ⟨39, true, []⟩, ⟨40, true, []⟩, ⟨41, true, []⟩, ⟨42, true, []⟩, ⟨43, true, []⟩, ⟨44, true, []⟩, ⟨46, true, []⟩, ⟨47, true, []⟩, ⟨48, true, []⟩, ⟨49, true, []⟩, ⟨45, false, [47, 49]⟩, ⟨50, false, []⟩, ⟨51, true, []⟩, ⟨52, true, []⟩, ⟨53, true, []⟩, ⟨54, true, []⟩, ⟨55, true, []⟩, ⟨56, true, []⟩, ⟨57, true, []⟩, ⟨58, true, []⟩, ⟨59, true, []⟩, ⟨61, true, []⟩, ⟨62, true, []⟩, ⟨63, true, []⟩, ⟨64, true, []⟩, ⟨60, false, [62, 64]⟩, ⟨65, false, []⟩, ⟨66, true, []⟩, ⟨67, true, []⟩, ⟨68, true, []⟩] (by kernel_rfl) (by kernel_rfl) ?_
        have hmD := Mod.drew [] wr
        obtain ⟨xa, hxa⟩ : ∃ xa, xa = wr.drew := ⟨_, rfl⟩
        rw [← hxa] at hmD ⊢
        clear hxa
        have HX := HW.ext hmD
        have ga := (HX.g0 _ rfl).a
        have gb := (HX.g0 _ rfl).b
        have hr := HX.r
        have x2 := Blk.cell' HX.bx (i := 2) (u := .pointer (some ⟨r, 0, none⟩)) rfl
        have x4 := Blk.cell' HX.bx (i := 4) (u := .pointer (some ⟨h, 0, none⟩)) rfl
        iterate 8 (refine wpT_n rfl rfl (fun K hK => ?_); go_wp2_with fail)
        iterate 12 (refine wpT_gq (gi := 7) rfl rfl rfl rfl rfl (fun K hK => ?_); go_wp2_with fail)
        refine wpT_gcallh (gi := 7) rfl rfl rfl rfl (fun K hK => ?_)
        go_wp2_with (go_at_call 42; (with_reducible refine (BY _ ga).mono ?_); rintro e w2 ⟨rfl, hm2⟩)
        refine ⟨agains_cons rfl (again_const (fun _ => rfl)) (agains_cons rfl (again_load rfl rfl (hm2.block x HX.bx.lt (by simp)) HX.bx.kinds) agains_nil), ?_⟩
        have HX2 := HX.ext hm2
        have gb := (HX2.g0 _ rfl).b
        have hr := HX2.r
        refine wpT_gcall (gi := 7) rfl rfl rfl rfl (fun K hK => ?_)
        go_wp2_with (go_at_call 88; (with_reducible refine (BH _ gb hr).mono ?_); rintro e w3 ⟨rfl, hm3⟩)
        have HY := HX2.ext hm3
        have ga := (HY.g0 _ rfl).a
        have hd := HY.d.b
        have hr := HY.r
        have hrb := HY.r.b
        clear x2 x4
        have x1 := Blk.cell' HY.bx (i := 1) (u := .pointer (some ⟨P, 0, none⟩)) rfl
        have x2 := Blk.cell' HY.bx (i := 2) (u := .pointer (some ⟨r, 0, none⟩)) rfl
        iterate 2 (refine wpT_gq (gi := 7) rfl rfl rfl rfl rfl (fun K hK => ?_); go_wp2_with fail)
        iterate 10 (refine wpT_gq (gi := 23) rfl rfl rfl rfl rfl (fun K hK => ?_); go_wp2_with fail)
        refine wpT_gcallh (gi := 23) rfl rfl rfl rfl (fun K hK => ?_)
        go_wp2_with (go_at_call 43; (with_reducible refine (SZ _ ga).mono ?_); rintro e w4 ⟨rfl, rfl⟩)
        refine ⟨agains_same, ?_⟩
        refine wpT_gcall (gi := 23) rfl rfl rfl rfl (fun K hK => ?_)
        go_wp2_with (go_at_call 89; (with_reducible refine (SQ _ hr).mono ?_); rintro e w4 ⟨rfl, rfl⟩)
        refine wpT_gq (gi := 23) rfl rfl rfl rfl rfl (fun K hK => ?_)
        go_wp2_with fail
        iterate 2 (refine wpT_gq (gi := 7) rfl rfl rfl rfl rfl (fun K hK => ?_); go_wp2_with fail)
        iterate 10 (refine wpT_gq (gi := 38) rfl rfl rfl rfl rfl (fun K hK => ?_); go_wp2_with fail)
        refine wpT_gcallh (gi := 38) rfl rfl rfl rfl (fun K hK => ?_)
        go_wp2_with (go_at_call 44; (with_reducible refine (GC _ ga hd).mono ?_); rintro e w4 ⟨rfl, rfl⟩)
        refine ⟨agains_same, ?_⟩
        refine wpT_gcall (gi := 38) rfl rfl rfl rfl (fun K hK => ?_)
        go_wp2_with (go_at_call 90; (with_reducible refine (CQ _ hrb).mono ?_); rintro e w4 ⟨rfl, rfl⟩)
        refine wpT_gq (gi := 38) rfl rfl rfl rfl rfl (fun K hK => ?_)
        go_wp2_with fail
        iterate 2 (refine wpT_gq (gi := 7) rfl rfl rfl rfl rfl (fun K hK => ?_); go_wp2_with fail)
        iterate 10 (refine wpT_gq (gi := 53) rfl rfl rfl rfl rfl (fun K hK => ?_); go_wp2_with fail)
        refine wpT_gcallh (gi := 53) rfl rfl rfl rfl (fun K hK => ?_)
        go_wp2_with (go_at_call 45; (with_reducible refine (GD _ ga hd).mono ?_); rintro e w4 ⟨rfl, rfl⟩)
        refine ⟨agains_same, ?_⟩
        refine wpT_gcall (gi := 53) rfl rfl rfl rfl (fun K hK => ?_)
        go_wp2_with (go_at_call 91; (with_reducible refine (DQ _ hrb).mono ?_); rintro e w4 ⟨rfl, rfl⟩)
        refine wpT_gq (gi := 53) rfl rfl rfl rfl rfl (fun K hK => ?_)
        go_wp2_with fail
        refine wpT_gq (gi := 7) rfl rfl rfl rfl rfl (fun K hK => ?_)
        go_wp2_with fail
        refine wpT_n rfl rfl (fun K hK => ?_)
        go_wp2_with fail
        refine wpT_nil ?_
        go_wp2_with fail
        go_roundw
        case rel => exact ⟨.inr (.inl rfl), ((hM.ext hmD).ext hm2).ext hm3⟩
        case measure => simp [intOf]
    · rcases o1 with _ | g
      · go_wp2_with fail
        refine wp_region_T [⟨0, true, []⟩, ⟨1, true, []⟩, ⟨2, true, []⟩, ⟨3, true, []⟩, ⟨4, true, []⟩, ⟨5, true, []⟩, ⟨6, true, []⟩, ⟨7, true, []⟩, ⟨8, true, []⟩, ⟨9, true, []⟩, ⟨10, true, []⟩, ⟨11, true, []⟩, ⟨12, true, []⟩, ⟨13, true, []⟩, ⟨15, true, []⟩, ⟨16, true, []⟩, ⟨17, true, []⟩, ⟨18, true, []⟩, ⟨19, true, []⟩, ⟨20, true, []⟩, ⟨14, false, [17, 20]⟩, ⟨21, false, []⟩, ⟨22, true, []⟩, ⟨23, true, []⟩, ⟨24, true, []⟩, ⟨25, true, []⟩, ⟨26, true, []⟩, ⟨27, true, []⟩, ⟨28, true, []⟩, ⟨29, true, []⟩, ⟨31, true, []⟩, ⟨32, true, []⟩, ⟨33, true, []⟩, ⟨34, true, []⟩, ⟨30, false, [32, 34]⟩, ⟨35, false, []⟩, ⟨36, true, []⟩, ⟨37, true, []⟩, ⟨38, true, []⟩, ⟨39, true, []⟩, ⟨40, true, []⟩, ⟨41, true, []⟩, ⟨42, true, []⟩, ⟨43, true, []⟩, ⟨44, true, []⟩, ⟨46, true, []⟩, ⟨47, true, []⟩, ⟨48, true, []⟩, ⟨49, true, []⟩, ⟨45, false, [47, 49]⟩, ⟨50, false, []⟩, ⟨51, true, []⟩, ⟨52, true, []⟩, ⟨53, true, []⟩, ⟨54, true, []⟩, ⟨55, true, []⟩, ⟨56, true, []⟩, ⟨57, true, []⟩, ⟨58, true, []⟩, ⟨59, true, []⟩, ⟨61, true, []⟩, ⟨62, true, []⟩, ⟨63, true, []⟩, ⟨64, true, []⟩, ⟨60, false, [62, 64]⟩, ⟨65, false, []⟩, ⟨66, true, []⟩, ⟨67, true, []⟩, ⟨68, true, []⟩] (by kernel_rfl) (by kernel_rfl) ?_
        have hmD := Mod.drew [] wr
        obtain ⟨xa, hxa⟩ : ∃ xa, xa = wr.drew := ⟨_, rfl⟩
        rw [← hxa] at hmD ⊢
        clear hxa
        have HX := HW.ext hmD
        have x3 := Blk.cell' HX.bx (i := 3) (u := .pointer none) rfl
        iterate 8 (refine wpT_n rfl rfl (fun K hK => ?_); go_wp2_with fail)
        iterate 16 (refine wpT_gk (gi := 7) rfl rfl rfl rfl rfl rfl (fun K hK => ?_); go_wp2_with fail)
        iterate 13 (refine wpT_gu (gi := 23) rfl rfl rfl rfl rfl (fun K hK => ?_); go_wp2_with fail)
        iterate 2 (refine wpT_gk (gi := 7) rfl rfl rfl rfl rfl rfl (fun K hK => ?_); go_wp2_with fail)
        iterate 13 (refine wpT_gu (gi := 38) rfl rfl rfl rfl rfl (fun K hK => ?_); go_wp2_with fail)
        iterate 2 (refine wpT_gk (gi := 7) rfl rfl rfl rfl rfl rfl (fun K hK => ?_); go_wp2_with fail)
        iterate 13 (refine wpT_gu (gi := 53) rfl rfl rfl rfl rfl (fun K hK => ?_); go_wp2_with fail)
        refine wpT_gk (gi := 7) rfl rfl rfl rfl rfl rfl (fun K hK => ?_)
        go_wp2_with fail
        refine wpT_n rfl rfl (fun K hK => ?_)
        go_wp2_with fail
        refine wpT_nil ?_
        go_wp2_with fail
        go_roundw
        case rel => exact ⟨.inr (.inr rfl), hM.ext hmD⟩
        case measure => simp [intOf]
      · obtain ⟨r, h, f, c⟩ := g
        have hfc : f + c ≤ N := (HW.g1 _ rfl).fc
        have hcz : c * z ≤ 1152 := Nat.le_trans (Nat.mul_le_mul (by omega : c ≤ 9) hz) (by omega)
        have BY := fun w h => gBytes_any r p f c z w h (by omega)
        have BH := fun w hR hP => hBytes_any h P Q f c z v M w hR hP hvz (by omega)
        have SZ := fun w h => gSize_any r p f c z w h
        have GC := fun w hR hP => gCount_any r p q f c z v w hR hP
        have GD := fun w hR hP => gDown_any r p q f c z v w hR hP
        simp only [← HV.out.1] at GC
        simp only [← HV.out.2.2] at GD
        obtain ⟨B, hB⟩ : ∃ B, B = c * z := ⟨_, rfl⟩
        rw [← hB] at BY BH
        clear hB
        go_wp2_with fail
        refine wp_region_T [⟨0, true, []⟩, ⟨1, true, []⟩, ⟨2, true, []⟩, ⟨3, true, []⟩, ⟨4, true, []⟩, ⟨5, true, []⟩, ⟨6, true, []⟩, ⟨7, true, []⟩, ⟨8, true, []⟩, ⟨9, true, []⟩, ⟨10, true, []⟩, ⟨11, true, []⟩, ⟨12, true, []⟩, ⟨13, true, []⟩, ⟨15, true, []⟩, ⟨16, true, []⟩, ⟨17, true, []⟩, ⟨18, true, []⟩, ⟨19, true, []⟩, ⟨20, true, []⟩, ⟨14, false, [17, 20]⟩, ⟨21, false, []⟩, ⟨22, true, []⟩, ⟨23, true, []⟩, ⟨24, true, []⟩, ⟨25, true, []⟩, ⟨26, true, []⟩, ⟨27, true, []⟩, ⟨28, true, []⟩, ⟨29, true, []⟩, ⟨31, true, []⟩, ⟨32, true, []⟩, ⟨33, true, []⟩, ⟨34, true, []⟩, ⟨30, false, [32, 34]⟩, ⟨35, false, []⟩, ⟨36, true, []⟩, ⟨37, true, []⟩, ⟨38, true, []⟩, ⟨39, true, []⟩, ⟨40, true, []⟩, ⟨41, true, []⟩, ⟨42, true, []⟩, ⟨43, true, []⟩, ⟨44, true, []⟩, ⟨46, true, []⟩, ⟨47, true, []⟩, ⟨48, true, []⟩, ⟨49, true, []⟩, ⟨45, false, [47, 49]⟩, ⟨50, false, []⟩, ⟨51, true, []⟩, ⟨52, true, []⟩, ⟨53, true, []⟩, ⟨54, true, []⟩, ⟨55, true, []⟩, ⟨56, true, []⟩, ⟨57, true, []⟩, ⟨58, true, []⟩, ⟨59, true, []⟩, ⟨61, true, []⟩, ⟨62, true, []⟩, ⟨63, true, []⟩, ⟨64, true, []⟩, ⟨60, false, [62, 64]⟩, ⟨65, false, []⟩, ⟨66, true, []⟩, ⟨67, true, []⟩, ⟨68, true, []⟩] (by kernel_rfl) (by kernel_rfl) ?_
        have hmD := Mod.drew [] wr
        obtain ⟨xa, hxa⟩ : ∃ xa, xa = wr.drew := ⟨_, rfl⟩
        rw [← hxa] at hmD ⊢
        clear hxa
        have HX := HW.ext hmD
        have ga := (HX.g1 _ rfl).a
        have gb := (HX.g1 _ rfl).b
        have hr := HX.r
        have x3 := Blk.cell' HX.bx (i := 3) (u := .pointer (some ⟨r, 0, none⟩)) rfl
        have x5 := Blk.cell' HX.bx (i := 5) (u := .pointer (some ⟨h, 0, none⟩)) rfl
        iterate 8 (refine wpT_n rfl rfl (fun K hK => ?_); go_wp2_with fail)
        iterate 12 (refine wpT_gq (gi := 7) rfl rfl rfl rfl rfl (fun K hK => ?_); go_wp2_with fail)
        refine wpT_gcallh (gi := 7) rfl rfl rfl rfl (fun K hK => ?_)
        go_wp2_with (go_at_call 42; (with_reducible refine (BY _ ga).mono ?_); rintro e w2 ⟨rfl, hm2⟩)
        refine ⟨agains_cons rfl (again_const (fun _ => rfl)) (agains_cons rfl (again_load rfl rfl (hm2.block x HX.bx.lt (by simp)) HX.bx.kinds) agains_nil), ?_⟩
        have HX2 := HX.ext hm2
        have gb := (HX2.g1 _ rfl).b
        have hr := HX2.r
        refine wpT_gcall (gi := 7) rfl rfl rfl rfl (fun K hK => ?_)
        go_wp2_with (go_at_call 88; (with_reducible refine (BH _ gb hr).mono ?_); rintro e w3 ⟨rfl, hm3⟩)
        have HY := HX2.ext hm3
        have ga := (HY.g1 _ rfl).a
        have hd := HY.d.b
        have hr := HY.r
        have hrb := HY.r.b
        clear x3 x5
        have x1 := Blk.cell' HY.bx (i := 1) (u := .pointer (some ⟨P, 0, none⟩)) rfl
        have x3 := Blk.cell' HY.bx (i := 3) (u := .pointer (some ⟨r, 0, none⟩)) rfl
        iterate 2 (refine wpT_gq (gi := 7) rfl rfl rfl rfl rfl (fun K hK => ?_); go_wp2_with fail)
        iterate 10 (refine wpT_gq (gi := 23) rfl rfl rfl rfl rfl (fun K hK => ?_); go_wp2_with fail)
        refine wpT_gcallh (gi := 23) rfl rfl rfl rfl (fun K hK => ?_)
        go_wp2_with (go_at_call 43; (with_reducible refine (SZ _ ga).mono ?_); rintro e w4 ⟨rfl, rfl⟩)
        refine ⟨agains_same, ?_⟩
        refine wpT_gcall (gi := 23) rfl rfl rfl rfl (fun K hK => ?_)
        go_wp2_with (go_at_call 89; (with_reducible refine (SQ _ hr).mono ?_); rintro e w4 ⟨rfl, rfl⟩)
        refine wpT_gq (gi := 23) rfl rfl rfl rfl rfl (fun K hK => ?_)
        go_wp2_with fail
        iterate 2 (refine wpT_gq (gi := 7) rfl rfl rfl rfl rfl (fun K hK => ?_); go_wp2_with fail)
        iterate 10 (refine wpT_gq (gi := 38) rfl rfl rfl rfl rfl (fun K hK => ?_); go_wp2_with fail)
        refine wpT_gcallh (gi := 38) rfl rfl rfl rfl (fun K hK => ?_)
        go_wp2_with (go_at_call 44; (with_reducible refine (GC _ ga hd).mono ?_); rintro e w4 ⟨rfl, rfl⟩)
        refine ⟨agains_same, ?_⟩
        refine wpT_gcall (gi := 38) rfl rfl rfl rfl (fun K hK => ?_)
        go_wp2_with (go_at_call 90; (with_reducible refine (CQ _ hrb).mono ?_); rintro e w4 ⟨rfl, rfl⟩)
        refine wpT_gq (gi := 38) rfl rfl rfl rfl rfl (fun K hK => ?_)
        go_wp2_with fail
        iterate 2 (refine wpT_gq (gi := 7) rfl rfl rfl rfl rfl (fun K hK => ?_); go_wp2_with fail)
        iterate 10 (refine wpT_gq (gi := 53) rfl rfl rfl rfl rfl (fun K hK => ?_); go_wp2_with fail)
        refine wpT_gcallh (gi := 53) rfl rfl rfl rfl (fun K hK => ?_)
        go_wp2_with (go_at_call 45; (with_reducible refine (GD _ ga hd).mono ?_); rintro e w4 ⟨rfl, rfl⟩)
        refine ⟨agains_same, ?_⟩
        refine wpT_gcall (gi := 53) rfl rfl rfl rfl (fun K hK => ?_)
        go_wp2_with (go_at_call 91; (with_reducible refine (DQ _ hrb).mono ?_); rintro e w4 ⟨rfl, rfl⟩)
        refine wpT_gq (gi := 53) rfl rfl rfl rfl rfl (fun K hK => ?_)
        go_wp2_with fail
        refine wpT_gq (gi := 7) rfl rfl rfl rfl rfl (fun K hK => ?_)
        go_wp2_with fail
        refine wpT_n rfl rfl (fun K hK => ?_)
        go_wp2_with fail
        refine wpT_nil ?_
        go_wp2_with fail
        go_roundw
        case rel => exact ⟨.inr (.inr rfl), ((hM.ext hmD).ext hm2).ext hm3⟩
        case measure => simp [intOf]
    · go_wp2_with fail
      refine wp_region_T [⟨0, true, []⟩, ⟨1, true, []⟩, ⟨2, true, []⟩, ⟨3, true, []⟩, ⟨5, true, []⟩, ⟨6, true, []⟩, ⟨7, true, []⟩, ⟨8, true, []⟩, ⟨4, false, [6, 8]⟩, ⟨9, false, []⟩, ⟨10, true, []⟩, ⟨11, true, []⟩, ⟨12, true, []⟩, ⟨13, true, []⟩, ⟨14, true, []⟩, ⟨15, true, []⟩, ⟨17, true, []⟩, ⟨18, true, []⟩, ⟨19, true, []⟩, ⟨20, true, []⟩, ⟨16, false, [18, 20]⟩, ⟨21, false, []⟩, ⟨22, true, []⟩, ⟨23, true, []⟩, ⟨24, true, []⟩, ⟨25, true, []⟩, ⟨26, true, []⟩, ⟨27, true, []⟩, ⟨28, true, []⟩, ⟨30, true, []⟩, ⟨31, true, []⟩, ⟨32, true, []⟩, ⟨33, true, []⟩, ⟨29, false, [31, 33]⟩, ⟨34, false, []⟩, ⟨35, true, []⟩, ⟨36, true, []⟩, ⟨37, true, []⟩] (by kernel_rfl) (by kernel_rfl) ?_
      have hmD := Mod.drew [] wr
      obtain ⟨xa, hxa⟩ : ∃ xa, xa = wr.drew := ⟨_, rfl⟩
      rw [← hxa] at hmD ⊢
      clear hxa
      have HX := HW.ext hmD
      have x0 := Blk.cell' HX.bx (i := 0) (u := .pointer (some ⟨p, 0, none⟩)) rfl
      have x1 := Blk.cell' HX.bx (i := 1) (u := .pointer (some ⟨P, 0, none⟩)) rfl
      have hd := HX.d
      have hr := HX.r
      have hdb := HX.d.b
      have hrb := HX.r.b
      iterate 8 (refine wpT_n rfl rfl (fun K hK => ?_); go_wp2_with fail)
      refine wpT_callh rfl rfl (fun K hK => ?_)
      go_wp2_with (go_at_call 20; (with_reducible refine (CO _ hdb).mono ?_); rintro e w4 ⟨rfl, rfl⟩)
      refine ⟨agains_same, ?_⟩
      refine wpT_call rfl rfl (fun K hK => ?_)
      go_wp2_with (go_at_call 90; (with_reducible refine (CQ _ hrb).mono ?_); rintro e w4 ⟨rfl, rfl⟩)
      iterate 2 (refine wpT_n rfl rfl (fun K hK => ?_); go_wp2_with fail)
      iterate 8 (refine wpT_gq (gi := 11) rfl rfl rfl rfl rfl (fun K hK => ?_); go_wp2_with fail)
      refine wpT_gcallh (gi := 11) rfl rfl rfl rfl (fun K hK => ?_)
      go_wp2_with (go_at_call 17; (with_reducible refine (DO _ hdb).mono ?_); rintro e w4 ⟨rfl, rfl⟩)
      refine ⟨agains_same, ?_⟩
      refine wpT_gcall (gi := 11) rfl rfl rfl rfl (fun K hK => ?_)
      go_wp2_with (go_at_call 91; (with_reducible refine (DQ _ hrb).mono ?_); rintro e w4 ⟨rfl, rfl⟩)
      refine wpT_gq (gi := 11) rfl rfl rfl rfl rfl (fun K hK => ?_)
      go_wp2_with fail
      iterate 2 (refine wpT_n rfl rfl (fun K hK => ?_); go_wp2_with fail)
      iterate 8 (refine wpT_gq (gi := 24) rfl rfl rfl rfl rfl (fun K hK => ?_); go_wp2_with fail)
      refine wpT_gcallh (gi := 24) rfl rfl rfl rfl (fun K hK => ?_)
      go_wp2_with (go_at_call 21; (with_reducible refine (WO _ hd).mono ?_); rintro e w4 ⟨rfl, rfl⟩)
      refine ⟨agains_same, ?_⟩
      refine wpT_gcall (gi := 24) rfl rfl rfl rfl (fun K hK => ?_)
      go_wp2_with (go_at_call 92; (with_reducible refine (WQ _ hr).mono ?_); rintro e w4 ⟨rfl, rfl⟩)
      refine wpT_gq (gi := 24) rfl rfl rfl rfl rfl (fun K hK => ?_)
      go_wp2_with fail
      iterate 2 (refine wpT_n rfl rfl (fun K hK => ?_); go_wp2_with fail)
      refine wpT_nil ?_
      go_wp2_with fail
      go_ret
      exact ⟨rfl, hM.ext hmD⟩
end Go.Proofs.Ytdmnogmhnhjdgaa
