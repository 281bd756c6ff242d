import Derived.Test.YtdmnogmhnhjdgaaGreatPwN
/-! Devices: both tell the same. -/
set_option linter.unusedVariables false
set_option linter.unusedSimpArgs false
set_option maxRecDepth 100000
namespace Go.Proofs.YtdmnogmhnhjdgaaGreat
open Go.RowKit Gw

set_option maxRecDepth 1000000 in
set_option maxHeartbeats 8000000 in
theorem is_any (W w : World) (p q p' q' : Nat) (uv : Option Addr) (v : Pv) (L M : List Nat) (hP : Pq W w p q p' q' v v L M) :
    Calls Tryz.prog 19 #[.agg #[.pointer (some ⟨p, 0, none⟩), .pointer uv, .pointer (some ⟨p', 0, none⟩)]] w fun e w' => e = .returned (.bool true) ∧ Mod [] w w' := by
  have hN2 := hP.d.ok.m.n2
  have hS2 := hP.d.ok.m.s2
  have hdl := hP.d.ok.m.d
  have IM := fun w h => pImage_any p q v L w h
  have IQ := fun w h => qImage_any p' q' v M w h
  unfold ImgPost at IM IQ
  have SE := fun w h => pSectors_any p q v L w h
  have SEq := fun w h => qSectors_any p' q' v M w h
  have SI := fun w h => pSize_any p q v L w h
  have SIq := fun w h => qSize_any p' q' v M w h
  have WA := fun w h => pWaiting_any p q v L w h
  have WAq := fun w h => qWaiting_any p' q' v M w h
  have DO := fun w h => pDown_any p q v w h
  have DOq := fun w h => qDown_any p' q' v w h
  have CO := fun w h => pCount_any p q v w h
  have COq := fun w h => qCount_any p' q' v w h
  obtain ⟨x1, h1⟩ : ∃ x, x = v.m.dur.length := ⟨_, rfl⟩
  obtain ⟨x2, h2⟩ : ∃ x, x = v.m.sz := ⟨_, rfl⟩
  obtain ⟨x3, h3⟩ : ∃ x, x = v.m.row.length := ⟨_, rfl⟩
  obtain ⟨x4, h4⟩ : ∃ x, x = v.off := ⟨_, rfl⟩
  obtain ⟨x5, h5⟩ : ∃ x, x = v.n := ⟨_, rfl⟩
  simp only [← h1] at SE SEq
  simp only [← h2] at SI SIq
  simp only [← h3] at WA WAq
  simp only [← h4] at DO DOq
  simp only [← h5] at CO COq
  have hdq : ∀ dq : List (Value × List UInt8), dq.map (·.2) = v.m.dur → dq.length ≤ 70000 ∧ ∀ r ∈ dq, r.2.length ≤ 1000000 := fun dq hd => ⟨by
    have := congrArg List.length hd
    rw [List.length_map] at this
    omega, fun r hr => by
    have h := hdl r.2 (hd ▸ List.mem_map.2 ⟨r, hr, rfl⟩)
    omega⟩
  have HDQ := Lib.hid hdq
  clear h1 h2 h3 h4 h5 hdq hdl hN2 hS2
  obtain ⟨D, hD⟩ : ∃ D, D = v.m.dur := ⟨_, rfl⟩
  rw [← hD] at IM IQ
  have HD := Lib.hid hD
  clear hD
  go_enter Tryz.func19, Tryz.ntmps19
  go_wp2_with (with_reducible refine st_box ?_)
  refine StopOp.go rfl fun K hK => ?_
  refine wp_box (v := .agg #[.pointer (some ⟨p, 0, none⟩), .pointer uv, .pointer (some ⟨p', 0, none⟩)]) (by rfl) ?_
  intro t w1 ht1 ht2 hm1 hT
  simp only [put_some, List.set_cons_succ, List.set_cons_zero]
  refine hK _ _ ?_
  clear hK K
  have hT1 : Blk w1 t 28 [.pointer (some ⟨p, 0, none⟩), .pointer uv, .pointer (some ⟨p', 0, none⟩)] := hT
  clear hT
  go_wp2_with fail
  refine wp_region_T [⟨0, true, []⟩, ⟨1, true, []⟩, ⟨3, true, []⟩, ⟨4, true, []⟩, ⟨2, false, [4]⟩, ⟨5, false, []⟩, ⟨6, true, []⟩, ⟨7, true, []⟩] (by kernel_rfl) (by kernel_rfl) ?_
  have hmA := Mod.drew [] w1
  obtain ⟨xa, hxa⟩ : ∃ xa, xa = w1.drew := ⟨_, rfl⟩
  rw [← hxa] at hmA ⊢
  clear hxa
  have hT2 := hT1.ext hmA
  have hP2 := (hP.ext hm1).ext hmA
  have hd2 := hP2.d
  have e0 := hT2.cell' (i := 0) rfl
  have e1 := hT2.cell' (i := 1) rfl
  have e2 := hT2.cell' (i := 2) rfl
  iterate 4 (refine wpT_n rfl rfl (fun K hK => ?_); go_wp2_with fail)
  refine wpT_callh rfl rfl (fun K hK => ?_)
  go_wp2_with (go_at_call 10; (with_reducible refine (IM _ hd2).mono ?_); rintro e w3 ⟨i3, d3, rfl, hO3, hd3, hm3⟩)
  refine ⟨agains_cons rfl (again_load rfl rfl (hm3.block t hT2.lt (by simp)) hT2.kinds) agains_nil, ?_⟩
  have hP3 := hP2.ext hm3
  have hr3 := hP3.r
  refine wpT_call rfl rfl (fun K hK => ?_)
  go_wp2_with (go_at_call 54; (with_reducible refine (IQ _ hr3).mono ?_); rintro e w4 ⟨i4, d4, rfl, hO4, hd4, hm4⟩)
  obtain ⟨ao3, cap3, rfl, _, _⟩ := hO3.ow.sl.form
  obtain ⟨ao4, cap4, rfl, _, _⟩ := hO4.ow.sl.form
  iterate 2 (refine wpT_n rfl rfl (fun K hK => ?_); go_wp2_with fail)
  refine wpT_nil ?_
  go_wp2_with fail
  clear e0 e1 e2
  refine wp_region_T [⟨0, true, []⟩, ⟨1, true, []⟩, ⟨3, true, []⟩, ⟨4, true, []⟩, ⟨2, false, [4]⟩, ⟨5, false, []⟩, ⟨6, true, []⟩, ⟨7, true, []⟩, ⟨8, true, []⟩, ⟨9, true, []⟩, ⟨11, true, []⟩, ⟨12, true, []⟩, ⟨10, false, [12]⟩, ⟨13, false, []⟩, ⟨14, true, []⟩, ⟨15, true, []⟩, ⟨16, true, []⟩, ⟨17, true, []⟩, ⟨18, true, []⟩, ⟨20, true, []⟩, ⟨21, true, []⟩, ⟨19, false, [21]⟩, ⟨22, false, []⟩, ⟨23, true, []⟩, ⟨24, true, []⟩, ⟨25, true, []⟩, ⟨26, true, []⟩, ⟨27, true, []⟩, ⟨29, true, []⟩, ⟨30, true, []⟩, ⟨28, false, [30]⟩, ⟨31, false, []⟩, ⟨32, true, []⟩, ⟨33, true, []⟩, ⟨34, true, []⟩, ⟨35, true, []⟩, ⟨36, true, []⟩, ⟨38, true, []⟩, ⟨39, true, []⟩, ⟨37, false, [39]⟩, ⟨40, false, []⟩, ⟨41, true, []⟩, ⟨42, true, []⟩, ⟨43, true, []⟩, ⟨44, true, []⟩, ⟨45, true, []⟩, ⟨46, false, []⟩, ⟨47, true, []⟩, ⟨48, true, []⟩] (by kernel_rfl) (by kernel_rfl) ?_
  have hmB := Mod.drew [] w4
  obtain ⟨xb, hxb⟩ : ∃ xb, xb = w4.drew := ⟨_, rfl⟩
  rw [← hxb] at hmB ⊢
  clear hxb
  have hT5 := ((hT2.ext hm3).ext hm4).ext hmB
  have hP5 := (hP3.ext hm4).ext hmB
  have hd5 := hP5.d
  have hr5 := hP5.r
  have hdb := hd5.b
  have hrb := hr5.b
  have hRA := ((hO3.ext hm4).ext hmB).r
  have hRB := (hO4.ext hmB).r
  have e0 := hT5.cell' (i := 0) rfl
  have e1 := hT5.cell' (i := 1) rfl
  have e2 := hT5.cell' (i := 2) rfl
  iterate 4 (refine wpT_n rfl rfl (fun K hK => ?_); go_wp2_with fail)
  refine wpT_callh rfl rfl (fun K hK => ?_)
  go_wp2_with (go_at_call 55; (with_reducible refine (SE _ hd5).mono ?_); rintro e w6 ⟨rfl, rfl⟩)
  refine ⟨agains_same, ?_⟩
  refine wpT_call rfl rfl (fun K hK => ?_)
  go_wp2_with (go_at_call 56; (with_reducible refine (SEq _ hr5).mono ?_); rintro e w6 ⟨rfl, rfl⟩)
  iterate 2 (refine wpT_n rfl rfl (fun K hK => ?_); go_wp2_with fail)
  iterate 4 (refine wpT_gq (gi := 7) rfl rfl rfl rfl rfl (fun K hK => ?_); go_wp2_with fail)
  refine wpT_gcallh (gi := 7) rfl rfl rfl rfl (fun K hK => ?_)
  go_wp2_with (go_at_call 52; (with_reducible refine (SI _ hd5).mono ?_); rintro e w6 ⟨rfl, rfl⟩)
  refine ⟨agains_same, ?_⟩
  refine wpT_gcall (gi := 7) rfl rfl rfl rfl (fun K hK => ?_)
  go_wp2_with (go_at_call 30; (with_reducible refine (SIq _ hr5).mono ?_); rintro e w6 ⟨rfl, rfl⟩)
  refine wpT_gq (gi := 7) rfl rfl rfl rfl rfl (fun K hK => ?_)
  go_wp2_with fail
  iterate 2 (refine wpT_n rfl rfl (fun K hK => ?_); go_wp2_with fail)
  iterate 4 (refine wpT_gq (gi := 16) rfl rfl rfl rfl rfl (fun K hK => ?_); go_wp2_with fail)
  refine wpT_gcallh (gi := 16) rfl rfl rfl rfl (fun K hK => ?_)
  go_wp2_with (go_at_call 11; (with_reducible refine (WA _ hd5).mono ?_); rintro e w6 ⟨rfl, rfl⟩)
  refine ⟨agains_same, ?_⟩
  refine wpT_gcall (gi := 16) rfl rfl rfl rfl (fun K hK => ?_)
  go_wp2_with (go_at_call 57; (with_reducible refine (WAq _ hr5).mono ?_); rintro e w6 ⟨rfl, rfl⟩)
  refine wpT_gq (gi := 16) rfl rfl rfl rfl rfl (fun K hK => ?_)
  go_wp2_with fail
  iterate 2 (refine wpT_n rfl rfl (fun K hK => ?_); go_wp2_with fail)
  iterate 4 (refine wpT_gq (gi := 25) rfl rfl rfl rfl rfl (fun K hK => ?_); go_wp2_with fail)
  refine wpT_gcallh (gi := 25) rfl rfl rfl rfl (fun K hK => ?_)
  go_wp2_with (go_at_call 13; (with_reducible refine (DO _ hdb).mono ?_); rintro e w6 ⟨rfl, rfl⟩)
  refine ⟨agains_same, ?_⟩
  refine wpT_gcall (gi := 25) rfl rfl rfl rfl (fun K hK => ?_)
  go_wp2_with (go_at_call 58; (with_reducible refine (DOq _ hrb).mono ?_); rintro e w6 ⟨rfl, rfl⟩)
  refine wpT_gq (gi := 25) rfl rfl rfl rfl rfl (fun K hK => ?_)
  go_wp2_with fail
  iterate 2 (refine wpT_n rfl rfl (fun K hK => ?_); go_wp2_with fail)
  iterate 4 (refine wpT_gq (gi := 34) rfl rfl rfl rfl rfl (fun K hK => ?_); go_wp2_with fail)
  refine wpT_gcallh (gi := 34) rfl rfl rfl rfl (fun K hK => ?_)
  go_wp2_with (go_at_call 12; (with_reducible refine (CO _ hdb).mono ?_); rintro e w6 ⟨rfl, rfl⟩)
  refine ⟨agains_same, ?_⟩
  refine wpT_gcall (gi := 34) rfl rfl rfl rfl (fun K hK => ?_)
  go_wp2_with (go_at_call 59; (with_reducible refine (COq _ hrb).mono ?_); rintro e w6 ⟨rfl, rfl⟩)
  refine wpT_gq (gi := 34) rfl rfl rfl rfl rfl (fun K hK => ?_)
  go_wp2_with fail
  iterate 2 (refine wpT_n rfl rfl (fun K hK => ?_); go_wp2_with fail)
  iterate 2 (refine wpT_gq (gi := 43) rfl rfl rfl rfl rfl (fun K hK => ?_); go_wp2_with fail)
  refine wpT_gcall (gi := 43) rfl rfl rfl rfl (fun K hK => ?_)
  go_wp2_with (go_at_call 14; (with_reducible refine (sameRows_yes d3 d4 _ _ _ hRA hRB (hd3.trans hd4.symm)).mono ?_); rintro e w6 ⟨rfl, hm6⟩)
  have hP6 := hP5.ext hm6
  have hT6 := hT5.ext hm6
  have hd6 := hP6.d
  clear e0 e1 e2
  have e0 := hT6.cell' (i := 0) rfl
  have e1 := hT6.cell' (i := 1) rfl
  have e2 := hT6.cell' (i := 2) rfl
  have zA := hmA.size
  have z1 := hm1.size
  have z3 := hm3.size
  have z4 := hm4.size
  have zB := hmB.size
  have z6 := hm6.size
  have hO36 := ((hO3.ext hm4).ext hmB).ext hm6
  have hO46 := (hO4.ext hmB).ext hm6
  refine wpT_gq (gi := 43) rfl rfl rfl rfl rfl (fun K hK => ?_)
  go_wp2_with fail
  refine wpT_n rfl rfl (fun K hK => ?_)
  go_wp2_with fail
  refine wpT_nil ?_
  go_wp2_with (first
                | (with_reducible refine st_bslice ?_)
                | (go_at_call 10; (with_reducible refine (IM _ hd6).mono ?_); rintro e w7 ⟨i7, d7, rfl, hO7, hd7, hm7⟩; obtain ⟨ao7, cap7, rfl, _, _⟩ := hO7.ow.sl.form))
  refine StopOp.go rfl fun K hK => ?_
  refine wp_bslice stRR [.slice ao3 d3.length cap3, .slice ao7 d7.length cap7] rfl (by decide) (by rfl) (by simp [Value.cells]) ?_
  intro zb w8 hz1 hz2 hm8 hB8
  simp only [put_some, List.set_cons_succ, List.set_cons_zero]
  refine hK _ _ ?_
  clear hK K
  have z7 := hm7.size
  have z8 := hm8.size
  have hB8' : Blk w8 zb 38 [.slice ao3 d3.length cap3, .slice ao7 d7.length cap7] := hB8
  have hO38 := ((hO36.ext hm7).ext hm8)
  have hO78 := (hO7.ext hm8).weak (c := xa.heap.size) (by omega)
  have q3 := HDQ.out d3 (hd3.trans HD.out)
  have q7 := HDQ.out d7 (hd7.trans HD.out)
  have AR := apartRows_any d3 d7 _ _ xa.heap.size zb w8 hO38 hO78 hB8' (fun b hb hb2 => by have := Ow.lt hO36.ow b hb; have := hO7.nw b hb2; omega)
    (fun r hr s hs b hb hb2 => by have := Ow.lt (hO36.fam.ob r hr).1 b hb; have := (hO7.fam.ob s hs).2 b hb2; omega) q3.1 q7.1 q3.2 q7.2
  have hP8 := (hP6.ext hm7).ext hm8
  have hT8 := (hT6.ext hm7).ext hm8
  have hR8 := (hO46.ext hm7).ext hm8
  go_wp2_with (first
                | (go_at_call 60; (with_reducible refine (AR).mono ?_); rintro e w9 ⟨rfl, X, hm9, hX⟩; have hXx : ∀ b ∈ X, (xa.heap.size ≤ b ∧ b < w3.heap.size) ∨ w6.heap.size ≤ b := (fun b hb => (hX b hb).elim (fun h => .inl ⟨hO3.nw b h, Ow.lt hO3.ow b h⟩) (fun h => h.elim (fun h => .inr (hO7.nw b h)) (fun ⟨r, hr, h⟩ => (List.mem_append.1 hr).elim (fun hr => .inl ⟨(hO3.fam.ob r hr).2 b h, Ow.lt (hO3.fam.ob r hr).1 b h⟩) (fun hr => .inr ((hO7.fam.ob r hr).2 b h))))); have hd9 := hP8.d.keep hm9 (fun k hk hh => by have := hP2.d.lt k hk; rcases hXx k hh with h | h <;> omega); have hT9 := hT8.mod hm9 (fun hh => by have := hT2.lt; have := hT1.lt; rcases hXx t hh with h | h <;> omega); have c0' := hT9.cell' (i := 0) rfl; have hR9 : RowsR w9 (.slice ao4 d4.length cap4) d4 := ⟨Sl.mod hR8.r.1 hm9 (fun b hb hh => by have h1 := hO4.nw b hb; have h2 := Ow.lt hO4.ow b hb; rcases hXx b hh with h | h <;> omega), fun r hr => Sl.mod (hR8.r.2 r hr) hm9 (fun b hb hh => by have h1 := (hO4.fam.ob r hr).2 b hb; have h2 := Ow.lt (hO4.fam.ob r hr).1 b hb; rcases hXx b hh with h | h <;> omega)⟩)
                | (go_at_call 10; (with_reducible refine (IM _ hd9).mono ?_); rintro e w10 ⟨i10, d10, rfl, hO10, hd10, hm10⟩; obtain ⟨ao10, cap10, rfl, _, _⟩ := hO10.ow.sl.form; have hR10 := hO10.r; have hR9' := hR9.ext hm10)
                | (go_at_call 14; (with_reducible refine (sameRows_yes d10 d4 _ _ _ hR10 hR9' (hd10.trans hd4.symm)).mono ?_); rintro e w11 ⟨rfl, hm11⟩))
  go_ret
  have hm08 : Mod [] w w8 := (((((((hm1.ext hmA).ext hm3).ext hm4).ext hmB).ext hm6).ext hm7).ext hm8)
  exact ⟨rfl, ((hm08.fresh hm9 (fun b hb => by rcases hXx b hb with h | h <;> omega)).ext hm10).ext hm11⟩
end Go.Proofs.YtdmnogmhnhjdgaaGreat
