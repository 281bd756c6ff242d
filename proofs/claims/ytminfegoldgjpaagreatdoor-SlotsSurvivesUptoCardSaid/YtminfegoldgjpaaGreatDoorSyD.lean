import Derived.Test.YtminfegoldgjpaaGreatDoorSyC
set_option linter.unusedVariables false
set_option linter.unusedSimpArgs false
set_option maxRecDepth 100000
namespace Go.Proofs.YtminfegoldgjpaaGreatDoor
open Go.RowKit Gw
set_option maxRecDepth 1000000 in
set_option maxHeartbeats 8000000 in
theorem salike_any (W w : World) (x p q P Q s r : Nat) (v : Pv) (L M : List Nat) (O : List (Nat × TypeId × List Value)) (B : Bw W w p q P Q v v L M O)
   (hx : (x, 37, [.pointer (some ⟨p, 0, none⟩), .pointer (some ⟨s, 0, none⟩), .pointer (some ⟨P, 0, none⟩), .pointer (some ⟨r, 0, none⟩)]) ∈ O) :
   Calls Tryz.prog 18 #[.pointer (some ⟨x, 0, none⟩)] w fun e w' => e = .returned (.bool true) ∧ Mod [] w w' := by
 have hN2 := B.D.ok.m.n2
 have hS2 := B.D.ok.m.s2
 have hdl := B.D.ok.m.d
 have hX : Blk w x 37 [.pointer (some ⟨p, 0, none⟩), .pointer (some ⟨s, 0, none⟩), .pointer (some ⟨P, 0, none⟩), .pointer (some ⟨r, 0, none⟩)] := (B.O _ hx).2.2.2
 have D := B.D
 have E := B.E
 clear B hx
 have IM := fun w h => pImage_any p q v L w h
 have IQ := fun w h => qImage_any P Q v M w h
 unfold ImgPost at IM IQ
 have WA := fun w h => pWaiting_any p q v L w h
 have WAq := fun w h => qWaiting_any P Q v M w h
 have DO := fun w h => pDown_any p q v w h
 have DOq := fun w h => qDown_any P Q v w h
 have CO := fun w h => pCount_any p q v w h
 have COq := fun w h => qCount_any P Q v w h
 obtain ⟨x3, h3⟩ : ∃ x, x = v.m.row.length := ⟨_, rfl⟩
 obtain ⟨x4, h4⟩ : ∃ x, x = v.off := ⟨_, rfl⟩
 obtain ⟨x5, h5⟩ : ∃ x, x = v.n := ⟨_, rfl⟩
 simp only [← h3] at WA WAq
 simp only [← h4] at DO DOq
 simp only [← h5] at CO COq
 have hdq : ∀ dq : List (Value × List UInt8), dq.map (·.2) = v.m.dur → dq.length ≤ 70000 ∧ ∀ r ∈ dq, r.2.length ≤ 1000000 := fun dq hd => ⟨by
   have := congrArg List.length hd
   rw [List.length_map] at this
   omega, fun r hr => by
   have h := hdl r.2 (hd ▸ List.mem_map.2 ⟨r, hr, rfl⟩)
   omega⟩
 clear h3 h4 h5 hdq hdl hN2 hS2
 obtain ⟨DD, hD⟩ : ∃ D, D = v.m.dur := ⟨_, rfl⟩
 rw [← hD] at IM IQ
 have HD := Lib.hid hD
 clear hD
 go_enter Tryz.func18, Tryz.ntmps18
 go_wp2_with fail
 refine wp_region_T [⟨0, true, []⟩, ⟨1, true, []⟩, ⟨2, true, []⟩, ⟨3, true, []⟩, ⟨5, true, []⟩, ⟨6, true, []⟩, ⟨7, true, []⟩, ⟨8, true, []⟩, ⟨4, false, [6, 8]⟩, ⟨9, false, []⟩, ⟨10, true, []⟩, ⟨11, true, []⟩, ⟨12, true, []⟩, ⟨13, true, []⟩, ⟨14, true, []⟩, ⟨15, true, []⟩, ⟨17, true, []⟩, ⟨18, true, []⟩, ⟨19, true, []⟩, ⟨20, true, []⟩, ⟨16, false, [18, 20]⟩, ⟨21, false, []⟩, ⟨22, true, []⟩, ⟨23, true, []⟩, ⟨24, true, []⟩, ⟨25, true, []⟩, ⟨26, true, []⟩, ⟨27, true, []⟩, ⟨28, true, []⟩, ⟨30, true, []⟩, ⟨31, true, []⟩, ⟨32, true, []⟩, ⟨33, true, []⟩, ⟨29, false, [31, 33]⟩, ⟨34, false, []⟩, ⟨35, true, []⟩, ⟨36, true, []⟩, ⟨37, true, []⟩, ⟨38, true, []⟩, ⟨39, true, []⟩, ⟨40, true, []⟩, ⟨41, true, []⟩, ⟨43, true, []⟩, ⟨44, true, []⟩, ⟨45, true, []⟩, ⟨46, true, []⟩, ⟨42, false, [44, 46]⟩, ⟨47, false, []⟩, ⟨48, false, []⟩, ⟨49, true, []⟩, ⟨50, true, []⟩] (by kernel_rfl) (by kernel_rfl) ?_
 have hmA := Mod.drew [] w
 obtain ⟨xa, hxa⟩ : ∃ xa, xa = w.drew := ⟨_, rfl⟩
 rw [← hxa] at hmA ⊢
 clear hxa
 have hX2 := hX.ext hmA
 have D2 := D.ext hmA
 have E2 := E.ext hmA
 have hdb := D2.b
 have heb := E2.b
 have e0 := hX2.cell' (i := 0) rfl
 have e2 := hX2.cell' (i := 2) rfl
 iterate 8 (refine wpT_n rfl rfl (fun K hK => ?_); go_wp2_with fail)
 refine wpT_callh rfl rfl (fun K hK => ?_)
 go_wp2_with (go_at_call 60; (with_reducible refine (CO _ hdb).mono ?_); rintro e w6 ⟨rfl, rfl⟩)
 refine ⟨agains_same, ?_⟩
 refine wpT_call rfl rfl (fun K hK => ?_)
 go_wp2_with (go_at_call 61; (with_reducible refine (COq _ heb).mono ?_); rintro e w6 ⟨rfl, rfl⟩)
 iterate 2 (refine wpT_n rfl rfl (fun K hK => ?_); go_wp2_with fail)
 iterate 8 (refine wpT_gq (gi := 11) rfl rfl rfl rfl rfl (fun K hK => ?_); go_wp2_with fail)
 refine wpT_gcallh (gi := 11) rfl rfl rfl rfl (fun K hK => ?_)
 go_wp2_with (go_at_call 62; (with_reducible refine (DO _ hdb).mono ?_); rintro e w6 ⟨rfl, rfl⟩)
 refine ⟨agains_same, ?_⟩
 refine wpT_gcall (gi := 11) rfl rfl rfl rfl (fun K hK => ?_)
 go_wp2_with (go_at_call 63; (with_reducible refine (DOq _ heb).mono ?_); rintro e w6 ⟨rfl, rfl⟩)
 refine wpT_gq (gi := 11) rfl rfl rfl rfl rfl (fun K hK => ?_)
 go_wp2_with fail
 iterate 2 (refine wpT_n rfl rfl (fun K hK => ?_); go_wp2_with fail)
 iterate 8 (refine wpT_gq (gi := 24) rfl rfl rfl rfl rfl (fun K hK => ?_); go_wp2_with fail)
 refine wpT_gcallh (gi := 24) rfl rfl rfl rfl (fun K hK => ?_)
 go_wp2_with (go_at_call 64; (with_reducible refine (WA _ D2).mono ?_); rintro e w6 ⟨rfl, rfl⟩)
 refine ⟨agains_same, ?_⟩
 refine wpT_gcall (gi := 24) rfl rfl rfl rfl (fun K hK => ?_)
 go_wp2_with (go_at_call 65; (with_reducible refine (WAq _ E2).mono ?_); rintro e w6 ⟨rfl, rfl⟩)
 refine wpT_gq (gi := 24) rfl rfl rfl rfl rfl (fun K hK => ?_)
 go_wp2_with fail
 iterate 2 (refine wpT_n rfl rfl (fun K hK => ?_); go_wp2_with fail)
 iterate 8 (refine wpT_gq (gi := 37) rfl rfl rfl rfl rfl (fun K hK => ?_); go_wp2_with fail)
 refine wpT_gcallh (gi := 37) rfl rfl rfl rfl (fun K hK => ?_)
 go_wp2_with (go_at_call 67; (with_reducible refine (IM _ D2).mono ?_); rintro e w3 ⟨i3, d3, rfl, hO3, hd3, hm3⟩)
 refine ⟨agains_cons rfl (again_const (fun _ => rfl)) (agains_cons rfl (again_load rfl rfl (hm3.block x hX2.lt (by simp)) hX2.kinds) agains_nil), ?_⟩
 have E3 := E2.ext hm3
 refine wpT_gcall (gi := 37) rfl rfl rfl rfl (fun K hK => ?_)
 go_wp2_with (go_at_call 68; (with_reducible refine (IQ _ E3).mono ?_); rintro e w4 ⟨i4, d4, rfl, hO4, hd4, hm4⟩)
 obtain ⟨ao3, cap3, rfl, _, _⟩ := hO3.ow.sl.form
 obtain ⟨ao4, cap4, rfl, _, _⟩ := hO4.ow.sl.form
 have hRA := (hO3.ext hm4).r
 have hRB := hO4.r
 refine wpT_gcall (gi := 37) rfl rfl rfl rfl (fun K hK => ?_)
 go_wp2_with (go_at_call 66; (with_reducible refine (sameRows_yes d3 d4 _ _ _ hRA hRB (hd3.trans hd4.symm)).mono ?_); rintro e w5 ⟨rfl, hm5⟩)
 iterate 2 (refine wpT_n rfl rfl (fun K hK => ?_); go_wp2_with fail)
 refine wpT_nil ?_
 go_wp2_with fail
 go_ret
 exact ⟨rfl, ((hmA.ext hm3).ext hm4).ext hm5⟩
end Go.Proofs.YtminfegoldgjpaaGreatDoor
