import Derived.Test.YtminfegoldgjpaaGreatDoorSwH
import Derived.Test.YtminfegoldgjpaaGreatDoorGRh
set_option linter.unusedVariables false
set_option linter.unusedSimpArgs false
set_option maxRecDepth 100000
namespace Go.Proofs.YtminfegoldgjpaaGreatDoor
open Go.RowKit Gw
def Slr (w : World) (r h k : Nat) : Prop := Blk w r 157 [.pointer (some ⟨h, 0, none⟩), .pointer (some ⟨k, 0, none⟩)]
theorem Slr.ext {w w' : World} {r h k : Nat} (H : Slr w r h k) (hm : Mod [] w w') : Slr w' r h k := Blk.ext H hm
theorem Slr.mod {w w' : World} {r h k : Nat} {G : List Nat} (H : Slr w r h k) (hm : Mod G w w') (hr : r ∉ G) : Slr w' r h k := Blk.mod H hm hr
set_option maxHeartbeats 4000000 in
theorem rsBytes_any (r h k P Q f0 c z : Nat) (u : Pv) (M : List Nat) (w : World) (H : Slr w r h k) (hH : Rgr w h P f0 c) (hE : Pr w P Q u M) (hz : u.m.sz = z) (hb : c * z ≤ 1000000) (hz2 : z ≤ 1000000) :
   Calls Tryz.prog 36 #[.pointer (some ⟨r, 0, none⟩)] w fun e w' => e = .returned (.int .i64 ((c * z : Nat) - (z : Nat))) ∧ Mod [] w w' := by
 have BY := fun w hR hP => hBytes_any h P Q f0 c z u M w hR hP hz (by omega)
 have SI := fun w h => qSize_any P Q u M w h
 simp only [hz] at SI
 obtain ⟨B, hB⟩ : ∃ B, B = c * z := ⟨_, rfl⟩
 rw [← hB] at hb BY ⊢
 clear hB hz
 have y0 : (B : Int) ≤ 1000000 := by omega
 have y1 : (z : Int) ≤ 1000000 := by omega
 go_enter Tryz.func36, Tryz.ntmps36
 go_wp2_with fail
 refine wp_region_T [⟨0, true, []⟩, ⟨1, true, []⟩, ⟨2, true, []⟩, ⟨3, true, []⟩, ⟨5, true, []⟩, ⟨6, true, []⟩, ⟨7, true, []⟩, ⟨8, true, []⟩, ⟨9, true, []⟩, ⟨10, true, []⟩, ⟨11, true, []⟩, ⟨4, false, [6, 8, 9, 11]⟩, ⟨12, false, []⟩, ⟨13, true, []⟩, ⟨14, true, []⟩] (by kernel_rfl) (by kernel_rfl) ?_
 have hm1 := Mod.drew [] w
 obtain ⟨x, hx1⟩ : ∃ x, x = w.drew := ⟨_, rfl⟩
 rw [← hx1] at hm1 ⊢
 clear hx1
 have H1 := H.ext hm1
 have hH1 := hH.ext hm1
 have hE1 := hE.ext hm1
 have c0 := Blk.cell' H1 (i := 0) rfl
 have c1 := Blk.cell' hH1 (i := 0) rfl
 iterate 11 (refine wpT_n rfl rfl (fun K hK => ?_); go_wp2_with fail)
 refine wpT_callh rfl rfl (fun K hK => ?_)
 go_wp2_with (go_at_call 85; (with_reducible refine (BY _ hH1 hE1).mono ?_); rintro e w2 ⟨rfl, hm2⟩)
 have hE2 := hE1.ext hm2
 refine ⟨agains_cons rfl (again_const (fun _ => rfl)) (agains_cons rfl (again_load rfl rfl (hm2.block r (Blk.lt H1) (by simp)) (Blk.kinds H1)) (agains_cons rfl (again_const (fun _ => rfl)) (agains_cons rfl (again_load rfl rfl (hm2.block h (Blk.lt hH1) (by simp)) (Blk.kinds hH1)) agains_nil))), ?_⟩
 refine wpT_call rfl rfl (fun K hK => ?_)
 go_wp2_with (go_at_call 76; (with_reducible refine (SI _ hE2).mono ?_); rintro e w3 ⟨rfl, rfl⟩)
 iterate 2 (refine wpT_n rfl rfl (fun K hK => ?_); go_wp2_with fail)
 refine wpT_nil ?_
 go_wp2_with fail
 go_ret
 exact ⟨rfl, hm1.ext hm2⟩
set_option maxRecDepth 1000000 in
set_option maxHeartbeats 8000000 in
theorem rsnew_any (h k P Q f0 c0 f1 c1 z : Nat) (u : Pv) (M : List Nat) (w : World) (hH : Rgr w h P f0 c0) (hK0 : Rgr w k P f1 c1) (hE : Pr w P Q u M) (hz : u.m.sz = z) (h0 : 1 ≤ c0 ∧ c0 ≤ 16) (h1 : 1 ≤ c1 ∧ c1 ≤ 16) (hz1 : 1 ≤ z ∧ z ≤ 4096) :
   Calls Tryz.prog 35 #[.pointer (some ⟨h, 0, none⟩), .pointer (some ⟨k, 0, none⟩)] w fun e w' => ∃ r, e = .returned (.tuple #[.pointer (some ⟨r, 0, none⟩), .int .i64 (if c0 = c1 ∧ 2 ≤ c0 then 0 else 2)]) ∧ Slr w' r h k ∧ w.heap.size ≤ r ∧ Mod [] w w' := by
 have hz0 : 1 * 1 ≤ c0 * z := Nat.mul_le_mul h0.1 hz1.1
 have hw0 : c0 * z ≤ 16 * 4096 := Nat.mul_le_mul h0.2 hz1.2
 have hw1 : c1 * z ≤ 16 * 4096 := Nat.mul_le_mul h1.2 hz1.2
 have BA := fun w hR hP => hBytes_any h P Q f0 c0 z u M w hR hP hz (by omega)
 have BB := fun w hR hP => hBytes_any k P Q f1 c1 z u M w hR hP hz (by omega)
 have SI := fun w h => qSize_any P Q u M w h
 simp only [hz] at SI
 have hne : c0 * z = c1 * z ↔ c0 = c1 := ⟨fun h => Nat.eq_of_mul_eq_mul_right (by omega) h, fun h => by rw [h]⟩
 obtain ⟨X, hX⟩ : ∃ X, X = c0 * z := ⟨_, rfl⟩
 obtain ⟨Y, hY⟩ : ∃ X, X = c1 * z := ⟨_, rfl⟩
 rw [← hX] at hw0 BA hne
 rw [← hY] at hw1 BB hne
 have y3 : (X : Int) ≤ 65536 := by omega
 have y4 : (Y : Int) ≤ 65536 := by omega
 have y5 : (z : Int) ≤ 4096 := by omega
 have y6 : (c0 : Int) ≤ 16 := by omega
 clear hX hY hz0 hw0 hw1 hz1 h1 hz
 by_cases hXY : X = Y
 · have hc : c0 = c1 := hne.1 hXY
   subst hXY
   have d3 : ((X : Int) != (X : Int)) = false := by simp
   have d4 : ((z : Int) != (z : Int)) = false := by simp
   by_cases hl : c0 < 2
   · have y7 : (c0 : Int) < 2 := by omega
     have hc2 : ¬ (c0 = c1 ∧ 2 ≤ c0) := fun h => by omega
     rw [if_neg hc2]
     have HC := Lib.hid hc2
     clear hc hc2 hne h0
     go_enter Tryz.func35, Tryz.ntmps35
     go_wp2_with (with_reducible refine st_box ?_)
     refine StopOp.go rfl fun K hK => ?_
     refine wp_box (v := .agg #[.pointer (some ⟨h, 0, none⟩), .pointer (some ⟨k, 0, none⟩)]) (by rfl) ?_
     intro r w1 hr1 hr2 hm0 hR1
     simp only [put_some, List.set_cons_succ, List.set_cons_zero]
     refine hK _ _ ?_
     clear hK K
     have hR : Slr w1 r h k := hR1
     have hH0 := hH.ext hm0
     have hK1 := hK0.ext hm0
     have hE0 := hE.ext hm0
     clear hR1
     go_wp2_with fail
     refine wp_region_T [⟨0, true, []⟩, ⟨2, true, []⟩, ⟨1, false, []⟩, ⟨3, false, []⟩, ⟨4, true, []⟩, ⟨5, true, []⟩, ⟨6, true, []⟩, ⟨7, true, []⟩, ⟨8, true, []⟩, ⟨9, true, []⟩, ⟨11, true, []⟩, ⟨12, true, []⟩, ⟨13, true, []⟩, ⟨14, true, []⟩, ⟨10, false, [12, 14]⟩, ⟨15, false, []⟩, ⟨16, true, []⟩, ⟨17, true, []⟩, ⟨18, true, []⟩, ⟨19, true, []⟩, ⟨20, true, []⟩, ⟨21, true, []⟩, ⟨22, true, []⟩, ⟨23, true, []⟩, ⟨24, true, []⟩, ⟨25, true, []⟩] (by kernel_rfl) (by kernel_rfl) ?_
     have hm1 := Mod.drew [] w1
     obtain ⟨x, hx1⟩ : ∃ x, x = w1.drew := ⟨_, rfl⟩
     rw [← hx1] at hm1 ⊢
     clear hx1
     have hHx := hH0.ext hm1
     have hKx := hK1.ext hm1
     have hEx := hE0.ext hm1
     iterate 2 (refine wpT_n rfl rfl (fun K hK => ?_); go_wp2_with fail)
     refine wpT_call rfl rfl (fun K hK => ?_)
     go_wp2_with (go_at_call 85; (with_reducible refine (BA _ hHx hEx).mono ?_); rintro e w2 ⟨rfl, hm2⟩)
     have hKy := hKx.ext hm2
     have hEy := hEx.ext hm2
     have hHy := hHx.ext hm2
     refine wpT_call rfl rfl (fun K hK => ?_)
     go_wp2_with (go_at_call 85; (with_reducible refine (BB _ hKy hEy).mono ?_); rintro e w3 ⟨rfl, hm3⟩)
     have hKz := hKy.ext hm3
     have hEz := hEy.ext hm3
     have hHz := hHy.ext hm3
     have hall := ((hm0.ext hm1).ext hm2).ext hm3
     have hRz := ((hR.ext hm1).ext hm2).ext hm3
     have d0 := Blk.cell' hHz (i := 0) rfl
     have d1 := Blk.cell' hKz (i := 0) rfl
     have d2 := Blk.cell' hHz (i := 2) rfl
     iterate 2 (refine wpT_n rfl rfl (fun K hK => ?_); go_wp2_with fail)
     iterate 8 (refine wpT_gq (gi := 5) rfl rfl rfl rfl rfl (fun K hK => ?_); go_wp2_with fail)
     refine wpT_gcallh (gi := 5) rfl rfl rfl rfl (fun K hK => ?_)
     go_wp2_with (go_at_call 76; (with_reducible refine (SI _ hEz).mono ?_); rintro e w4 ⟨rfl, rfl⟩)
     refine ⟨agains_same, ?_⟩
     refine wpT_gcall (gi := 5) rfl rfl rfl rfl (fun K hK => ?_)
     go_wp2_with (go_at_call 76; (with_reducible refine (SI _ hEz).mono ?_); rintro e w4 ⟨rfl, rfl⟩)
     refine wpT_gq (gi := 5) rfl rfl rfl rfl rfl (fun K hK => ?_)
     go_wp2_with fail
     iterate 2 (refine wpT_n rfl rfl (fun K hK => ?_); go_wp2_with fail)
     iterate 6 (refine wpT_gq (gi := 18) rfl rfl rfl rfl rfl (fun K hK => ?_); go_wp2_with fail)
     refine wpT_n rfl rfl (fun K hK => ?_)
     go_wp2_with fail
     refine wpT_nil ?_
     go_wp2_with fail
     go_ret2
     exact ⟨r, rfl, hRz, hr1, hall⟩
   · have y7 : (2 : Int) ≤ c0 := by omega
     have hc2 : c0 = c1 ∧ 2 ≤ c0 := ⟨hc, by omega⟩
     rw [if_pos hc2]
     have HC := Lib.hid hc2
     clear hc hc2 hne h0
     go_enter Tryz.func35, Tryz.ntmps35
     go_wp2_with (with_reducible refine st_box ?_)
     refine StopOp.go rfl fun K hK => ?_
     refine wp_box (v := .agg #[.pointer (some ⟨h, 0, none⟩), .pointer (some ⟨k, 0, none⟩)]) (by rfl) ?_
     intro r w1 hr1 hr2 hm0 hR1
     simp only [put_some, List.set_cons_succ, List.set_cons_zero]
     refine hK _ _ ?_
     clear hK K
     have hR : Slr w1 r h k := hR1
     have hH0 := hH.ext hm0
     have hK1 := hK0.ext hm0
     have hE0 := hE.ext hm0
     clear hR1
     go_wp2_with fail
     refine wp_region_T [⟨0, true, []⟩, ⟨2, true, []⟩, ⟨1, false, []⟩, ⟨3, false, []⟩, ⟨4, true, []⟩, ⟨5, true, []⟩, ⟨6, true, []⟩, ⟨7, true, []⟩, ⟨8, true, []⟩, ⟨9, true, []⟩, ⟨11, true, []⟩, ⟨12, true, []⟩, ⟨13, true, []⟩, ⟨14, true, []⟩, ⟨10, false, [12, 14]⟩, ⟨15, false, []⟩, ⟨16, true, []⟩, ⟨17, true, []⟩, ⟨18, true, []⟩, ⟨19, true, []⟩, ⟨20, true, []⟩, ⟨21, true, []⟩, ⟨22, true, []⟩, ⟨23, true, []⟩, ⟨24, true, []⟩, ⟨25, true, []⟩] (by kernel_rfl) (by kernel_rfl) ?_
     have hm1 := Mod.drew [] w1
     obtain ⟨x, hx1⟩ : ∃ x, x = w1.drew := ⟨_, rfl⟩
     rw [← hx1] at hm1 ⊢
     clear hx1
     have hHx := hH0.ext hm1
     have hKx := hK1.ext hm1
     have hEx := hE0.ext hm1
     iterate 2 (refine wpT_n rfl rfl (fun K hK => ?_); go_wp2_with fail)
     refine wpT_call rfl rfl (fun K hK => ?_)
     go_wp2_with (go_at_call 85; (with_reducible refine (BA _ hHx hEx).mono ?_); rintro e w2 ⟨rfl, hm2⟩)
     have hKy := hKx.ext hm2
     have hEy := hEx.ext hm2
     have hHy := hHx.ext hm2
     refine wpT_call rfl rfl (fun K hK => ?_)
     go_wp2_with (go_at_call 85; (with_reducible refine (BB _ hKy hEy).mono ?_); rintro e w3 ⟨rfl, hm3⟩)
     have hKz := hKy.ext hm3
     have hEz := hEy.ext hm3
     have hHz := hHy.ext hm3
     have hall := ((hm0.ext hm1).ext hm2).ext hm3
     have hRz := ((hR.ext hm1).ext hm2).ext hm3
     have d0 := Blk.cell' hHz (i := 0) rfl
     have d1 := Blk.cell' hKz (i := 0) rfl
     have d2 := Blk.cell' hHz (i := 2) rfl
     iterate 2 (refine wpT_n rfl rfl (fun K hK => ?_); go_wp2_with fail)
     iterate 8 (refine wpT_gq (gi := 5) rfl rfl rfl rfl rfl (fun K hK => ?_); go_wp2_with fail)
     refine wpT_gcallh (gi := 5) rfl rfl rfl rfl (fun K hK => ?_)
     go_wp2_with (go_at_call 76; (with_reducible refine (SI _ hEz).mono ?_); rintro e w4 ⟨rfl, rfl⟩)
     refine ⟨agains_same, ?_⟩
     refine wpT_gcall (gi := 5) rfl rfl rfl rfl (fun K hK => ?_)
     go_wp2_with (go_at_call 76; (with_reducible refine (SI _ hEz).mono ?_); rintro e w4 ⟨rfl, rfl⟩)
     refine wpT_gq (gi := 5) rfl rfl rfl rfl rfl (fun K hK => ?_)
     go_wp2_with fail
     iterate 2 (refine wpT_n rfl rfl (fun K hK => ?_); go_wp2_with fail)
     iterate 6 (refine wpT_gq (gi := 18) rfl rfl rfl rfl rfl (fun K hK => ?_); go_wp2_with fail)
     refine wpT_n rfl rfl (fun K hK => ?_)
     go_wp2_with fail
     refine wpT_nil ?_
     go_wp2_with fail
     go_ret2
     exact ⟨r, rfl, hRz, hr1, hall⟩
 · have d3 : ((X : Int) != (Y : Int)) = true := by rw [bne_iff_ne]; omega
   have hc2 : ¬ (c0 = c1 ∧ 2 ≤ c0) := fun h => hXY (hne.2 h.1)
   rw [if_neg hc2]
   have HC := Lib.hid hc2
   clear hXY hc2 hne h0
   go_enter Tryz.func35, Tryz.ntmps35
   go_wp2_with (with_reducible refine st_box ?_)
   refine StopOp.go rfl fun K hK => ?_
   refine wp_box (v := .agg #[.pointer (some ⟨h, 0, none⟩), .pointer (some ⟨k, 0, none⟩)]) (by rfl) ?_
   intro r w1 hr1 hr2 hm0 hR1
   simp only [put_some, List.set_cons_succ, List.set_cons_zero]
   refine hK _ _ ?_
   clear hK K
   have hR : Slr w1 r h k := hR1
   have hH0 := hH.ext hm0
   have hK1 := hK0.ext hm0
   have hE0 := hE.ext hm0
   clear hR1
   go_wp2_with fail
   refine wp_region_T [⟨0, true, []⟩, ⟨2, true, []⟩, ⟨1, false, []⟩, ⟨3, false, []⟩, ⟨4, true, []⟩, ⟨5, true, []⟩, ⟨6, true, []⟩, ⟨7, true, []⟩, ⟨8, true, []⟩, ⟨9, true, []⟩, ⟨11, true, []⟩, ⟨12, true, []⟩, ⟨13, true, []⟩, ⟨14, true, []⟩, ⟨10, false, [12, 14]⟩, ⟨15, false, []⟩, ⟨16, true, []⟩, ⟨17, true, []⟩, ⟨18, true, []⟩, ⟨19, true, []⟩, ⟨20, true, []⟩, ⟨21, true, []⟩, ⟨22, true, []⟩, ⟨23, true, []⟩, ⟨24, true, []⟩, ⟨25, true, []⟩] (by kernel_rfl) (by kernel_rfl) ?_
   have hm1 := Mod.drew [] w1
   obtain ⟨x, hx1⟩ : ∃ x, x = w1.drew := ⟨_, rfl⟩
   rw [← hx1] at hm1 ⊢
   clear hx1
   have hHx := hH0.ext hm1
   have hKx := hK1.ext hm1
   have hEx := hE0.ext hm1
   iterate 2 (refine wpT_n rfl rfl (fun K hK => ?_); go_wp2_with fail)
   refine wpT_call rfl rfl (fun K hK => ?_)
   go_wp2_with (go_at_call 85; (with_reducible refine (BA _ hHx hEx).mono ?_); rintro e w2 ⟨rfl, hm2⟩)
   have hKy := hKx.ext hm2
   have hEy := hEx.ext hm2
   have hHy := hHx.ext hm2
   refine wpT_call rfl rfl (fun K hK => ?_)
   go_wp2_with (go_at_call 85; (with_reducible refine (BB _ hKy hEy).mono ?_); rintro e w3 ⟨rfl, hm3⟩)
   have hKz := hKy.ext hm3
   have hEz := hEy.ext hm3
   have hHz := hHy.ext hm3
   have hall := ((hm0.ext hm1).ext hm2).ext hm3
   have hRz := ((hR.ext hm1).ext hm2).ext hm3
   have d0 := Blk.cell' hHz (i := 0) rfl
   have d1 := Blk.cell' hKz (i := 0) rfl
   have d2 := Blk.cell' hHz (i := 2) rfl
   iterate 2 (refine wpT_n rfl rfl (fun K hK => ?_); go_wp2_with fail)
   iterate 11 (refine wpT_gk (gi := 5) rfl rfl rfl rfl rfl rfl (fun K hK => ?_); go_wp2_with fail)
   iterate 2 (refine wpT_n rfl rfl (fun K hK => ?_); go_wp2_with fail)
   iterate 6 (refine wpT_gk (gi := 18) rfl rfl rfl rfl rfl rfl (fun K hK => ?_); go_wp2_with fail)
   refine wpT_n rfl rfl (fun K hK => ?_)
   go_wp2_with fail
   refine wpT_nil ?_
   go_wp2_with fail
   go_ret2
   exact ⟨r, rfl, hRz, hr1, hall⟩
end Go.Proofs.YtminfegoldgjpaaGreatDoor
