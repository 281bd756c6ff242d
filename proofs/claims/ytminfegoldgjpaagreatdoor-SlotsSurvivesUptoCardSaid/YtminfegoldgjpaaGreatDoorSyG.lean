import Derived.Test.YtminfegoldgjpaaGreatDoorSyF
import Derived.Test.YtminfegoldgjpaaGreatDoorFilS
set_option linter.unusedVariables false
set_option linter.unusedSimpArgs false
set_option maxRecDepth 100000
namespace Go.Proofs.YtminfegoldgjpaaGreatDoor
open Go.RowKit Gw
def bodS (c : Nat) (o : Sop) : List UInt8 := filS o.x (pick o.l ((c : Int) * 64 - 64 + 2)).toNat
set_option maxRecDepth 1000000 in
set_option maxHeartbeats 20000000 in
theorem does0_any (W w : World) (x p q P Q s r a b h k f0 f1 c : Nat) (v : Pv) (L M : List Nat) (o : Sop) (ho : OkSop W o) (hk : pick o.d 7 = 0) (B : Bw W w p q P Q v v L M (osB x p P s r a b h k f0 f1 c)) (hT0 : TabC W) (hz : v.m.sz = 64) (hd : v.m.dur.length = 10) (hn : v.n ≤ 900000) (hr : v.m.row.length ≤ 900000) (hc : 2 ≤ c) (hc4 : c ≤ 4) (h0 : f0 + c ≤ 10) (h1 : f1 + c ≤ 10) :
   Calls Tryz.prog 17 #[.pointer (some ⟨x, 0, none⟩), o.val] w (DoesP W p q P Q (osB x p P s r a b h k f0 f1 c) ((saveG f0 f1 c 64 v (bodS c o) o.cov).1)) := by
 obtain ⟨hF, hold, wd, wl, wx, wcov, wn, hf⟩ := ho
 obtain ⟨d, l, x_, cov, n, fv, F⟩ := o
 dsimp only at hk hF hold wd wl wx wcov wn hf
 obtain ⟨aof, capf, rfl, _, _⟩ := hF.form
 unfold Sop.val DoesP
 dsimp only
 have PK := fun w => pick_any d 7 w wd.1 wd.2 (by omega) (by omega)
 rw [hk] at PK
 clear hk
 obtain ⟨Z, hZ⟩ : ∃ Z : Int, Z = ((c * 64 : Nat) : Int) - ((64 : Nat) : Int) := ⟨_, rfl⟩
 have hZ1 : 64 ≤ Z := by omega
 have hZ2 : Z ≤ 192 := by omega
 have hZ3 : (c : Int) * 64 - 64 + 2 = Z + 2 := by omega
 unfold bodS
 dsimp only
 rw [hZ3]
 have BY := fun w S R D => rsBytes_any r h k P Q f0 c 64 v M w S R D hz (by omega) (by omega)
 rw [← hZ] at BY
 clear hZ hZ3
 have PL := fun w => pick_any l (Z + 2) w wl.1 wl.2 (by omega) (by omega)
 have g1 := pick_ge l (Z + 2)
 have g2 := pick_lt l (Z + 2) (by omega)
 obtain ⟨K, hK⟩ : ∃ K, K = (pick l (Z + 2)).toNat := ⟨_, rfl⟩
 have hK2 : pick l (Z + 2) = (K : Int) := by omega
 rw [← hK]
 rw [hK2] at PL
 have hK3 : K ≤ 193 := by omega
 clear hK hK2 g1 g2
 have FI := fun w => sfill_blk x_ K w (by omega)
 have hBl : (filS x_ K).length = K := filS_len _ _
 obtain ⟨Bd, hBd⟩ : ∃ B, B = filS x_ K := ⟨_, rfl⟩
 rw [← hBd] at FI hBl ⊢
 clear hBd
 subst hBl
 have LE := fun v w h => lent_any Bd v w h (by omega)
 have KE := fun g cap v w h hv => kept_any g cap Bd v w h hv
 have OE := fun g cap w h => over_any g cap Bd w h (by omega)
 obtain ⟨R, hR⟩ : ∃ R, R = saveG f0 f1 c 64 v Bd cov := ⟨_, rfl⟩
 have SD := fun w O (HB : Bw W w p q P Q v v L M O) (hO : ∀ y ∈ osB x p P s r a b h k f0 f1 c, y ∈ O) bw hbb hbB => HB.save hO hT0 hz hd h0 h1 hn hr Bd bw cov hbb hbB wcov
 have SE := fun w O L (HB : Bw W w p q P Q R.1 v L M O) (hO : ∀ y ∈ osB x p P s r a b h k f0 f1 c, y ∈ O) bw hbb hbB => HB.rsave hO hz hd hc4 h0 h1 hn hr Bd bw cov hbb hbB wcov
 rw [← hR]
 simp only [← hR] at SD SE
 unfold SaveB at SD
 unfold SaveE at SE
 clear hR
 obtain ⟨V, E, ⟨ng, nc, nl, ns⟩⟩ := R
 unfold Hd.v at SD SE
 dsimp only at SD SE ⊢
 have yK : (Bd.length : Int) ≤ 193 := by omega
 go_enter Tryz.func17, Tryz.ntmps17
 go_wp2_with (with_reducible refine st_box ?_)
 refine StopOp.go rfl fun K hK => ?_
 refine wp_box (v := .agg #[.int .i64 d, .int .i64 l, .int .i64 x_, .int .u64 (cov : Nat), .int .i64 n, .slice aof F.length capf]) (by rfl) ?_
 intro t w1 ht1 ht2 hm1 hT
 simp only [put_some, List.set_cons_succ, List.set_cons_zero]
 refine hK _ _ ?_
 clear hK K
 have hT1 : Blk w1 t 56 [.int .i64 d, .int .i64 l, .int .i64 x_, .int .u64 (cov : Nat), .int .i64 n, .slice aof F.length capf] := hT
 clear hT
 have B1 := B.new hm1 ht1 hT1
 clear hT1 hm1 ht2
 have d0 := (B1.blk 0 rfl).cell' (i := 0) rfl
 go_wp2_with (go_at_call 10; (with_reducible refine (PK _).mono ?_); rintro e w2 ⟨rfl, rfl⟩)
 refine wp_region_T [⟨0, true, []⟩, ⟨1, true, []⟩, ⟨2, true, []⟩, ⟨3, true, []⟩, ⟨4, true, []⟩, ⟨5, true, []⟩, ⟨6, true, []⟩, ⟨7, true, []⟩, ⟨8, false, [1, 3]⟩, ⟨9, true, []⟩, ⟨10, false, [1]⟩, ⟨11, false, []⟩, ⟨12, true, []⟩] (by kernel_rfl) (by kernel_rfl) ?_
 have hm2 := Mod.drew [] w1
 obtain ⟨w2, hx2⟩ : ∃ x, x = w1.drew := ⟨_, rfl⟩
 rw [← hx2] at hm2 ⊢
 clear hx2
 have B2 := B1.ext hm2
 have d2 := (B2.blk 0 rfl).cell' (i := 2) rfl
 have d1 := (B2.blk 0 rfl).cell' (i := 1) rfl
 have e3 := (B2.blk 1 rfl).cell' (i := 3) rfl
 have S2 : Slr w2 r h k := B2.blk 3 rfl
 have R2 : Rgr w2 h P f0 c := B2.blk 6 rfl
 have E2 := B2.E
 iterate 8 (refine wpT_n rfl rfl (fun K hK => ?_); go_wp2_with fail)
 refine wpT_callh rfl rfl (fun K hK => ?_)
 go_wp2_with (go_at_call 36; (with_reducible refine (BY _ S2 R2 E2).mono ?_); rintro e w3 ⟨rfl, hm3⟩)
 refine ⟨(agains_cons rfl (again_load rfl rfl (hm3.block _ (B2.blk 0 rfl).lt (by simp)) (B2.blk 0 rfl).kinds) (agains_cons rfl (again_load rfl rfl (hm3.block _ (B2.blk 0 rfl).lt (by simp)) (B2.blk 0 rfl).kinds) agains_nil)), ?_⟩
 have B3 := B2.ext hm3
 refine wpT_n rfl rfl (fun K hK => ?_)
 go_wp2_with fail
 refine wpT_callh rfl rfl (fun K hK => ?_)
 go_wp2_with (go_at_call 10; (with_reducible refine (PL _).mono ?_); rintro e w4 ⟨rfl, rfl⟩)
 refine ⟨agains_same, ?_⟩
 refine wpT_call rfl rfl (fun K hK => ?_)
 go_wp2_with (go_at_call 9; (with_reducible refine (FI _).mono ?_); rintro e w4 ⟨gb, rfl, hBb, hgb, hm4⟩)
 have B4 := B3.new hm4 hgb hBb
 refine wpT_n rfl rfl (fun K hK => ?_)
 go_wp2_with fail
 refine wpT_nil ?_
 go_wp2_with fail
 have hbs4 : Bs w4 (.slice (some ⟨gb, 0, none⟩) Bd.length Bd.length) Bd := Bs.of_blk (rest := []) (by rw [List.append_nil]; exact hBb) (Nat.le_refl _) (by omega)
 clear d1 d2 e3 S2 R2 E2 B2 B3 hBb hm2 hm3 FI BY PL PK d0
 go_upto_region 5 with (go_at_call 52; (with_reducible refine (LE _ _ hbs4).mono ?_); rintro e w5 ⟨gl, capl, rfl, hgl, hLt, hm5⟩)
 obtain ⟨rest, hBl, hcl, hcapl⟩ := hLt
 have B5 := B4.new hm5 hgl hBl
 have hglb : gl ≠ gb := fun e => by have := (B4.blk 0 rfl).lt; omega
 have hglO : ∀ y ∈ osB x p P s r a b h k f0 f1 c, y.1 ≠ gl := fun y hy => by have h1 := (B.O y hy).2.2.2.lt; have h2 := (B1.m.size); have h3 := ht1; have h4 := B4.m.size; have h5 := (B1.blk 0 rfl).lt; have h6 := hgl; have h7 : t < w5.heap.size := (B5.blk 2 rfl).lt; have h8 : t < w4.heap.size := (B4.blk 1 rfl).lt; omega
 have hLb : ∀ {w : World}, Blk w gl 5 (bv (Bd ++ marks 1 12) ++ rest) → Lt w gl capl Bd := fun h => ⟨rest, h, hcl, hcapl⟩
 have hLs : ∀ {w : World}, Blk w gl 5 (bv (Bd ++ marks 1 12) ++ rest) → Bs w (.slice (some ⟨gl, 0, none⟩) Bd.length capl) Bd := fun h => (hLb h).bs
 have hbsg : ∀ {w : World}, Blk w gb 5 (bv Bd) → Bs w (.slice (some ⟨gb, 0, none⟩) Bd.length Bd.length) Bd := fun h => Bs.of_blk (rest := []) (by rw [List.append_nil]; exact h) (Nat.le_refl _) (by omega)
 clear hbs4 hBl hm5 LE B4
 go_cut [7, 8] (fun u u2 wx => ∃ nz L2, u = .pointer (some ⟨nz, 0, none⟩) ∧ u2 = .int .i64 E ∧ w5.heap.size ≤ nz ∧ Bw W wx p q P Q V v L2 M ((nz, 25, [.int .u64 (ng : Nat), .int .u64 (nc : Nat), .int .i64 nl, .int .u32 (ns : Nat)]) :: (gl, 5, bv (Bd ++ marks 1 12) ++ rest) :: (gb, 5, bv Bd) :: (t, 56, [.int .i64 d, .int .i64 l, .int .i64 x_, .int .u64 (cov : Nat), .int .i64 n, .slice aof F.length capf]) :: osB x p P s r a b h k f0 f1 c))
 case first =>
   refine wp_region_T2 7 11 [⟨0, true, []⟩, ⟨1, true, []⟩, ⟨2, true, []⟩, ⟨3, true, []⟩, ⟨4, true, []⟩, ⟨5, true, []⟩, ⟨6, true, []⟩, ⟨7, false, []⟩, ⟨8, true, []⟩, ⟨9, true, []⟩, ⟨10, true, []⟩, ⟨11, false, [1, 3, 6]⟩, ⟨12, false, []⟩, ⟨13, true, []⟩] [⟨0, true, []⟩, ⟨1, true, []⟩, ⟨2, true, []⟩, ⟨3, true, []⟩, ⟨4, true, []⟩, ⟨5, true, []⟩, ⟨6, true, []⟩, ⟨11, false, [1, 3, 6]⟩, ⟨7, false, []⟩, ⟨8, true, []⟩, ⟨9, true, []⟩, ⟨10, true, []⟩, ⟨12, false, []⟩, ⟨13, true, []⟩] (by kernel_rfl) (by kernel_rfl) (by kernel_rfl) (by kernel_rfl) (by kernel_rfl) ?_ ?_
   all_goals have hmD := Mod.drew [] w5
   all_goals obtain ⟨wd, hwd⟩ : ∃ x, x = w5.drew := ⟨_, rfl⟩
   all_goals rw [← hwd] at hmD ⊢
   all_goals clear hwd
   all_goals have BD := B5.ext hmD
   all_goals have szD := hmD.size
   all_goals have e1 := (BD.blk 3 rfl).cell' (i := 1) rfl
   all_goals have d3 := (BD.blk 2 rfl).cell' (i := 3) rfl
   · iterate 7 (refine wpT_n rfl rfl (fun K hK => ?_); go_wp2_with fail)
     have hbx := hLs (BD.blk 0 rfl)
     refine wpT_call rfl rfl (fun K hK => ?_)
     go_wp2_with (go_at_call 8; (with_reducible refine (SD _ _ BD (fun y hy => by simp only [List.mem_cons]; exact .inr (.inr (.inr (hy)))) _ hbx (fun y hy => by obtain rfl := List.mem_singleton.1 hy; exact ⟨(BD.blk 0 rfl).lt, BD.outD 0 rfl⟩)).mono ?_); rintro e wS ⟨rfl, L2, BS, hmS⟩)
     have szS := hmS.size
     iterate 3 (refine wpT_n rfl rfl (fun K hK => ?_); go_wp2_with fail)
     refine wpT_e rfl rfl (fun K hK => ?_)
     refine wp_alloc zero_header ?_
     intro n wA hA1 hA2 hmA hBA
     simp only [put_some, List.set_cons_succ, List.set_cons_zero]
     refine hK _ _ ⟨(agains_cons rfl (again_const (fun _ => rfl)) (agains_cons rfl (again_load rfl rfl (hmA.block _ (BS.blk 3 rfl).lt (by simp)) (BS.blk 3 rfl).kinds) (agains_cons rfl (again_load rfl rfl (hmA.block _ (BS.blk 2 rfl).lt (by simp)) (BS.blk 2 rfl).kinds) agains_nil))), ?_⟩
     clear hK K
     refine wpT_e0 rfl rfl (fun K hK => ?_)
     refine wp_store (u := .agg #[.int .u64 (ng : Nat), .int .u64 (nc : Nat), .int .i64 nl, .int .u32 (ns : Nat)]) (by rfl) (by rfl) (by kernel_rfl) hBA (by simp [Value.cells]) (by simp [Value.cells, Value.oneCell']) ?_
     intro wT hmT hBT
     refine hK _ _ ?_
     clear hK K
     have hBT2 : Blk wT n 25 [.int .u64 (ng : Nat), .int .u64 (nc : Nat), .int .i64 nl, .int .u32 (ns : Nat)] := hBT
     refine wpT_n rfl rfl (fun K hK => ?_)
     go_wp2_with fail
     refine wpT_nil ?_
     go_wp2_with fail
     go_meet
     exact ⟨n, L2, rfl, rfl, by omega, BS.new (hmA.fresh hmT (by simpa using hA1)) hA1 hBT2⟩
   · iterate 7 (refine wpT_n rfl rfl (fun K hK => ?_); go_wp2_with fail)
     refine wpT_e rfl rfl (fun K hK => ?_)
     refine wp_alloc zero_header ?_
     intro n wA hA1 hA2 hmA hBA
     simp only [put_some, List.set_cons_succ, List.set_cons_zero]
     refine hK _ _ ⟨(agains_cons rfl (again_const (fun _ => rfl)) (agains_cons rfl (again_load rfl rfl (hmA.block _ (BD.blk 3 rfl).lt (by simp)) (BD.blk 3 rfl).kinds) (agains_cons rfl (again_load rfl rfl (hmA.block _ (BD.blk 2 rfl).lt (by simp)) (BD.blk 2 rfl).kinds) agains_nil))), ?_⟩
     clear hK K
     have hBAz : Blk wA n 25 [.int .u64 0, .int .u64 0, .int .i64 0, .int .u32 0] := hBA
     have BA := BD.new hmA hA1 hBAz
     have hbx := hLs (BA.blk 1 rfl)
     refine wpT_call rfl rfl (fun K hK => ?_)
     go_wp2_with (go_at_call 8; (with_reducible refine (SD _ _ BA (fun y hy => by simp only [List.mem_cons]; exact .inr (.inr (.inr (.inr (hy))))) _ hbx (fun y hy => by obtain rfl := List.mem_singleton.1 hy; exact ⟨(BA.blk 1 rfl).lt, BA.outD 1 rfl⟩)).mono ?_); rintro e wS ⟨rfl, L2, BS, hmS⟩)
     have szS := hmS.size
     iterate 3 (refine wpT_n rfl rfl (fun K hK => ?_); go_wp2_with fail)
     refine wpT_e0 rfl rfl (fun K hK => ?_)
     refine wp_store (u := .agg #[.int .u64 (ng : Nat), .int .u64 (nc : Nat), .int .i64 nl, .int .u32 (ns : Nat)]) (by rfl) (by rfl) (by kernel_rfl) (BS.blk 0 rfl) (by simp [Value.cells]) (by simp [Value.cells, Value.oneCell']) ?_
     intro wT hmT hBT
     refine hK _ _ ?_
     clear hK K
     have hBT2 : Blk wT n 25 [.int .u64 (ng : Nat), .int .u64 (nc : Nat), .int .i64 nl, .int .u32 (ns : Nat)] := hBT
     refine wpT_n rfl rfl (fun K hK => ?_)
     go_wp2_with fail
     refine wpT_nil ?_
     go_wp2_with fail
     go_meet
     exact ⟨n, L2, rfl, rfl, by omega, BS.head (BD.young hA1) hmT hBT2⟩
 case rest =>
 obtain ⟨n1, L2, rfl, rfl, hn1, B6⟩ := hcut
 rename World => w6
 have sz6 : w5.heap.size ≤ w6.heap.size := by have := (B6.blk 0 rfl).lt; omega
 go_upto_region 6 with fail
 go_cut [9, 10] (fun u u2 wx => ∃ nz M2, u = .pointer (some ⟨nz, 0, none⟩) ∧ u2 = .int .i64 E ∧ w5.heap.size ≤ nz ∧ Bw W wx p q P Q V V L2 M2 ((nz, 25, [.int .u64 (ng : Nat), .int .u64 (nc : Nat), .int .i64 nl, .int .u32 (ns : Nat)]) :: (n1, 25, [.int .u64 (ng : Nat), .int .u64 (nc : Nat), .int .i64 nl, .int .u32 (ns : Nat)]) :: (gl, 5, bv (Bd ++ marks 1 12) ++ rest) :: (gb, 5, bv Bd) :: (t, 56, [.int .i64 d, .int .i64 l, .int .i64 x_, .int .u64 (cov : Nat), .int .i64 n, .slice aof F.length capf]) :: osB x p P s r a b h k f0 f1 c))
 case first =>
   refine wp_region_T2 7 11 [⟨0, true, []⟩, ⟨1, true, []⟩, ⟨2, true, []⟩, ⟨3, true, []⟩, ⟨4, true, []⟩, ⟨5, true, []⟩, ⟨6, true, []⟩, ⟨7, false, []⟩, ⟨8, true, []⟩, ⟨9, true, []⟩, ⟨10, true, []⟩, ⟨11, false, [1, 3, 6]⟩, ⟨12, false, []⟩, ⟨13, true, []⟩] [⟨0, true, []⟩, ⟨1, true, []⟩, ⟨2, true, []⟩, ⟨3, true, []⟩, ⟨4, true, []⟩, ⟨5, true, []⟩, ⟨6, true, []⟩, ⟨11, false, [1, 3, 6]⟩, ⟨7, false, []⟩, ⟨8, true, []⟩, ⟨9, true, []⟩, ⟨10, true, []⟩, ⟨12, false, []⟩, ⟨13, true, []⟩] (by kernel_rfl) (by kernel_rfl) (by kernel_rfl) (by kernel_rfl) (by kernel_rfl) ?_ ?_
   all_goals have hmD := Mod.drew [] w6
   all_goals obtain ⟨wd, hwd⟩ : ∃ x, x = w6.drew := ⟨_, rfl⟩
   all_goals rw [← hwd] at hmD ⊢
   all_goals clear hwd
   all_goals have BD := B6.ext hmD
   all_goals have szD := hmD.size
   all_goals have e1 := (BD.blk 4 rfl).cell' (i := 3) rfl
   all_goals have d3 := (BD.blk 3 rfl).cell' (i := 3) rfl
   · iterate 7 (refine wpT_n rfl rfl (fun K hK => ?_); go_wp2_with fail)
     have hbx := hbsg (BD.blk 2 rfl)
     refine wpT_call rfl rfl (fun K hK => ?_)
     go_wp2_with (go_at_call 24; (with_reducible refine (SE _ _ _ BD (fun y hy => by simp only [List.mem_cons]; exact .inr (.inr (.inr (.inr (hy))))) _ hbx (fun y hy => by obtain rfl := List.mem_singleton.1 hy; exact ⟨(BD.blk 2 rfl).lt, BD.outE 2 rfl⟩)).mono ?_); rintro e wS ⟨rfl, M2, BS, hmS⟩)
     have szS := hmS.size
     iterate 3 (refine wpT_n rfl rfl (fun K hK => ?_); go_wp2_with fail)
     refine wpT_e rfl rfl (fun K hK => ?_)
     refine wp_alloc zero_header ?_
     intro n wA hA1 hA2 hmA hBA
     simp only [put_some, List.set_cons_succ, List.set_cons_zero]
     refine hK _ _ ⟨(agains_cons rfl (again_const (fun _ => rfl)) (agains_cons rfl (again_load rfl rfl (hmA.block _ (BS.blk 4 rfl).lt (by simp)) (BS.blk 4 rfl).kinds) (agains_cons rfl (again_load rfl rfl (hmA.block _ (BS.blk 3 rfl).lt (by simp)) (BS.blk 3 rfl).kinds) agains_nil))), ?_⟩
     clear hK K
     refine wpT_e0 rfl rfl (fun K hK => ?_)
     refine wp_store (u := .agg #[.int .u64 (ng : Nat), .int .u64 (nc : Nat), .int .i64 nl, .int .u32 (ns : Nat)]) (by rfl) (by rfl) (by kernel_rfl) hBA (by simp [Value.cells]) (by simp [Value.cells, Value.oneCell']) ?_
     intro wT hmT hBT
     refine hK _ _ ?_
     clear hK K
     have hBT2 : Blk wT n 25 [.int .u64 (ng : Nat), .int .u64 (nc : Nat), .int .i64 nl, .int .u32 (ns : Nat)] := hBT
     refine wpT_n rfl rfl (fun K hK => ?_)
     go_wp2_with fail
     refine wpT_nil ?_
     go_wp2_with fail
     go_meet
     exact ⟨n, M2, rfl, rfl, by omega, BS.new (hmA.fresh hmT (by simpa using hA1)) hA1 hBT2⟩
   · iterate 7 (refine wpT_n rfl rfl (fun K hK => ?_); go_wp2_with fail)
     refine wpT_e rfl rfl (fun K hK => ?_)
     refine wp_alloc zero_header ?_
     intro n wA hA1 hA2 hmA hBA
     simp only [put_some, List.set_cons_succ, List.set_cons_zero]
     refine hK _ _ ⟨(agains_cons rfl (again_const (fun _ => rfl)) (agains_cons rfl (again_load rfl rfl (hmA.block _ (BD.blk 4 rfl).lt (by simp)) (BD.blk 4 rfl).kinds) (agains_cons rfl (again_load rfl rfl (hmA.block _ (BD.blk 3 rfl).lt (by simp)) (BD.blk 3 rfl).kinds) agains_nil))), ?_⟩
     clear hK K
     have hBAz : Blk wA n 25 [.int .u64 0, .int .u64 0, .int .i64 0, .int .u32 0] := hBA
     have BA := BD.new hmA hA1 hBAz
     have hbx := hbsg (BA.blk 3 rfl)
     refine wpT_call rfl rfl (fun K hK => ?_)
     go_wp2_with (go_at_call 24; (with_reducible refine (SE _ _ _ BA (fun y hy => by simp only [List.mem_cons]; exact .inr (.inr (.inr (.inr (.inr (hy)))))) _ hbx (fun y hy => by obtain rfl := List.mem_singleton.1 hy; exact ⟨(BA.blk 3 rfl).lt, BA.outE 3 rfl⟩)).mono ?_); rintro e wS ⟨rfl, M2, BS, hmS⟩)
     have szS := hmS.size
     iterate 3 (refine wpT_n rfl rfl (fun K hK => ?_); go_wp2_with fail)
     refine wpT_e0 rfl rfl (fun K hK => ?_)
     refine wp_store (u := .agg #[.int .u64 (ng : Nat), .int .u64 (nc : Nat), .int .i64 nl, .int .u32 (ns : Nat)]) (by rfl) (by rfl) (by kernel_rfl) (BS.blk 0 rfl) (by simp [Value.cells]) (by simp [Value.cells, Value.oneCell']) ?_
     intro wT hmT hBT
     refine hK _ _ ?_
     clear hK K
     have hBT2 : Blk wT n 25 [.int .u64 (ng : Nat), .int .u64 (nc : Nat), .int .i64 nl, .int .u32 (ns : Nat)] := hBT
     refine wpT_n rfl rfl (fun K hK => ?_)
     go_wp2_with fail
     refine wpT_nil ?_
     go_wp2_with fail
     go_meet
     exact ⟨n, M2, rfl, rfl, by omega, BS.head (BD.young hA1) hmT hBT2⟩
 case rest =>
 obtain ⟨n2, M2, rfl, rfl, hn2, B7⟩ := hcut
 rename World => w7
 have hgl5 : gl < w5.heap.size := (B5.blk 0 rfl).lt
 have hLt7 := hLb (B7.blk 2 rfl)
 have hbs7 := hbsg (B7.blk 3 rfl)
 go_wp2_with (first
               | (go_at_call 53; (with_reducible refine (KE _ _ _ _ hLt7 hbs7).mono ?_); rintro e w8 ⟨rfl, hm8⟩; have B8 := B7.ext hm8; have hLt8 := hLb (B8.blk 2 rfl))
               | (go_at_call 54; (with_reducible refine (OE _ _ _ hLt8).mono ?_); rintro e w9 ⟨rfl, hm9⟩; have hN1 := (B8.blk 1 rfl).mod hm9 (fun hh => by have := List.mem_singleton.1 hh; omega); have hN2 := (B8.blk 0 rfl).mod hm9 (fun hh => by have := List.mem_singleton.1 hh; omega); have B9 := B8.tail.tail.tail.tail.tail.drop hm9 (B8.outD 2 rfl) (B8.outE 2 rfl) hglO (B8.O _ (List.mem_of_getElem? (i := 2) rfl)).1; have a0 := hN1.cell' (i := 0) rfl; have a1 := hN1.cell' (i := 1) rfl; have a2 := hN1.cell' (i := 2) rfl; have a3 := hN1.cell' (i := 3) rfl; have b0 := hN2.cell' (i := 0) rfl; have b1 := hN2.cell' (i := 1) rfl; have b2 := hN2.cell' (i := 2) rfl; have b3 := hN2.cell' (i := 3) rfl))
 go_ret
 exact ⟨_, _, rfl, B9⟩
end Go.Proofs.YtminfegoldgjpaaGreatDoor
