import Derived.Test.YtminfegoldgjpaaGreatDoorSyD
set_option linter.unusedVariables false
set_option linter.unusedSimpArgs false
set_option maxRecDepth 100000
namespace Go.Proofs.YtminfegoldgjpaaGreatDoor
open Go.RowKit Gw
structure Sop where
 d : Int
 l : Int
 x : Int
 cov : Nat
 n : Int
 fv : Value
 F : List (Int × Int)
def Sop.cells (o : Sop) : List Value := [.int .i64 o.d, .int .i64 o.l, .int .i64 o.x, .int .u64 (o.cov : Nat), .int .i64 o.n, o.fv]
def Sop.val (o : Sop) : Value := .agg #[.int .i64 o.d, .int .i64 o.l, .int .i64 o.x, .int .u64 (o.cov : Nat), .int .i64 o.n, o.fv]
structure OkSop (w : World) (o : Sop) : Prop where
 fs : Fs w o.fv o.F
 old : o.F ≠ [] → ∀ b ∈ blks o.fv, b < w.heap.size
 d : i64 o.d
 l : i64 o.l
 x : i64 o.x
 cov : o.cov < 18446744073709551616
 n : i64 o.n
 f : o.F.length ≤ 1048576
def DoesP (W : World) (p q P Q : Nat) (O : List (Nat × TypeId × List Value)) (V : Pv) (e : Ending) (w' : World) : Prop :=
 ∃ L2 M2, e = .returned (.bool true) ∧ Bw W w' p q P Q V V L2 M2 O
theorem Bw.tail {W w : World} {p q P Q : Nat} {v u : Pv} {L M : List Nat} {O : List (Nat × TypeId × List Value)} {y : Nat × TypeId × List Value} (h : Bw W w p q P Q v u L M (y :: O)) : Bw W w p q P Q v u L M O := h.sub (fun _ hx => List.mem_cons_of_mem _ hx)
set_option maxRecDepth 1000000 in
set_option maxHeartbeats 20000000 in
theorem does2_any (W w : World) (x p q P Q s r a b h k f0 f1 c : Nat) (v : Pv) (L M : List Nat) (o : Sop) (ho : OkSop W o) (hk : pick o.d 7 = 2) (B : Bw W w p q P Q v v L M (osB x p P s r a b h k f0 f1 c)) (hT0 : TabC W) (hz : v.m.sz = 64) (hd : v.m.dur.length = 10) (hn : v.n ≤ 900000) (hr : v.m.row.length ≤ 900000) (hc : 2 ≤ c) (hc4 : c ≤ 4) (h0 : f0 + c ≤ 10) (h1 : f1 + c ≤ 10) :
   Calls Tryz.prog 17 #[.pointer (some ⟨x, 0, none⟩), o.val] w (DoesP W p q P Q (osB x p P s r a b h k f0 f1 c) (v.arm (pick o.n 30))) := by
 obtain ⟨hF, hold, wd, wl, wx, wcov, wn, hf⟩ := ho
 obtain ⟨d, l, x_, cov, n, fv, F⟩ := o
 dsimp only at hk hF hold wd wl wx wcov wn hf
 obtain ⟨aof, capf, rfl, _, _⟩ := hF.form
 unfold Sop.val DoesP
 dsimp only
 have PK := fun w => pick_any d 7 w wd.1 wd.2 (by omega) (by omega)
 rw [hk] at PK
 clear hk
 have PN := fun w => pick_any n 30 w wn.1 wn.2 (by omega) (by omega)
 have g1 := pick_ge n 30
 have g2 := pick_lt n 30 (by omega)
 obtain ⟨N, hN⟩ : ∃ N, N = pick n 30 := ⟨_, rfl⟩
 rw [← hN] at PN g1 g2 ⊢
 clear hN
 have AR := fun w h => pArm_any p q v L N w h (by omega)
 have AQ := fun w h => qArm_any P Q v M N w h (by omega)
 obtain ⟨E, hE⟩ : ∃ E : Int, E = if v.off = true then 60 else 0 := ⟨_, rfl⟩
 rw [← hE] at AR AQ
 clear hE
 obtain ⟨V, hV⟩ : ∃ V, V = v.arm N := ⟨_, rfl⟩
 rw [← hV] at AR AQ ⊢
 clear hV
 go_enter Tryz.func17, Tryz.ntmps17
 go_wp2_with (with_reducible refine st_box ?_)
 refine StopOp.go rfl fun K hK => ?_
 refine wp_box (v := .agg #[.int .i64 d, .int .i64 l, .int .i64 x_, .int .u64 (cov : Nat), .int .i64 n, .slice aof F.length capf]) (by rfl) ?_
 intro t w1 ht1 ht2 hm1 hT
 simp only [put_some, List.set_cons_succ, List.set_cons_zero]
 refine hK _ _ ?_
 clear hK K
 have hT1 : Blk w1 t 56 [.int .i64 d, .int .i64 l, .int .i64 x_, .int .u64 (cov : Nat), .int .i64 n, .slice aof F.length capf] := hT
 clear hT
 have B1 := B.new hm1 ht1 hT1
 clear hT1 hm1 ht2
 have d0 := (B1.blk 0 rfl).cell' (i := 0) rfl
 have d4 := (B1.blk 0 rfl).cell' (i := 4) rfl
 go_wp2_with (first
               | (go_at_call 10; (with_reducible refine (PK _).mono ?_); rintro e w2 ⟨rfl, rfl⟩)
               | (go_at_call 10; (with_reducible refine (PN _).mono ?_); rintro e w3 ⟨rfl, rfl⟩))
 refine wp_region_T [⟨0, true, []⟩, ⟨1, true, []⟩, ⟨2, true, []⟩, ⟨3, true, []⟩, ⟨4, true, []⟩, ⟨6, true, []⟩, ⟨7, true, []⟩, ⟨8, true, []⟩, ⟨9, true, []⟩, ⟨10, true, []⟩, ⟨5, false, [7, 9]⟩, ⟨11, false, []⟩, ⟨12, true, []⟩, ⟨13, true, []⟩] (by kernel_rfl) (by kernel_rfl) ?_
 have hm2 := Mod.drew [] w1
 obtain ⟨w2, hx2⟩ : ∃ x, x = w1.drew := ⟨_, rfl⟩
 rw [← hx2] at hm2 ⊢
 clear hx2
 have B2 := B1.ext hm2
 have D2 := B2.D
 have e0 := (B2.blk 1 rfl).cell' (i := 0) rfl
 have e2 := (B2.blk 1 rfl).cell' (i := 2) rfl
 iterate 10 (refine wpT_n rfl rfl (fun K hK => ?_); go_wp2_with fail)
 refine wpT_callh rfl rfl (fun K hK => ?_)
 go_wp2_with (go_at_call 22; (with_reducible refine (AR _ D2).mono ?_); rintro e w3 ⟨rfl, hP3, hm3⟩)
 refine ⟨(agains_cons rfl (again_const (fun _ => rfl)) (agains_cons rfl (again_load rfl rfl (hm3.block _ (B2.blk 1 rfl).lt (fun hh => B2.outD 1 rfl (by have e := List.mem_singleton.1 hh; exact e ▸ List.mem_cons_self))) (B2.blk 1 rfl).kinds) agains_nil)), ?_⟩
 have B3 := B2.rd hP3 hm3
 have E3 := B3.E
 refine wpT_call rfl rfl (fun K hK => ?_)
 go_wp2_with (go_at_call 23; (with_reducible refine (AQ _ E3).mono ?_); rintro e w4 ⟨rfl, hP4, hm4⟩)
 have B4 := B3.rr hP4 hm4
 iterate 2 (refine wpT_n rfl rfl (fun K hK => ?_); go_wp2_with fail)
 refine wpT_nil ?_
 go_wp2_with fail
 go_ret
 exact ⟨_, _, rfl, B4.tail⟩
set_option maxRecDepth 1000000 in
set_option maxHeartbeats 20000000 in
theorem does3_any (W w : World) (x p q P Q s r a b h k f0 f1 c : Nat) (v : Pv) (L M : List Nat) (o : Sop) (ho : OkSop W o) (hk : pick o.d 7 = 3) (B : Bw W w p q P Q v v L M (osB x p P s r a b h k f0 f1 c)) (hT0 : TabC W) (hz : v.m.sz = 64) (hd : v.m.dur.length = 10) (hn : v.n ≤ 900000) (hr : v.m.row.length ≤ 900000) (hc : 2 ≤ c) (hc4 : c ≤ 4) (h0 : f0 + c ≤ 10) (h1 : f1 + c ≤ 10) :
   Calls Tryz.prog 17 #[.pointer (some ⟨x, 0, none⟩), o.val] w (DoesP W p q P Q (osB x p P s r a b h k f0 f1 c) (v.re o.F)) := by
 obtain ⟨hF, hold, wd, wl, wx, wcov, wn, hf⟩ := ho
 obtain ⟨d, l, x_, cov, n, fv, F⟩ := o
 dsimp only at hk hF hold wd wl wx wcov wn hf
 obtain ⟨aof, capf, rfl, _, _⟩ := hF.form
 unfold Sop.val DoesP
 dsimp only
 have PK := fun w => pick_any d 7 w wd.1 wd.2 (by omega) (by omega)
 rw [hk] at PK
 clear hk
 have CF := fun fv0 w h => copyF_any F fv0 w h (by omega)
 have RE := fun fw w h hF hFL => pRestart_any p q v L F fw w h (by omega) hF hFL
 have RQ := fun fw w h hF hFL => qRestart_any P Q v M F fw w h (by omega) hF hFL
 obtain ⟨V, hV⟩ : ∃ V, V = v.re F := ⟨_, rfl⟩
 rw [← hV] at RE RQ ⊢
 clear hV
 go_enter Tryz.func17, Tryz.ntmps17
 go_wp2_with (with_reducible refine st_box ?_)
 refine StopOp.go rfl fun K hK => ?_
 refine wp_box (v := .agg #[.int .i64 d, .int .i64 l, .int .i64 x_, .int .u64 (cov : Nat), .int .i64 n, .slice aof F.length capf]) (by rfl) ?_
 intro t w1 ht1 ht2 hm1 hT
 simp only [put_some, List.set_cons_succ, List.set_cons_zero]
 refine hK _ _ ?_
 clear hK K
 have hT1 : Blk w1 t 56 [.int .i64 d, .int .i64 l, .int .i64 x_, .int .u64 (cov : Nat), .int .i64 n, .slice aof F.length capf] := hT
 clear hT
 have B1 := B.new hm1 ht1 hT1
 clear hT1 hm1 ht2
 have d0 := (B1.blk 0 rfl).cell' (i := 0) rfl
 go_wp2_with (go_at_call 10; (with_reducible refine (PK _).mono ?_); rintro e w2 ⟨rfl, rfl⟩)
 refine wp_region_T [⟨0, true, []⟩, ⟨1, true, []⟩, ⟨2, true, []⟩, ⟨3, true, []⟩, ⟨4, true, []⟩, ⟨5, true, []⟩, ⟨8, true, []⟩, ⟨9, true, []⟩, ⟨10, true, []⟩, ⟨11, true, []⟩, ⟨12, true, []⟩, ⟨13, true, []⟩, ⟨6, false, [1, 3, 9, 11, 13]⟩, ⟨7, false, [9, 11, 13]⟩, ⟨14, false, []⟩, ⟨15, true, []⟩, ⟨16, true, []⟩] (by kernel_rfl) (by kernel_rfl) ?_
 have hm2 := Mod.drew [] w1
 obtain ⟨w2, hx2⟩ : ∃ x, x = w1.drew := ⟨_, rfl⟩
 rw [← hx2] at hm2 ⊢
 clear hx2
 have B2 := B1.ext hm2
 have e0 := (B2.blk 1 rfl).cell' (i := 0) rfl
 have e2 := (B2.blk 1 rfl).cell' (i := 2) rfl
 have d5 := (B2.blk 0 rfl).cell' (i := 5) rfl
 have hF2 : Fs w2 (.slice aof F.length capf) F := hF.far B2.m (by simp)
 iterate 12 (refine wpT_n rfl rfl (fun K hK => ?_); go_wp2_with fail)
 refine wpT_callh rfl rfl (fun K hK => ?_)
 go_wp2_with (go_at_call 25; (with_reducible refine (CF _ _ hF2).mono ?_); rintro e w3 ⟨fw, rfl, hF3, hf3, hm3⟩)
 obtain ⟨aow, capw, rfl, _, _⟩ := hF3.form
 refine ⟨(agains_cons rfl (again_const (fun _ => rfl)) (agains_cons rfl (again_load rfl rfl (hm3.block _ (B2.blk 1 rfl).lt (by simp)) (B2.blk 1 rfl).kinds) (agains_cons rfl (again_const (fun _ => rfl)) (agains_cons rfl (again_load rfl rfl (hm3.block _ (B2.blk 1 rfl).lt (by simp)) (B2.blk 1 rfl).kinds) (agains_cons rfl (again_load rfl rfl (hm3.block _ (B2.blk 0 rfl).lt (by simp)) (B2.blk 0 rfl).kinds) agains_nil))))), ?_⟩
 have B3 := B2.ext hm3
 have D3 := B3.D
 refine wpT_callh rfl rfl (fun K hK => ?_)
 go_wp2_with (go_at_call 19; (with_reducible refine (RE _ _ D3 hF3 (fun _ y hy hh => by have h1 := hf3 y hy; have h2 := B2.D.lt0 y (List.mem_cons_of_mem _ hh); omega)).mono ?_); rintro e w4 ⟨rfl, hP4⟩)
 obtain ⟨L4, B4, hm4⟩ := B3.dt hP4
 refine ⟨(agains_cons rfl (again_const (fun _ => rfl)) (agains_cons rfl (again_load rfl rfl (hm4.block _ (B3.blk 1 rfl).lt (B3.outD 1 rfl)) (B3.blk 1 rfl).kinds) (agains_cons rfl (again_load rfl rfl (hm4.block _ (B3.blk 0 rfl).lt (B3.outD 0 rfl)) (B3.blk 0 rfl).kinds) agains_nil))), ?_⟩
 have E4 := B4.E
 have hF4 : Fs w4 (.slice aof F.length capf) F := hF.far B4.m (by simp)
 refine wpT_call rfl rfl (fun K hK => ?_)
 go_wp2_with (go_at_call 20; (with_reducible refine (RQ _ _ E4 hF4 (fun hh0 y hy hh => by have h1 := hold hh0 y hy; have h2 := B4.rn y (List.mem_cons_of_mem _ hh); omega)).mono ?_); rintro e w5 ⟨rfl, hP5⟩)
 obtain ⟨M5, B5, hm5⟩ := B4.rt hP5
 iterate 2 (refine wpT_n rfl rfl (fun K hK => ?_); go_wp2_with fail)
 refine wpT_nil ?_
 go_wp2_with fail
 go_ret
 exact ⟨_, _, rfl, B5.tail⟩
end Go.Proofs.YtminfegoldgjpaaGreatDoor
