import Derived.Test.YtdmnogmhnhjdgaaGreatPwK
/-! Devices: the disk under them is written, synced. -/
set_option linter.unusedVariables false
set_option linter.unusedSimpArgs false
set_option maxRecDepth 100000
namespace Go.Proofs.YtdmnogmhnhjdgaaGreat
open Go.RowKit Gw

set_option maxRecDepth 1000000 in
set_option maxHeartbeats 4000000 in
theorem step7_any (W w : World) (p q p' q' : Nat) (uv : Option Addr) (v : Pv) (L M : List Nat) (o : Pop) (hP : Pq W w p q p' q' v v L M) (ho : OkPop W o) (hn : v.n ≤ 1000000) (hr : v.m.row.length ≤ 1000000) (hu : uv = some ⟨q, 0, none⟩) (hk : o.k = 7) :
    Calls Tryz.prog 8 #[.agg #[.pointer (some ⟨p, 0, none⟩), .pointer uv, .pointer (some ⟨p', 0, none⟩)], .agg o.cells.toArray] w (StepP W w p q p' q' (stepV v o) L M) := by
  have hl := ho.l
  have hone := Sl.one ho.fs
  have hold := ho.old
  have hb0 : Bs w o.bw o.l := ho.b.ext hP.m
  have hF0 : Fs w o.fv o.F := Sl.ext ho.fs hP.m
  have hWw := hP.m.size
  have BK := fun w h => block_any o v.m.sz w h hl hone hP.d.ok.m.s2
  have hBl := blkL_le (o := o) hl hP.d.ok.m.s2
  have SI := fun w M h => qSize_any p' q' v M w h
  have hoa := ho.a
  have hof := ho.f
  subst hu
  have es : stepV v o = v.at (wrM v.m o.a (blkL o v.m.sz)) := by unfold stepV; rw [if_neg (by omega), if_neg (by omega), if_neg (by omega), if_neg (by omega), if_neg (by omega), if_pos hk]
  rw [es]
  obtain ⟨sz, hsz⟩ : ∃ s, s = v.m.sz := ⟨_, rfl⟩
  obtain ⟨B, hB⟩ : ∃ B, B = blkL o v.m.sz := ⟨_, rfl⟩
  rw [← hsz] at hB BK SI
  rw [← hB] at BK
  rw [← hsz, ← hB] at hBl
  rw [← hsz, ← hB]
  have WR := fun w bw h hb => dW_any (.pointer (some ⟨q, 0, none⟩)) bw o.a B (some v.m) L w h hb hr
  have WQ := fun w bw h hb => rW_any (.pointer (some ⟨q', 0, none⟩)) bw o.a B (some v.m) M w h hb hr
  obtain ⟨E, hE⟩ : ∃ E, E = oWE o.a B.length (some v.m) := ⟨_, rfl⟩
  rw [← hE, show oW o.a B (some v.m) = some (wrM v.m o.a B) from rfl] at WR WQ
  unfold LdP at WR
  unfold LrP at WQ
  obtain ⟨m2, hm2⟩ : ∃ V, V = wrM v.m o.a B := ⟨_, rfl⟩
  rw [← hm2] at WR WQ ⊢
  have HH := Lib.hid (And.intro hB (And.intro hE (And.intro hm2 (And.intro es hsz))))
  clear hE hm2 hB es hsz
  obtain ⟨k, n, a, bw, l, raw, fv, F⟩ := o
  dsimp only at hl hone hb0 hF0 hold hk hoa hof HH
  unfold Pop.cells at BK ⊢
  dsimp only at BK ⊢
  obtain ⟨aob, capb, rfl, _, _⟩ := hb0.form
  obtain ⟨aof, capf, rfl, _, _⟩ := hF0.form
  subst hk
  dsimp only at WR WQ
  go_enter Tryz.func8, Tryz.ntmps8
  go_wp2_with (with_reducible refine st_box ?_)
  refine StopOp.go rfl fun K hK => ?_
  refine wp_box (v := .agg #[.pointer (some ⟨p, 0, none⟩), .pointer (some ⟨q, 0, none⟩), .pointer (some ⟨p', 0, none⟩)]) (by rfl) ?_
  intro t w1 ht1 ht2 hm1 hT
  simp only [put_some, List.set_cons_succ, List.set_cons_zero]
  refine hK _ _ ?_
  clear hK K
  have hT1 : Blk w1 t 28 [.pointer (some ⟨p, 0, none⟩), .pointer (some ⟨q, 0, none⟩), .pointer (some ⟨p', 0, none⟩)] := hT
  clear hT
  go_wp2_with (with_reducible refine st_box ?_)
  refine StopOp.go rfl fun K hK => ?_
  refine wp_box (v := .agg #[.int .i64 7, .int .i64 n, .int .i64 a, .slice aob l.length capb, .bool raw, .slice aof F.length capf]) (by rfl) ?_
  intro c w2 hc1 hc2 hm2 hQ
  simp only [put_some, List.set_cons_succ, List.set_cons_zero]
  refine hK _ _ ?_
  clear hK K
  have hQ2 : Blk w2 c 35 [.int .i64 7, .int .i64 n, .int .i64 a, .slice aob l.length capb, .bool raw, .slice aof F.length capf] := hQ
  clear hQ
  go_wp2_with fail
  refine wp_region_T [⟨0, true, []⟩, ⟨1, true, []⟩, ⟨2, true, []⟩, ⟨3, false, [0]⟩, ⟨4, false, []⟩, ⟨5, true, []⟩] (by kernel_rfl) (by kernel_rfl) ?_
  have hmA := (hm1.ext hm2).ext (Mod.drew [] _)
  have hT3 := (hT1.ext hm2).ext (Mod.drew [] _)
  have hQ3 := hQ2.ext (Mod.drew [] _)
  obtain ⟨w3, hw3⟩ : ∃ x, x = w2.drew := ⟨_, rfl⟩
  rw [← hw3] at hmA hT3 hQ3 ⊢
  clear hw3 hT1 hQ2
  have hS3 := (Sg.start hP).ext hmA
  have hR3 := hS3.h.r
  have hb3 : Bs w3 _ l := hb0.ext hmA
  have t0 := hT3.cell' (i := 0) rfl
  have t1 := hT3.cell' (i := 1) rfl
  have t2 := hT3.cell' (i := 2) rfl
  have c0 := hQ3.cell' (i := 0) rfl
  have c1 := hQ3.cell' (i := 1) rfl
  have c2 := hQ3.cell' (i := 2) rfl
  have c3 := hQ3.cell' (i := 3) rfl
  have c4 := hQ3.cell' (i := 4) rfl
  have c5 := hQ3.cell' (i := 5) rfl
  iterate 3 (refine wpT_n rfl rfl (fun K hK => ?_); go_wp2_with fail)
  refine wpT_callh rfl rfl (fun K hK => ?_)
  go_wp2_with (go_at_call 30; (with_reducible refine (SI _ _ hR3).mono ?_); rintro e w4 ⟨rfl, rfl⟩)
  refine ⟨agains_same, ?_⟩
  refine wpT_call rfl rfl (fun K hK => ?_)
  go_wp2_with (go_at_call 29; refine (BK _ hb3).mono ?_; rintro e w4 ⟨v4, rfl, ho4, hn4, hm4⟩)
  obtain ⟨ao4, cap4, rfl, _, _⟩ := ho4.sl.form
  have hS4 := hS3.ext hm4
  have hT4 := hT3.ext hm4
  have hQ4 := hQ3.ext hm4
  have s13 := hmA.size
  have s34 := hm4.size
  have tp : t ≠ c := by have := hm1.size; omega
  clear t0 t1 t2 c0 c1 c2 c3 c4 c5 hT3 hQ3 hR3 hb3 hS3
  have t0 := hT4.cell' (i := 0) rfl
  have t1 := hT4.cell' (i := 1) rfl
  have t2 := hT4.cell' (i := 2) rfl
  have c0 := hQ4.cell' (i := 0) rfl
  have c1 := hQ4.cell' (i := 1) rfl
  have c2 := hQ4.cell' (i := 2) rfl
  have c3 := hQ4.cell' (i := 3) rfl
  have c4 := hQ4.cell' (i := 4) rfl
  have c5 := hQ4.cell' (i := 5) rfl
  refine wpT_n rfl rfl (fun K hK => ?_)
  go_wp2_with fail
  refine wpT_nil ?_
  go_wp2_with fail
  have htL : t ∉ (p :: L) ++ (p' :: M) := fun hh => by
    rcases List.mem_append.1 hh with h1 | h1
    · have := hP.d.lt t h1; omega
    · have := hP.r.lt t h1; omega
  have hcL : c ∉ (p :: L) ++ (p' :: M) := fun hh => by
    rcases List.mem_append.1 hh with h1 | h1
    · have := hP.d.lt c h1; have := hm1.size; omega
    · have := hP.r.lt c h1; have := hm1.size; omega
  have hvL : ∀ b ∈ blks (.slice ao4 B.length cap4), b ∉ (p :: L) ++ (p' :: M) := fun b hb hh => by
    have h0 := hn4 b hb
    rcases List.mem_append.1 hh with h1 | h1
    · have := hP.d.lt b h1; omega
    · have := hP.r.lt b h1; omega
  go_wp2_with fail
  refine wp_region_T [⟨0, true, []⟩, ⟨1, true, []⟩, ⟨2, true, []⟩, ⟨3, true, []⟩, ⟨4, true, []⟩, ⟨5, true, []⟩, ⟨6, true, []⟩, ⟨7, true, []⟩, ⟨8, true, []⟩, ⟨11, true, []⟩, ⟨12, true, []⟩, ⟨13, true, []⟩, ⟨14, true, []⟩, ⟨15, true, []⟩, ⟨16, true, []⟩, ⟨17, true, []⟩, ⟨18, true, []⟩, ⟨9, false, [5, 7, 12, 13, 15, 17]⟩, ⟨10, false, [12, 13, 15, 17]⟩, ⟨19, false, []⟩, ⟨20, true, []⟩, ⟨21, true, []⟩, ⟨22, true, []⟩] (by kernel_rfl) (by kernel_rfl) ?_
  have hmD := Mod.drew [] w4
  obtain ⟨w5, hw5⟩ : ∃ x, x = w4.drew := ⟨_, rfl⟩
  rw [← hw5] at hmD ⊢
  clear hw5
  have hS5 := hS4.ext hmD
  have hT5 := hT4.ext hmD
  have hQ5 := hQ4.ext hmD
  have ho5 : Ob w5 (.slice ao4 B.length cap4) B := Ob.ext ho4 hmD
  have hrb := hS5.h.r.b
  have r0 := hrb.cell' (i := 0) (u := .pointer (some ⟨q', 0, none⟩)) rfl
  clear t0 t1 t2 c0 c1 c2 c3 c4 c5
  have e0 := hT5.cell' (i := 0) rfl
  have e1 := hT5.cell' (i := 1) rfl
  have e2 := hT5.cell' (i := 2) rfl
  have f0 := hQ5.cell' (i := 0) rfl
  have f1 := hQ5.cell' (i := 1) rfl
  have f2 := hQ5.cell' (i := 2) rfl
  have f3 := hQ5.cell' (i := 3) rfl
  have f4 := hQ5.cell' (i := 4) rfl
  have f5 := hQ5.cell' (i := 5) rfl
  have hs5 := Ob.bs ho5
  have tpL : t ∉ L := fun hh => htL (List.mem_append_left _ (List.mem_cons_of_mem _ hh))
  have cpL : c ∉ L := fun hh => hcL (List.mem_append_left _ (List.mem_cons_of_mem _ hh))
  have ppL : p' ∉ L := fun hh => hP.ap p' (List.mem_cons_of_mem _ hh) List.mem_cons_self
  iterate 4 (refine wpT_n rfl rfl (fun K hK => ?_); go_wp2_with fail)
  iterate 13 (refine wpT_gq (gi := 3) rfl rfl rfl rfl rfl (fun K hK => ?_); go_wp2_with fail)
  refine wpT_gcallh (gi := 3) rfl rfl rfl rfl (fun K hK => ?_)
  go_wp2_with (go_at_call 43; (with_reducible refine (copy_any B _ _ hs5 (by omega)).mono ?_); rintro e w6 ⟨v6, rfl, ho6, hn6, hm6⟩)
  obtain ⟨ao6, cap6, rfl, _, _⟩ := ho6.sl.form
  refine ⟨agains_cons rfl (again_load rfl rfl (hm6.block t hT5.lt (by simp)) hT5.kinds) (agains_cons rfl (again_load rfl rfl (hm6.block c hQ5.lt (by simp)) hQ5.kinds) (agains_cons rfl (again_load rfl rfl (hm6.block t hT5.lt (by simp)) hT5.kinds) (agains_cons rfl (again_const (fun _ => rfl)) (agains_cons rfl (again_load rfl rfl (hm6.block p' hrb.lt (by simp)) hrb.kinds) (agains_cons rfl (again_load rfl rfl (hm6.block c hQ5.lt (by simp)) hQ5.kinds) agains_nil))))), ?_⟩
  have hS6 := hS5.ext hm6
  have hT6 := hT5.ext hm6
  have hQ6 := hQ5.ext hm6
  have hrb6 := hrb.ext hm6
  have hD6 : Ld w6 (.pointer (some ⟨q, 0, none⟩)) (some v.m) L := ⟨q, rfl, hS6.h.d.d, hS6.h.d.ok.m⟩
  refine wpT_gcallh (gi := 3) rfl rfl rfl rfl (fun K hK => ?_)
  go_wp2_with (go_at_call 42; (with_reducible refine (WR _ _ hD6 (Ob.bs ho6)).mono ?_); rintro e w7 ⟨rfl, L7, k1, k2, k3⟩)
  refine ⟨agains_cons rfl (again_load rfl rfl (k2.block t hT6.lt tpL) hT6.kinds) (agains_cons rfl (again_const (fun _ => rfl)) (agains_cons rfl (again_load rfl rfl (k2.block p' hrb6.lt ppL) hrb6.kinds) (agains_cons rfl (again_load rfl rfl (k2.block c hQ6.lt cpL) hQ6.kinds) agains_nil))), ?_⟩
  have hS7 := hS6.dt (hS6.h.d.under k1 k2 k3) (k2.weak (fun g hg => .inl (List.mem_cons_of_mem _ hg))) k3
  have hR7 : Lr w7 (.pointer (some ⟨q', 0, none⟩)) (some v.m) M := ⟨q', rfl, hS7.h.r.d, hS7.h.r.ok.m⟩
  have hs7 : Bs w7 (.slice ao4 B.length cap4) B := Ob.bs (Ow.mod (Ob.ext ho5 hm6) k2 (fun b hb hh => hvL b hb (List.mem_append_left _ (List.mem_cons_of_mem _ hh))))
  refine wpT_gcall (gi := 3) rfl rfl rfl rfl (fun K hK => ?_)
  go_wp2_with (go_at_call 44; (with_reducible refine (WQ _ _ hR7 hs7).mono ?_); rintro e w8 ⟨rfl, M8, j1, j2, j3⟩)
  have hS8 := hS7.rt (hS7.h.r.under j1 j2 j3) (j2.weak (fun g hg => .inl (List.mem_cons_of_mem _ hg))) j3
  refine wpT_gq (gi := 3) rfl rfl rfl rfl rfl (fun K hK => ?_)
  go_wp2_with fail
  iterate 2 (refine wpT_n rfl rfl (fun K hK => ?_); go_wp2_with fail)
  refine wpT_nil ?_
  go_wp2_with fail
  go_ret
  exact hS8.fin
set_option maxRecDepth 1000000 in
set_option maxHeartbeats 4000000 in
theorem step8_any (W w : World) (p q p' q' : Nat) (uv : Option Addr) (v : Pv) (L M : List Nat) (o : Pop) (hP : Pq W w p q p' q' v v L M) (ho : OkPop W o) (hn : v.n ≤ 1000000) (hr : v.m.row.length ≤ 1000000) (hu : uv = some ⟨q, 0, none⟩) (hk : o.k = 8) :
    Calls Tryz.prog 8 #[.agg #[.pointer (some ⟨p, 0, none⟩), .pointer uv, .pointer (some ⟨p', 0, none⟩)], .agg o.cells.toArray] w (StepP W w p q p' q' (stepV v o) L M) := by
  have hl := ho.l
  have hone := Sl.one ho.fs
  have hold := ho.old
  have hb0 : Bs w o.bw o.l := ho.b.ext hP.m
  have hF0 : Fs w o.fv o.F := Sl.ext ho.fs hP.m
  have hWw := hP.m.size
  have BK := fun w h => block_any o v.m.sz w h hl hone hP.d.ok.m.s2
  have hBl := blkL_le (o := o) hl hP.d.ok.m.s2
  have SI := fun w M h => qSize_any p' q' v M w h
  have hoa := ho.a
  have hof := ho.f
  subst hu
  have es : stepV v o = v.at v.m.sync := by unfold stepV; rw [if_neg (by omega), if_neg (by omega), if_neg (by omega), if_neg (by omega), if_neg (by omega), if_neg (by omega), if_pos hk]
  rw [es]
  obtain ⟨sz, hsz⟩ : ∃ s, s = v.m.sz := ⟨_, rfl⟩
  obtain ⟨B, hB⟩ : ∃ B, B = blkL o v.m.sz := ⟨_, rfl⟩
  rw [← hsz] at hB BK SI
  rw [← hB] at BK
  rw [← hsz, ← hB] at hBl
  have SY := fun w h => dS_any (.pointer (some ⟨q, 0, none⟩)) (some v.m) L w h hr
  have SQ := fun w h => rS_any (.pointer (some ⟨q', 0, none⟩)) (some v.m) M w h hr
  rw [show oSE (some v.m) = 0 from rfl, show oS (some v.m) = some v.m.sync from rfl] at SY SQ
  unfold LdP at SY
  unfold LrP at SQ
  obtain ⟨m2, hm2⟩ : ∃ V, V = v.m.sync := ⟨_, rfl⟩
  rw [← hm2] at SY SQ ⊢
  have HH := Lib.hid (And.intro hB (And.intro hm2 (And.intro es hsz)))
  clear hm2 hB es hsz
  obtain ⟨k, n, a, bw, l, raw, fv, F⟩ := o
  dsimp only at hl hone hb0 hF0 hold hk hoa hof HH
  unfold Pop.cells at BK ⊢
  dsimp only at BK ⊢
  obtain ⟨aob, capb, rfl, _, _⟩ := hb0.form
  obtain ⟨aof, capf, rfl, _, _⟩ := hF0.form
  subst hk
  go_enter Tryz.func8, Tryz.ntmps8
  go_wp2_with (with_reducible refine st_box ?_)
  refine StopOp.go rfl fun K hK => ?_
  refine wp_box (v := .agg #[.pointer (some ⟨p, 0, none⟩), .pointer (some ⟨q, 0, none⟩), .pointer (some ⟨p', 0, none⟩)]) (by rfl) ?_
  intro t w1 ht1 ht2 hm1 hT
  simp only [put_some, List.set_cons_succ, List.set_cons_zero]
  refine hK _ _ ?_
  clear hK K
  have hT1 : Blk w1 t 28 [.pointer (some ⟨p, 0, none⟩), .pointer (some ⟨q, 0, none⟩), .pointer (some ⟨p', 0, none⟩)] := hT
  clear hT
  go_wp2_with (with_reducible refine st_box ?_)
  refine StopOp.go rfl fun K hK => ?_
  refine wp_box (v := .agg #[.int .i64 8, .int .i64 n, .int .i64 a, .slice aob l.length capb, .bool raw, .slice aof F.length capf]) (by rfl) ?_
  intro c w2 hc1 hc2 hm2 hQ
  simp only [put_some, List.set_cons_succ, List.set_cons_zero]
  refine hK _ _ ?_
  clear hK K
  have hQ2 : Blk w2 c 35 [.int .i64 8, .int .i64 n, .int .i64 a, .slice aob l.length capb, .bool raw, .slice aof F.length capf] := hQ
  clear hQ
  go_wp2_with fail
  refine wp_region_T [⟨0, true, []⟩, ⟨1, true, []⟩, ⟨2, true, []⟩, ⟨3, false, [0]⟩, ⟨4, false, []⟩, ⟨5, true, []⟩] (by kernel_rfl) (by kernel_rfl) ?_
  have hmA := (hm1.ext hm2).ext (Mod.drew [] _)
  have hT3 := (hT1.ext hm2).ext (Mod.drew [] _)
  have hQ3 := hQ2.ext (Mod.drew [] _)
  obtain ⟨w3, hw3⟩ : ∃ x, x = w2.drew := ⟨_, rfl⟩
  rw [← hw3] at hmA hT3 hQ3 ⊢
  clear hw3 hT1 hQ2
  have hS3 := (Sg.start hP).ext hmA
  have hR3 := hS3.h.r
  have hb3 : Bs w3 _ l := hb0.ext hmA
  have t0 := hT3.cell' (i := 0) rfl
  have t1 := hT3.cell' (i := 1) rfl
  have t2 := hT3.cell' (i := 2) rfl
  have c0 := hQ3.cell' (i := 0) rfl
  have c1 := hQ3.cell' (i := 1) rfl
  have c2 := hQ3.cell' (i := 2) rfl
  have c3 := hQ3.cell' (i := 3) rfl
  have c4 := hQ3.cell' (i := 4) rfl
  have c5 := hQ3.cell' (i := 5) rfl
  iterate 3 (refine wpT_n rfl rfl (fun K hK => ?_); go_wp2_with fail)
  refine wpT_callh rfl rfl (fun K hK => ?_)
  go_wp2_with (go_at_call 30; (with_reducible refine (SI _ _ hR3).mono ?_); rintro e w4 ⟨rfl, rfl⟩)
  refine ⟨agains_same, ?_⟩
  refine wpT_call rfl rfl (fun K hK => ?_)
  go_wp2_with (go_at_call 29; refine (BK _ hb3).mono ?_; rintro e w4 ⟨v4, rfl, ho4, hn4, hm4⟩)
  obtain ⟨ao4, cap4, rfl, _, _⟩ := ho4.sl.form
  have hS4 := hS3.ext hm4
  have hT4 := hT3.ext hm4
  have hQ4 := hQ3.ext hm4
  have s13 := hmA.size
  have s34 := hm4.size
  have tp : t ≠ c := by have := hm1.size; omega
  clear t0 t1 t2 c0 c1 c2 c3 c4 c5 hT3 hQ3 hR3 hb3 hS3
  have t0 := hT4.cell' (i := 0) rfl
  have t1 := hT4.cell' (i := 1) rfl
  have t2 := hT4.cell' (i := 2) rfl
  have c0 := hQ4.cell' (i := 0) rfl
  have c1 := hQ4.cell' (i := 1) rfl
  have c2 := hQ4.cell' (i := 2) rfl
  have c3 := hQ4.cell' (i := 3) rfl
  have c4 := hQ4.cell' (i := 4) rfl
  have c5 := hQ4.cell' (i := 5) rfl
  refine wpT_n rfl rfl (fun K hK => ?_)
  go_wp2_with fail
  refine wpT_nil ?_
  go_wp2_with fail
  have htL : t ∉ (p :: L) ++ (p' :: M) := fun hh => by
    rcases List.mem_append.1 hh with h1 | h1
    · have := hP.d.lt t h1; omega
    · have := hP.r.lt t h1; omega
  have hcL : c ∉ (p :: L) ++ (p' :: M) := fun hh => by
    rcases List.mem_append.1 hh with h1 | h1
    · have := hP.d.lt c h1; have := hm1.size; omega
    · have := hP.r.lt c h1; have := hm1.size; omega
  have hvL : ∀ b ∈ blks (.slice ao4 B.length cap4), b ∉ (p :: L) ++ (p' :: M) := fun b hb hh => by
    have h0 := hn4 b hb
    rcases List.mem_append.1 hh with h1 | h1
    · have := hP.d.lt b h1; omega
    · have := hP.r.lt b h1; omega
  go_wp2_with fail
  refine wp_region_T [⟨0, true, []⟩, ⟨1, true, []⟩, ⟨2, true, []⟩, ⟨3, true, []⟩, ⟨4, true, []⟩, ⟨5, true, []⟩, ⟨7, true, []⟩, ⟨8, true, []⟩, ⟨9, true, []⟩, ⟨10, true, []⟩, ⟨11, true, []⟩, ⟨6, false, [8, 9, 11]⟩, ⟨12, false, []⟩, ⟨13, true, []⟩, ⟨14, true, []⟩, ⟨15, true, []⟩] (by kernel_rfl) (by kernel_rfl) ?_
  have hmD := Mod.drew [] w4
  obtain ⟨w5, hw5⟩ : ∃ x, x = w4.drew := ⟨_, rfl⟩
  rw [← hw5] at hmD ⊢
  clear hw5
  have hS5 := hS4.ext hmD
  have hT5 := hT4.ext hmD
  have hQ5 := hQ4.ext hmD
  have ho5 : Ob w5 (.slice ao4 B.length cap4) B := Ob.ext ho4 hmD
  have hrb := hS5.h.r.b
  have r0 := hrb.cell' (i := 0) (u := .pointer (some ⟨q', 0, none⟩)) rfl
  clear t0 t1 t2 c0 c1 c2 c3 c4 c5
  have e0 := hT5.cell' (i := 0) rfl
  have e1 := hT5.cell' (i := 1) rfl
  have e2 := hT5.cell' (i := 2) rfl
  have f0 := hQ5.cell' (i := 0) rfl
  have f1 := hQ5.cell' (i := 1) rfl
  have f2 := hQ5.cell' (i := 2) rfl
  have f3 := hQ5.cell' (i := 3) rfl
  have f4 := hQ5.cell' (i := 4) rfl
  have f5 := hQ5.cell' (i := 5) rfl
  have tpL : t ∉ L := fun hh => htL (List.mem_append_left _ (List.mem_cons_of_mem _ hh))
  have ppL : p' ∉ L := fun hh => hP.ap p' (List.mem_cons_of_mem _ hh) List.mem_cons_self
  have hD5 : Ld w5 (.pointer (some ⟨q, 0, none⟩)) (some v.m) L := ⟨q, rfl, hS5.h.d.d, hS5.h.d.ok.m⟩
  iterate 4 (refine wpT_n rfl rfl (fun K hK => ?_); go_wp2_with fail)
  iterate 7 (refine wpT_gq (gi := 3) rfl rfl rfl rfl rfl (fun K hK => ?_); go_wp2_with fail)
  refine wpT_gcallh (gi := 3) rfl rfl rfl rfl (fun K hK => ?_)
  go_wp2_with (go_at_call 45; (with_reducible refine (SY _ hD5).mono ?_); rintro e w7 ⟨rfl, L7, k1, k2, k3⟩)
  refine ⟨agains_cons rfl (again_load rfl rfl (k2.block t hT5.lt tpL) hT5.kinds) (agains_cons rfl (again_const (fun _ => rfl)) (agains_cons rfl (again_load rfl rfl (k2.block p' hrb.lt ppL) hrb.kinds) agains_nil)), ?_⟩
  have hS7 := hS5.dt (hS5.h.d.under k1 k2 k3) (k2.weak (fun g hg => .inl (List.mem_cons_of_mem _ hg))) k3
  have hR7 : Lr w7 (.pointer (some ⟨q', 0, none⟩)) (some v.m) M := ⟨q', rfl, hS7.h.r.d, hS7.h.r.ok.m⟩
  refine wpT_gcall (gi := 3) rfl rfl rfl rfl (fun K hK => ?_)
  go_wp2_with (go_at_call 46; (with_reducible refine (SQ _ hR7).mono ?_); rintro e w8 ⟨rfl, M8, j1, j2, j3⟩)
  have hS8 := hS7.rt (hS7.h.r.under j1 j2 j3) (j2.weak (fun g hg => .inl (List.mem_cons_of_mem _ hg))) j3
  refine wpT_gq (gi := 3) rfl rfl rfl rfl rfl (fun K hK => ?_)
  go_wp2_with fail
  iterate 2 (refine wpT_n rfl rfl (fun K hK => ?_); go_wp2_with fail)
  refine wpT_nil ?_
  go_wp2_with fail
  go_ret
  exact hS8.fin
end Go.Proofs.YtdmnogmhnhjdgaaGreat
