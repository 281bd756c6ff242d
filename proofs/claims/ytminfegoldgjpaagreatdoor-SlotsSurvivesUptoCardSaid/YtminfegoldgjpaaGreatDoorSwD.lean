import Derived.Test.YtminfegoldgjpaaGreatDoorGSh
import Derived.Test.YtminfegoldgjpaaGreatDoorGSl
import Derived.Test.YtminfegoldgjpaaGreatDoorGRg
set_option linter.unusedVariables false
set_option linter.unusedSimpArgs false
set_option maxRecDepth 100000
namespace Go.Proofs.YtminfegoldgjpaaGreatDoor
open Go.RowKit Gw
def Sls (w : World) (s a b : Nat) : Prop := Blk w s 90 [.pointer (some ⟨a, 0, none⟩), .pointer (some ⟨b, 0, none⟩)]
theorem Sls.mod {w w' : World} {s a b : Nat} {M : List Nat} (h : Sls w s a b) (hm : Mod M w w') (hr : s ∉ M) : Sls w' s a b := Blk.mod h hm hr
theorem Sls.ext {w w' : World} {s a b : Nat} (h : Sls w s a b) (hm : Mod [] w w') : Sls w' s a b := Blk.ext h hm
def NoSl (w : World) (v : Value) : Prop := v = .pointer none ∨ ∃ s, v = .pointer (some ⟨s, 0, none⟩) ∧ Blk w s 90 [.pointer none, .pointer none]
theorem NoSl.ext {w w' : World} {v : Value} (h : NoSl w v) (hm : Mod [] w w') : NoSl w' v := h.imp id fun ⟨r, h1, h2⟩ => ⟨r, h1, h2.ext hm⟩
theorem sthere_yes (s a b : Nat) (w : World) (h : Sls w s a b) : Calls Tryz.prog 37 #[.pointer (some ⟨s, 0, none⟩)] w fun e w' => e = .returned (.bool true) ∧ w = w' := by
 have c0 := Blk.cell' h (i := 0) rfl
 go_enter Tryz.func37, Tryz.ntmps37
 go_wp2_with fail
 go_ret
 exact ⟨rfl, rfl⟩
set_option maxHeartbeats 2000000 in
theorem sBytes_any (s a b p f c z : Nat) (w : World) (h : Sls w s a b) (hA : Rgn w a p f c z) (hb : c * z ≤ 1000000) (hz : z ≤ 1000000) : Calls Tryz.prog 11 #[.pointer (some ⟨s, 0, none⟩)] w fun e w' => e = .returned (.int .i64 ((c * z : Nat) - (z : Nat))) ∧ Mod [] w w' := by
 have TH := fun w h => sthere_yes s a b w h
 have BY := fun w h => gBytes_any a p f c z w h (by omega)
 have SI := fun w h => gSize_any a p f c z w h
 obtain ⟨B, hB⟩ : ∃ B, B = c * z := ⟨_, rfl⟩
 rw [← hB] at hb BY ⊢
 clear hB
 have y0 : (B : Int) ≤ 1000000 := by omega
 have y1 : (z : Int) ≤ 1000000 := by omega
 go_enter Tryz.func11, Tryz.ntmps11
 go_wp2_with (go_at_call 37; (with_reducible refine (TH _ h).mono ?_); rintro e w1 ⟨rfl, rfl⟩)
 refine wp_region_T [⟨0, true, []⟩, ⟨1, true, []⟩, ⟨2, true, []⟩, ⟨3, true, []⟩, ⟨4, true, []⟩, ⟨5, true, []⟩, ⟨7, true, []⟩, ⟨8, true, []⟩, ⟨9, true, []⟩, ⟨10, true, []⟩, ⟨11, true, []⟩, ⟨12, true, []⟩, ⟨6, false, [8, 12]⟩, ⟨13, false, []⟩, ⟨14, true, []⟩, ⟨15, true, []⟩] (by kernel_rfl) (by kernel_rfl) ?_
 have hm := Mod.drew [] w
 obtain ⟨x, hx⟩ : ∃ x, x = w.drew := ⟨_, rfl⟩
 rw [← hx] at hm ⊢
 clear hx
 have hSx := h.ext hm
 have hAx := hA.ext hm
 have c0 := Blk.cell' hSx (i := 0) rfl
 iterate 12 (refine wpT_n rfl rfl (fun K hK => ?_); go_wp2_with fail)
 refine wpT_callh rfl rfl (fun K hK => ?_)
 go_wp2_with (go_at_call 42; (with_reducible refine (BY _ hAx).mono ?_); rintro e w2 ⟨rfl, hm2⟩)
 have hA2 := hAx.ext hm2
 refine ⟨agains_cons rfl (again_const (fun _ => rfl)) (agains_cons rfl (again_load rfl rfl (hm2.block s (Blk.lt hSx) (by simp)) (Blk.kinds hSx)) agains_nil), ?_⟩
 refine wpT_call rfl rfl (fun K hK => ?_)
 go_wp2_with (go_at_call 39; (with_reducible refine (SI _ hA2).mono ?_); rintro e w3 ⟨rfl, rfl⟩)
 iterate 2 (refine wpT_n rfl rfl (fun K hK => ?_); go_wp2_with fail)
 refine wpT_nil ?_
 go_wp2_with fail
 go_ret
 exact ⟨rfl, hm.ext hm2⟩
def SHdP (w : World) (p q : Nat) (L : List Nat) (R : Pv × Int × Hd) (e : Ending) (w' : World) : Prop := e = .returned (.tuple #[R.2.2.v, .int .i64 R.2.1]) ∧ Pd w' p q R.1 L ∧ Mod [p] w w'
set_option maxRecDepth 1000000 in
set_option maxHeartbeats 8000000 in
theorem shead_any (r p q f c z : Nat) (v : Pv) (L : List Nat) (w : World) (hP : Pd w p q v L) (hR : Rgn w r p f c z) (hz : v.m.sz = z) (hfc : f + c ≤ v.m.dur.length) (hn : v.n + c * z ≤ 1000000) (hT : TabC w) (h0 : 0 ≠ p) (hrp : r ≠ p) :
   Calls Tryz.prog 43 #[.agg #[.pointer (some ⟨r, 0, none⟩)]] w (SHdP w p q L (headG f c z v)) := by
 have hs1 := hP.ok.m.s1
 have hs2 := hP.ok.m.s2
 have hn2 := hP.ok.m.n2
 rw [hz] at hs1 hs2
 have SI := fun w h => gSize_any r p f c z w h
 have BY := fun w h => gBytes_any r p f c z w h (by omega)
 have RD := fun w hP hR => gRead_any r p q f c z v L 0 (z : Nat) w hP hR hz hfc hn ⟨by omega, by omega⟩ ⟨by omega, by omega⟩
 have hBl := rdA_len f c z v 0 z
 unfold GRdP at RD
 unfold SHdP headG
 obtain ⟨⟨V, E, B⟩, hR0⟩ : ∃ R, R = rdA f c z v 0 z := ⟨_, rfl⟩
 rw [← hR0] at RD hBl ⊢
 dsimp only at RD hBl ⊢
 obtain ⟨CZ, hCZ⟩ : ∃ n, n = c * z := ⟨_, rfl⟩
 have hcz : (c : Int) * z - z = (CZ : Int) - z := by rw [hCZ]; push_cast; rfl
 rw [hcz]
 rw [← hCZ] at BY hBl hn
 have yc : (CZ : Int) ≤ 1000000 := by omega
 have yz : (z : Int) ≤ 4096 := by omega
 have hBl' : B.length ≤ 140737488355328 := by omega
 clear hR0 hCZ hcz hz hfc hn hBl hs1 hs2 hn2
 by_cases hE : E = 0
 · subst hE
   rw [if_pos rfl]
   have GT := fun w v hb hT => hget_any B v w hb hBl' hT
   unfold HgetP at GT
   have hwf := getH_wf B
   unfold seeH
   have hg0 : errH B ≠ 0 → getH B = hd0 := fun h => if_neg h
   obtain ⟨G, hG⟩ : ∃ G, G = getH B := ⟨_, rfl⟩
   obtain ⟨er, her⟩ : ∃ G, G = errH B := ⟨_, rfl⟩
   rw [← hG, ← her] at GT
   rw [← hG] at hwf
   rw [← hG, ← her] at hg0 ⊢
   clear hG her
   obtain ⟨gg, gc, gl, gs⟩ := G
   obtain ⟨w1', w2', w3', w4', w5'⟩ := hwf
   unfold Hd.v at *
   dsimp only at *
   go_enter Tryz.func43, Tryz.ntmps43
   go_wp2_with (with_reducible refine st_box ?_)
   refine StopOp.go rfl fun K hK => ?_
   refine wp_box (v := .agg #[.pointer (some ⟨r, 0, none⟩)]) (by rfl) ?_
   intro t w1 ht1 ht2 hm1 hT1
   simp only [put_some, List.set_cons_succ, List.set_cons_zero]
   refine hK _ _ ?_
   clear hK K
   have hS1 : Blk w1 t 87 [.pointer (some ⟨r, 0, none⟩)] := hT1
   go_wp2_with (with_reducible refine st_alloc ?_)
   refine StopOp.go rfl fun K hK => ?_
   refine wp_alloc zero_header ?_
   intro g w2 hg1 hg2 hm2 hB2
   simp only [put_some, List.set_cons_succ, List.set_cons_zero]
   refine hK _ _ ?_
   clear hK K
   have hG2 : Blk w2 g 25 [.int .u64 0, .int .u64 0, .int .i64 0, .int .u32 0] := hB2
   have hS2 := hS1.ext hm2
   have hM2 := hm1.ext hm2
   have hgw : w.heap.size ≤ g := by have := hm1.size; omega
   clear hT1 hB2 hS1 hm1 hm2
   go_wp2_with fail
   refine wp_region_T [⟨0, true, []⟩, ⟨1, true, []⟩, ⟨2, true, []⟩, ⟨3, true, []⟩, ⟨4, false, [1]⟩, ⟨5, false, []⟩, ⟨6, true, []⟩, ⟨7, true, []⟩, ⟨8, true, []⟩, ⟨9, true, []⟩, ⟨10, true, []⟩] (by kernel_rfl) (by kernel_rfl) ?_
   have hmD := Mod.drew [] w2
   obtain ⟨x, hx⟩ : ∃ x, x = w2.drew := ⟨_, rfl⟩
   rw [← hx] at hmD ⊢
   clear hx
   have hMx := hM2.ext hmD
   have hSx := hS2.ext hmD
   have hGx := hG2.ext hmD
   have hPx := hP.ext hMx
   have hRx := hR.ext hMx
   have d0 := hSx.cell' (i := 0) rfl
   iterate 4 (refine wpT_n rfl rfl (fun K hK => ?_); go_wp2_with fail)
   refine wpT_callh rfl rfl (fun K hK => ?_)
   go_wp2_with (go_at_call 39; (with_reducible refine (SI _ hRx).mono ?_); rintro e w3 ⟨rfl, rfl⟩)
   refine ⟨agains_same, ?_⟩
   refine wpT_call rfl rfl (fun K hK => ?_)
   go_wp2_with (go_at_call 44; (with_reducible refine (RD _ hPx hRx).mono ?_); rintro e w3 ⟨rv, rfl, ho3, hn3, hP3, hm3⟩; obtain ⟨ao3, cap3, rfl, _, _⟩ := ho3.sl.form)
   have hpw : p < x.heap.size := hPx.b.lt
   have htp : t ≠ p := by have := hP.b.lt; omega
   have hgp : g ≠ p := by have := hP.b.lt; omega
   have hM3 : Mod [p] w w3 := (hMx.weak (by simp)).trans hm3
   have hS3 := hSx.mod hm3 (by simpa using htp)
   have hG3 := hGx.mod hm3 (by simpa using hgp)
   have hR3 := hRx.mod hm3 (by simpa using hrp)
   have hT3 := hT.mod hM3 (by simpa using h0)
   have hb3 := ho3.bs
   iterate 5 (refine wpT_n rfl rfl (fun K hK => ?_); go_wp2_with fail)
   refine wpT_nil ?_
   go_wp2_with fail
   go_wp2_with (first
                 | (with_reducible refine st_alloc ?_)
                 | (go_at_call 94; (with_reducible refine (GT _ _ hb3 hT3).mono ?_); rintro e w4 ⟨rfl, hm4⟩))
   refine StopOp.go rfl fun K hK => ?_
   refine wp_alloc zero_header ?_
   intro h w5 hh1 hh2 hm5 hB5
   simp only [put_some, List.set_cons_succ, List.set_cons_zero]
   refine hK _ _ ?_
   clear hK K
   go_wp2_with (with_reducible refine st_store ?_)
   refine StopOp.go rfl fun K hK => ?_
   refine wp_store (u := .agg #[.int .u64 (gg : Nat), .int .u64 (gc : Nat), .int .i64 gl, .int .u32 (gs : Nat)]) (by rfl) (by rfl) (by kernel_rfl) hB5 (by simp [Value.cells]) (by simp [Value.cells, Value.oneCell']) ?_
   intro w6 hm6 hB6
   refine hK _ _ ?_
   clear hK K
   have hH6 : Blk w6 h 25 [.int .u64 (gg : Nat), .int .u64 (gc : Nat), .int .i64 gl, .int .u32 (gs : Nat)] := hB6
   have hm36 : Mod [] w3 w6 := (hm4.ext hm5).fresh hm6 (by have := hm4.size; simp; omega)
   clear hB5 hB6 hm4 hm5 hm6 d0
   go_wp2_with fail
   refine wp_region_T [⟨0, true, []⟩, ⟨1, true, []⟩, ⟨2, true, []⟩, ⟨3, true, []⟩, ⟨4, true, []⟩, ⟨5, true, []⟩, ⟨6, true, []⟩, ⟨8, true, []⟩, ⟨9, true, []⟩, ⟨7, false, [4, 9]⟩, ⟨10, false, [4]⟩, ⟨11, true, []⟩, ⟨12, true, []⟩, ⟨13, true, []⟩] (by kernel_rfl) (by kernel_rfl) ?_
   have hmE := Mod.drew [] w6
   obtain ⟨y, hy⟩ : ∃ y, y = w6.drew := ⟨_, rfl⟩
   rw [← hy] at hmE ⊢
   clear hy
   have hm3y := hm36.ext hmE
   have hHy := hH6.ext hmE
   have hSy := hS3.ext hm3y
   have hGy := hG3.ext hm3y
   have hRy := hR3.ext hm3y
   have l2 := hHy.cell' (i := 2) rfl
   have l0 := hSy.cell' (i := 0) rfl
   by_cases he : er = 0
   · subst he
     iterate 3 (refine wpT_n rfl rfl (fun K hK => ?_); go_wp2_with fail)
     iterate 6 (refine wpT_gq (gi := 2) rfl rfl rfl rfl rfl (fun K hK => ?_); go_wp2_with fail)
     refine wpT_gcallh (gi := 2) rfl rfl rfl rfl (fun K hK => ?_)
     go_wp2_with (go_at_call 42; (with_reducible refine (BY _ hRy).mono ?_); rintro e w7 ⟨rfl, hm7⟩)
     have hm37 := hm3y.ext hm7
     have hR7 := hRy.ext hm7
     have hH7 := hHy.ext hm7
     have hG7 := hGy.ext hm7
     have q0 := hH7.cell' (i := 0) rfl
     have q1 := hH7.cell' (i := 1) rfl
     have q2 := hH7.cell' (i := 2) rfl
     have q3 := hH7.cell' (i := 3) rfl
     refine ⟨agains_cons rfl (again_load rfl rfl (hm7.block h hHy.lt (by simp)) hHy.kinds) (agains_cons rfl (again_load rfl rfl (hm7.block t hSy.lt (by simp)) hSy.kinds) agains_nil), ?_⟩
     refine wpT_gcallh (gi := 2) rfl rfl rfl rfl (fun K hK => ?_)
     go_wp2_with (go_at_call 39; (with_reducible refine (SI _ hR7).mono ?_); rintro e w8 ⟨rfl, rfl⟩)
     refine ⟨agains_same, ?_⟩
     by_cases hl : gl ≤ (CZ : Int) - z
     · iterate 2 (refine wpT_gq (gi := 2) rfl rfl rfl rfl rfl (fun K hK => ?_); go_wp2_with fail)
       refine wpT_n rfl rfl (fun K hK => ?_)
       go_wp2_with fail
       refine wpT_nil ?_
       go_wp2_with (with_reducible refine st_store ?_)
       refine StopOp.go rfl fun K hK => ?_
       refine wp_store (u := .agg #[.int .u64 (gg : Nat), .int .u64 (gc : Nat), .int .i64 gl, .int .u32 (gs : Nat)]) (by rfl) (by rfl) (by kernel_rfl) hG7 (by simp [Value.cells]) (by simp [Value.cells, Value.oneCell']) ?_
       intro w90 hm90 hB90
       refine hK _ _ ?_
       clear hK K
       have z0 := hB90.cell' (i := 0) rfl
       have z1 := hB90.cell' (i := 1) rfl
       have z2 := hB90.cell' (i := 2) rfl
       have z3 := hB90.cell' (i := 3) rfl
       go_wp2_with fail
       exact bodyPost_ret (v := .tuple #[.agg #[.int .u64 (gg : Nat), .int .u64 (gc : Nat), .int .i64 gl, .int .u32 (gs : Nat)], .int .i64 0]) (by simp [results, Tryz.results43, go_sem, z0, z1, z2, z3]) rfl ⟨by first | rfl | rw [if_pos ⟨rfl, hl⟩], (hP3.ext hm37).keep0 hm90 (fun k hk hh => by have e : k = g := (by simpa using hh); have := hP.lt0 k hk; omega), (hM3.ext hm37).then hm90 (fun k hk => .inr (by have e : k = g := (by simpa using hk); omega))⟩
     · have hl' : (CZ : Int) - z < gl := by omega
       iterate 2 (refine wpT_gq (gi := 2) rfl rfl rfl rfl rfl (fun K hK => ?_); go_wp2_with fail)
       refine wpT_n rfl rfl (fun K hK => ?_)
       go_wp2_with fail
       refine wpT_nil ?_
       go_wp2_with (with_reducible refine st_store ?_)
       refine StopOp.go rfl fun K hK => ?_
       refine wp_store (u := .agg #[.int .u64 0, .int .u64 0, .int .i64 0, .int .u32 0]) (by rfl) (by rfl) (by kernel_rfl) hG7 (by simp [Value.cells]) (by simp [Value.cells, Value.oneCell']) ?_
       intro w90 hm90 hB90
       refine hK _ _ ?_
       clear hK K
       have z0 := hB90.cell' (i := 0) rfl
       have z1 := hB90.cell' (i := 1) rfl
       have z2 := hB90.cell' (i := 2) rfl
       have z3 := hB90.cell' (i := 3) rfl
       go_wp2_with fail
       exact bodyPost_ret (v := .tuple #[.agg #[.int .u64 0, .int .u64 0, .int .i64 0, .int .u32 0], .int .i64 0]) (by simp [results, Tryz.results43, go_sem, z0, z1, z2, z3]) rfl ⟨by first | rfl | (rw [if_neg (by omega)]; rfl), (hP3.ext hm37).keep0 hm90 (fun k hk hh => by have e : k = g := (by simpa using hh); have := hP.lt0 k hk; omega), (hM3.ext hm37).then hm90 (fun k hk => .inr (by have e : k = g := (by simpa using hk); omega))⟩
   · have dq : (er != 0) = true := bne_iff_ne.2 he
     iterate 3 (refine wpT_n rfl rfl (fun K hK => ?_); go_wp2_with fail)
     iterate 10 (refine wpT_gk (gi := 2) rfl rfl rfl rfl rfl rfl (fun K hK => ?_); go_wp2_with fail)
     refine wpT_n rfl rfl (fun K hK => ?_)
     go_wp2_with fail
     refine wpT_nil ?_
     go_wp2_with (with_reducible refine st_store ?_)
     refine StopOp.go rfl fun K hK => ?_
     refine wp_store (u := .agg #[.int .u64 0, .int .u64 0, .int .i64 0, .int .u32 0]) (by rfl) (by rfl) (by kernel_rfl) hGy (by simp [Value.cells]) (by simp [Value.cells, Value.oneCell']) ?_
     intro w90 hm90 hB90
     refine hK _ _ ?_
     clear hK K
     have z0 := hB90.cell' (i := 0) rfl
     have z1 := hB90.cell' (i := 1) rfl
     have z2 := hB90.cell' (i := 2) rfl
     have z3 := hB90.cell' (i := 3) rfl
     go_wp2_with fail
     exact bodyPost_ret (v := .tuple #[.agg #[.int .u64 0, .int .u64 0, .int .i64 0, .int .u32 0], .int .i64 0]) (by simp [results, Tryz.results43, go_sem, z0, z1, z2, z3]) rfl ⟨by first | rfl | (rw [if_neg (fun hh => he hh.1)]; rfl), (hP3.ext hm3y).keep0 hm90 (fun k hk hh => by have e : k = g := (by simpa using hh); have := hP.lt0 k hk; omega), (hM3.ext hm3y).then hm90 (fun k hk => .inr (by have e : k = g := (by simpa using hk); omega))⟩
 · rw [if_neg hE]
   have dE : (E != 0) = true := bne_iff_ne.2 hE
   go_enter Tryz.func43, Tryz.ntmps43
   go_wp2_with (with_reducible refine st_box ?_)
   refine StopOp.go rfl fun K hK => ?_
   refine wp_box (v := .agg #[.pointer (some ⟨r, 0, none⟩)]) (by rfl) ?_
   intro t w1 ht1 ht2 hm1 hT1
   simp only [put_some, List.set_cons_succ, List.set_cons_zero]
   refine hK _ _ ?_
   clear hK K
   have hS1 : Blk w1 t 87 [.pointer (some ⟨r, 0, none⟩)] := hT1
   go_wp2_with (with_reducible refine st_alloc ?_)
   refine StopOp.go rfl fun K hK => ?_
   refine wp_alloc zero_header ?_
   intro g w2 hg1 hg2 hm2 hB2
   simp only [put_some, List.set_cons_succ, List.set_cons_zero]
   refine hK _ _ ?_
   clear hK K
   have hG2 : Blk w2 g 25 [.int .u64 0, .int .u64 0, .int .i64 0, .int .u32 0] := hB2
   have hS2 := hS1.ext hm2
   have hM2 := hm1.ext hm2
   have hgw : w.heap.size ≤ g := by have := hm1.size; omega
   clear hT1 hB2 hS1 hm1 hm2
   go_wp2_with fail
   refine wp_region_T [⟨0, true, []⟩, ⟨1, true, []⟩, ⟨2, true, []⟩, ⟨3, true, []⟩, ⟨4, false, [1]⟩, ⟨5, false, []⟩, ⟨6, true, []⟩, ⟨7, true, []⟩, ⟨8, true, []⟩, ⟨9, true, []⟩, ⟨10, true, []⟩] (by kernel_rfl) (by kernel_rfl) ?_
   have hmD := Mod.drew [] w2
   obtain ⟨x, hx⟩ : ∃ x, x = w2.drew := ⟨_, rfl⟩
   rw [← hx] at hmD ⊢
   clear hx
   have hMx := hM2.ext hmD
   have hSx := hS2.ext hmD
   have hGx := hG2.ext hmD
   have hPx := hP.ext hMx
   have hRx := hR.ext hMx
   have d0 := hSx.cell' (i := 0) rfl
   iterate 4 (refine wpT_n rfl rfl (fun K hK => ?_); go_wp2_with fail)
   refine wpT_callh rfl rfl (fun K hK => ?_)
   go_wp2_with (go_at_call 39; (with_reducible refine (SI _ hRx).mono ?_); rintro e w3 ⟨rfl, rfl⟩)
   refine ⟨agains_same, ?_⟩
   refine wpT_call rfl rfl (fun K hK => ?_)
   go_wp2_with (go_at_call 44; (with_reducible refine (RD _ hPx hRx).mono ?_); rintro e w3 ⟨rv, rfl, ho3, hn3, hP3, hm3⟩; obtain ⟨ao3, cap3, rfl, _, _⟩ := ho3.sl.form)
   have hpw : p < x.heap.size := hPx.b.lt
   have htp : t ≠ p := by have := hP.b.lt; omega
   have hgp : g ≠ p := by have := hP.b.lt; omega
   have hM3 : Mod [p] w w3 := (hMx.weak (by simp)).trans hm3
   have hS3 := hSx.mod hm3 (by simpa using htp)
   have hG3 := hGx.mod hm3 (by simpa using hgp)
   have hR3 := hRx.mod hm3 (by simpa using hrp)
   have hT3 := hT.mod hM3 (by simpa using h0)
   have hb3 := ho3.bs
   iterate 5 (refine wpT_n rfl rfl (fun K hK => ?_); go_wp2_with fail)
   refine wpT_nil ?_
   go_wp2_with (with_reducible refine st_store ?_)
   refine StopOp.go rfl fun K hK => ?_
   refine wp_store (u := .agg #[.int .u64 0, .int .u64 0, .int .i64 0, .int .u32 0]) (by rfl) (by rfl) (by kernel_rfl) hG3 (by simp [Value.cells]) (by simp [Value.cells, Value.oneCell']) ?_
   intro w90 hm90 hB90
   refine hK _ _ ?_
   clear hK K
   have z0 := hB90.cell' (i := 0) rfl
   have z1 := hB90.cell' (i := 1) rfl
   have z2 := hB90.cell' (i := 2) rfl
   have z3 := hB90.cell' (i := 3) rfl
   go_wp2_with fail
   exact bodyPost_ret (v := .tuple #[.agg #[.int .u64 0, .int .u64 0, .int .i64 0, .int .u32 0], .int .i64 E]) (by simp [results, Tryz.results43, go_sem, z0, z1, z2, z3]) rfl ⟨rfl, hP3.keep0 hm90 (fun k hk hh => by have e : k = g := (by simpa using hh); have := hP.lt0 k hk; omega), hM3.then hm90 (fun k hk => .inr (by have e : k = g := (by simpa using hk); omega))⟩
end Go.Proofs.YtminfegoldgjpaaGreatDoor
