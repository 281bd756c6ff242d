import Derived.Test.YtdmnogmhnhjdgaaRiB
import Derived.Test.YtdmnogmhnhjdgaaRiE
import Derived.Test.YtdmnogmhnhjdgaaGPw
/-! RegionPlays: plays. -/
set_option linter.unusedVariables false
set_option linter.unusedSimpArgs false
set_option maxRecDepth 100000
namespace Go.Proofs.Ytdmnogmhnhjdgaa
open Go.RowKit Gw

section
variable {W w : World} {x p q P Q z N : Nat} {v : Pv} {L M : List Nat} {o0 o1 : Option Reg2}
set_option maxRecDepth 1000000 in
set_option maxHeartbeats 8000000 in
theorem play40_any (a n sf sc : Int) (bw fv : Value) (l : List UInt8) (F : List (Int × Int)) (ho : OkGop W ⟨4, false, a, n, bw, l, sf, sc, fv, F⟩) (H : Wld W w x p q P Q z N v v L M o0 o1) (hN : N ≤ 9) (hz : z ≤ 128) (hn : v.n ≤ 900000) (hr : v.m.row.length ≤ 900000) :
    Calls Try.prog 49 #[.pointer (some ⟨x, 0, none⟩), .agg #[.int .i64 4, .bool false, .int .i64 a, .int .i64 n, bw, .int .i64 sf, .int .i64 sc, fv]] w (PlayP W x p q P Q z N v.n v.m.row.length) := by
  obtain ⟨hb, hF, hold, wk, wa, wn, wsf, wsc, hl, hf⟩ := ho
  dsimp only at hb hF hold wk wa wn wsf wsc hl hf
  obtain ⟨aob, capb, rfl, _, _⟩ := hb.form
  obtain ⟨aof, capf, rfl, _, _⟩ := hF.form
  have hvz := H.vz
  have hvN := H.vN
  have hnew := H.dn
  have hnewr := H.rn
  have hWx := H.xn
  have hWw := H.m.size
  have AR := fun w h => pArm_any p q v L n w h wn.2
  have AQ := fun w h => qArm_any P Q v M n w h wn.2
  obtain ⟨s1, s2⟩ := arm_sz v n
  obtain ⟨E, hE⟩ : ∃ E : Int, E = if v.off = true then 60 else 0 := ⟨_, rfl⟩
  rw [← hE] at AR AQ
  clear hE
  obtain ⟨V, hV⟩ : ∃ V, V = v.arm n := ⟨_, rfl⟩
  rw [← hV] at AR AQ s1 s2
  clear hV
  go_enter Try.func49, Try.ntmps49
  unfold PlayP
  go_wp2_with (with_reducible refine st_box ?_)
  refine StopOp.go rfl fun K hK => ?_
  refine wp_box (v := .agg #[.int .i64 4, .bool false, .int .i64 a, .int .i64 n, .slice aob l.length capb, .int .i64 sf, .int .i64 sc, .slice aof F.length capf]) (by rfl) ?_
  intro t w1 ht1 ht2 hm1 hT
  simp only [put_some, List.set_cons_succ, List.set_cons_zero]
  refine hK _ _ ?_
  clear hK K
  have hT1 : Blk w1 t 96 [.int .i64 4, .bool false, .int .i64 a, .int .i64 n, .slice aob l.length capb, .int .i64 sf, .int .i64 sc, .slice aof F.length capf] := hT
  have hW1 := H.ext hm1
  have d1 := hT1.cell' (i := 1) rfl
  clear hT
  go_wp2_with fail
  clear d1
  refine wp_region_T [⟨0, true, []⟩, ⟨1, true, []⟩, ⟨2, true, []⟩, ⟨3, true, []⟩, ⟨4, true, []⟩, ⟨5, true, []⟩, ⟨6, true, []⟩, ⟨7, true, []⟩, ⟨8, true, []⟩, ⟨9, true, []⟩, ⟨10, true, []⟩, ⟨11, true, []⟩, ⟨12, true, []⟩, ⟨13, true, []⟩] (by kernel_rfl) (by kernel_rfl) ?_
  have hmD := Mod.drew [] w1
  obtain ⟨xa, hxa⟩ : ∃ xa, xa = w1.drew := ⟨_, rfl⟩
  rw [← hxa] at hmD ⊢
  clear hxa
  have hW2 := hW1.ext hmD
  have hT2 := hT1.ext hmD
  have htl : ∀ k ∈ p :: L, k ≠ t := fun k hk e => by have := H.d.lt0 k hk; omega
  have htr : ∀ k ∈ P :: M, k ≠ t := fun k hk e => by have := H.r.lt0 k hk; omega
  have htx : x ≠ t := fun e => by have := H.bx.lt; omega
  have hbA : Bs xa (.slice aob l.length capb) l := Sl.ext hb hW2.m
  have hFA : Fs xa (.slice aof F.length capf) F := hF.far hW2.m (by simp)
  clear hW1 hT1 hm1
  have d0 := hT2.cell' (i := 0) rfl
  have d1 := hT2.cell' (i := 1) rfl
  have d2 := hT2.cell' (i := 2) rfl
  have d3 := hT2.cell' (i := 3) rfl
  have d4 := hT2.cell' (i := 4) rfl
  have d5 := hT2.cell' (i := 5) rfl
  have d6 := hT2.cell' (i := 6) rfl
  have d7 := hT2.cell' (i := 7) rfl
  have x2 := Blk.cell' hW2.bx (i := 2) (u := rvO o0) rfl
  have x4 := Blk.cell' hW2.bx (i := 4) (u := hvO o0) rfl
  iterate 14 (refine wpT_n rfl rfl (fun K hK => ?_); go_wp2_with fail)
  refine wpT_nil ?_
  go_wp2_with fail
  clear d0 d1 d2 d3 d4 d5 d6 d7 x2 x4
  refine wp_region_T [⟨0, true, []⟩, ⟨1, true, []⟩, ⟨2, true, []⟩, ⟨3, true, []⟩, ⟨4, true, []⟩, ⟨5, true, []⟩, ⟨7, true, []⟩, ⟨8, true, []⟩, ⟨9, true, []⟩, ⟨10, true, []⟩, ⟨11, true, []⟩, ⟨12, true, []⟩, ⟨6, false, [8, 10, 12]⟩, ⟨13, false, []⟩, ⟨14, true, []⟩, ⟨15, true, []⟩] (by kernel_rfl) (by kernel_rfl) ?_
  have hmE := Mod.drew [] xa
  obtain ⟨xb, hxb⟩ : ∃ xb, xb = xa.drew := ⟨_, rfl⟩
  rw [← hxb] at hmE ⊢
  clear hxb
  have hW3 := hW2.ext hmE
  have hT3 := hT2.ext hmE
  have hd3 := hW3.d
  have hxB := hW3.bx
  have c0 := Blk.cell' hxB (i := 0) rfl
  have c1 := Blk.cell' hxB (i := 1) rfl
  have d3 := hT3.cell' (i := 3) rfl
  iterate 12 (refine wpT_n rfl rfl (fun K hK => ?_); go_wp2_with fail)
  refine wpT_callh rfl rfl (fun K hK => ?_)
  go_wp2_with (go_at_call 14; (with_reducible refine (AR _ hd3).mono ?_); rintro e w4 ⟨rfl, hP4, hm4⟩)
  refine ⟨agains_cons rfl (again_const (fun _ => rfl)) (agains_cons rfl (again_load rfl rfl (hm4.block x hxB.lt (fun hh => hW3.xd (by have e : x = p := (by simpa using hh); simp [e]))) hxB.kinds) (agains_cons rfl (again_load rfl rfl (hm4.block t hT3.lt (fun hh => htl p List.mem_cons_self (by have e : t = p := (by simpa using hh); exact e.symm))) hT3.kinds) agains_nil)), ?_⟩
  have hW4 := hW3.dt hP4 (hm4.weak (by simp)) (fun k hk => .inl hk) (by rw [s1]; exact hvz) (by rw [s1]; exact hvN)
  have hr4 := hW4.r
  refine wpT_call rfl rfl (fun K hK => ?_)
  go_wp2_with (go_at_call 84; (with_reducible refine (AQ _ hr4).mono ?_); rintro e w5 ⟨rfl, hP5, hm5⟩)
  have hW5 := hW4.rt hP5 (hm5.weak (by simp)) (fun k hk => .inl hk) (by rw [s1]; exact hvz) (by rw [s1]; exact hvN)
  iterate 2 (refine wpT_n rfl rfl (fun K hK => ?_); go_wp2_with fail)
  refine wpT_nil ?_
  go_wp2_with fail
  go_ret
  exact ⟨V, L, M, o0, o1, rfl, hW5, by omega, by rw [s1]; omega⟩
set_option maxRecDepth 1000000 in
set_option maxHeartbeats 8000000 in
theorem play41_any (a n sf sc : Int) (bw fv : Value) (l : List UInt8) (F : List (Int × Int)) (ho : OkGop W ⟨4, true, a, n, bw, l, sf, sc, fv, F⟩) (H : Wld W w x p q P Q z N v v L M o0 o1) (hN : N ≤ 9) (hz : z ≤ 128) (hn : v.n ≤ 900000) (hr : v.m.row.length ≤ 900000) :
    Calls Try.prog 49 #[.pointer (some ⟨x, 0, none⟩), .agg #[.int .i64 4, .bool true, .int .i64 a, .int .i64 n, bw, .int .i64 sf, .int .i64 sc, fv]] w (PlayP W x p q P Q z N v.n v.m.row.length) := by
  obtain ⟨hb, hF, hold, wk, wa, wn, wsf, wsc, hl, hf⟩ := ho
  dsimp only at hb hF hold wk wa wn wsf wsc hl hf
  obtain ⟨aob, capb, rfl, _, _⟩ := hb.form
  obtain ⟨aof, capf, rfl, _, _⟩ := hF.form
  have hvz := H.vz
  have hvN := H.vN
  have hnew := H.dn
  have hnewr := H.rn
  have hWx := H.xn
  have hWw := H.m.size
  have AR := fun w h => pArm_any p q v L n w h wn.2
  have AQ := fun w h => qArm_any P Q v M n w h wn.2
  obtain ⟨s1, s2⟩ := arm_sz v n
  obtain ⟨E, hE⟩ : ∃ E : Int, E = if v.off = true then 60 else 0 := ⟨_, rfl⟩
  rw [← hE] at AR AQ
  clear hE
  obtain ⟨V, hV⟩ : ∃ V, V = v.arm n := ⟨_, rfl⟩
  rw [← hV] at AR AQ s1 s2
  clear hV
  go_enter Try.func49, Try.ntmps49
  unfold PlayP
  go_wp2_with (with_reducible refine st_box ?_)
  refine StopOp.go rfl fun K hK => ?_
  refine wp_box (v := .agg #[.int .i64 4, .bool true, .int .i64 a, .int .i64 n, .slice aob l.length capb, .int .i64 sf, .int .i64 sc, .slice aof F.length capf]) (by rfl) ?_
  intro t w1 ht1 ht2 hm1 hT
  simp only [put_some, List.set_cons_succ, List.set_cons_zero]
  refine hK _ _ ?_
  clear hK K
  have hT1 : Blk w1 t 96 [.int .i64 4, .bool true, .int .i64 a, .int .i64 n, .slice aob l.length capb, .int .i64 sf, .int .i64 sc, .slice aof F.length capf] := hT
  have hW1 := H.ext hm1
  have d1 := hT1.cell' (i := 1) rfl
  clear hT
  go_wp2_with fail
  clear d1
  refine wp_region_T [⟨0, true, []⟩, ⟨1, true, []⟩, ⟨2, true, []⟩, ⟨3, true, []⟩, ⟨4, true, []⟩, ⟨5, true, []⟩, ⟨6, true, []⟩, ⟨7, true, []⟩, ⟨8, true, []⟩, ⟨9, true, []⟩, ⟨10, true, []⟩, ⟨11, true, []⟩, ⟨12, true, []⟩, ⟨13, true, []⟩] (by kernel_rfl) (by kernel_rfl) ?_
  have hmD := Mod.drew [] w1
  obtain ⟨xa, hxa⟩ : ∃ xa, xa = w1.drew := ⟨_, rfl⟩
  rw [← hxa] at hmD ⊢
  clear hxa
  have hW2 := hW1.ext hmD
  have hT2 := hT1.ext hmD
  have htl : ∀ k ∈ p :: L, k ≠ t := fun k hk e => by have := H.d.lt0 k hk; omega
  have htr : ∀ k ∈ P :: M, k ≠ t := fun k hk e => by have := H.r.lt0 k hk; omega
  have htx : x ≠ t := fun e => by have := H.bx.lt; omega
  have hbA : Bs xa (.slice aob l.length capb) l := Sl.ext hb hW2.m
  have hFA : Fs xa (.slice aof F.length capf) F := hF.far hW2.m (by simp)
  clear hW1 hT1 hm1
  have d0 := hT2.cell' (i := 0) rfl
  have d1 := hT2.cell' (i := 1) rfl
  have d2 := hT2.cell' (i := 2) rfl
  have d3 := hT2.cell' (i := 3) rfl
  have d4 := hT2.cell' (i := 4) rfl
  have d5 := hT2.cell' (i := 5) rfl
  have d6 := hT2.cell' (i := 6) rfl
  have d7 := hT2.cell' (i := 7) rfl
  have x3 := Blk.cell' hW2.bx (i := 3) (u := rvO o1) rfl
  have x5 := Blk.cell' hW2.bx (i := 5) (u := hvO o1) rfl
  iterate 14 (refine wpT_n rfl rfl (fun K hK => ?_); go_wp2_with fail)
  refine wpT_nil ?_
  go_wp2_with fail
  clear d0 d1 d2 d3 d4 d5 d6 d7 x3 x5
  refine wp_region_T [⟨0, true, []⟩, ⟨1, true, []⟩, ⟨2, true, []⟩, ⟨3, true, []⟩, ⟨4, true, []⟩, ⟨5, true, []⟩, ⟨7, true, []⟩, ⟨8, true, []⟩, ⟨9, true, []⟩, ⟨10, true, []⟩, ⟨11, true, []⟩, ⟨12, true, []⟩, ⟨6, false, [8, 10, 12]⟩, ⟨13, false, []⟩, ⟨14, true, []⟩, ⟨15, true, []⟩] (by kernel_rfl) (by kernel_rfl) ?_
  have hmE := Mod.drew [] xa
  obtain ⟨xb, hxb⟩ : ∃ xb, xb = xa.drew := ⟨_, rfl⟩
  rw [← hxb] at hmE ⊢
  clear hxb
  have hW3 := hW2.ext hmE
  have hT3 := hT2.ext hmE
  have hd3 := hW3.d
  have hxB := hW3.bx
  have c0 := Blk.cell' hxB (i := 0) rfl
  have c1 := Blk.cell' hxB (i := 1) rfl
  have d3 := hT3.cell' (i := 3) rfl
  iterate 12 (refine wpT_n rfl rfl (fun K hK => ?_); go_wp2_with fail)
  refine wpT_callh rfl rfl (fun K hK => ?_)
  go_wp2_with (go_at_call 14; (with_reducible refine (AR _ hd3).mono ?_); rintro e w4 ⟨rfl, hP4, hm4⟩)
  refine ⟨agains_cons rfl (again_const (fun _ => rfl)) (agains_cons rfl (again_load rfl rfl (hm4.block x hxB.lt (fun hh => hW3.xd (by have e : x = p := (by simpa using hh); simp [e]))) hxB.kinds) (agains_cons rfl (again_load rfl rfl (hm4.block t hT3.lt (fun hh => htl p List.mem_cons_self (by have e : t = p := (by simpa using hh); exact e.symm))) hT3.kinds) agains_nil)), ?_⟩
  have hW4 := hW3.dt hP4 (hm4.weak (by simp)) (fun k hk => .inl hk) (by rw [s1]; exact hvz) (by rw [s1]; exact hvN)
  have hr4 := hW4.r
  refine wpT_call rfl rfl (fun K hK => ?_)
  go_wp2_with (go_at_call 84; (with_reducible refine (AQ _ hr4).mono ?_); rintro e w5 ⟨rfl, hP5, hm5⟩)
  have hW5 := hW4.rt hP5 (hm5.weak (by simp)) (fun k hk => .inl hk) (by rw [s1]; exact hvz) (by rw [s1]; exact hvN)
  iterate 2 (refine wpT_n rfl rfl (fun K hK => ?_); go_wp2_with fail)
  refine wpT_nil ?_
  go_wp2_with fail
  go_ret
  exact ⟨V, L, M, o0, o1, rfl, hW5, by omega, by rw [s1]; omega⟩
set_option maxRecDepth 1000000 in
set_option maxHeartbeats 8000000 in
theorem play50_any (a n sf sc : Int) (bw fv : Value) (l : List UInt8) (F : List (Int × Int)) (ho : OkGop W ⟨5, false, a, n, bw, l, sf, sc, fv, F⟩) (H : Wld W w x p q P Q z N v v L M o0 o1) (hN : N ≤ 9) (hz : z ≤ 128) (hn : v.n ≤ 900000) (hr : v.m.row.length ≤ 900000) :
    Calls Try.prog 49 #[.pointer (some ⟨x, 0, none⟩), .agg #[.int .i64 5, .bool false, .int .i64 a, .int .i64 n, bw, .int .i64 sf, .int .i64 sc, fv]] w (PlayP W x p q P Q z N v.n v.m.row.length) := by
  obtain ⟨hb, hF, hold, wk, wa, wn, wsf, wsc, hl, hf⟩ := ho
  dsimp only at hb hF hold wk wa wn wsf wsc hl hf
  obtain ⟨aob, capb, rfl, _, _⟩ := hb.form
  obtain ⟨aof, capf, rfl, _, _⟩ := hF.form
  have hvz := H.vz
  have hvN := H.vN
  have hnew := H.dn
  have hnewr := H.rn
  have hWx := H.xn
  have hWw := H.m.size
  have CF := fun w h => copyF_any F (.slice aof F.length capf) w h (by omega)
  have RE := fun w fw h hF hFL => pRestart_any p q v L F fw w h (by omega) hF hFL
  have RQ := fun w fw h hF hFL => qRestart_any P Q v M F fw w h (by omega) hF hFL
  unfold PdP at RE
  unfold PrP at RQ
  obtain ⟨s1, s2, s3, s4⟩ := re_sz v F
  have s5 : (v.re F).m.row.length = 0 := by rw [s3]; rfl
  obtain ⟨V, hV⟩ : ∃ V, V = v.re F := ⟨_, rfl⟩
  rw [← hV] at RE RQ s1 s2 s4 s5
  clear hV s3
  go_enter Try.func49, Try.ntmps49
  unfold PlayP
  go_wp2_with (with_reducible refine st_box ?_)
  refine StopOp.go rfl fun K hK => ?_
  refine wp_box (v := .agg #[.int .i64 5, .bool false, .int .i64 a, .int .i64 n, .slice aob l.length capb, .int .i64 sf, .int .i64 sc, .slice aof F.length capf]) (by rfl) ?_
  intro t w1 ht1 ht2 hm1 hT
  simp only [put_some, List.set_cons_succ, List.set_cons_zero]
  refine hK _ _ ?_
  clear hK K
  have hT1 : Blk w1 t 96 [.int .i64 5, .bool false, .int .i64 a, .int .i64 n, .slice aob l.length capb, .int .i64 sf, .int .i64 sc, .slice aof F.length capf] := hT
  have hW1 := H.ext hm1
  have d1 := hT1.cell' (i := 1) rfl
  clear hT
  go_wp2_with fail
  clear d1
  refine wp_region_T [⟨0, true, []⟩, ⟨1, true, []⟩, ⟨2, true, []⟩, ⟨3, true, []⟩, ⟨4, true, []⟩, ⟨5, true, []⟩, ⟨6, true, []⟩, ⟨7, true, []⟩, ⟨8, true, []⟩, ⟨9, true, []⟩, ⟨10, true, []⟩, ⟨11, true, []⟩, ⟨12, true, []⟩, ⟨13, true, []⟩] (by kernel_rfl) (by kernel_rfl) ?_
  have hmD := Mod.drew [] w1
  obtain ⟨xa, hxa⟩ : ∃ xa, xa = w1.drew := ⟨_, rfl⟩
  rw [← hxa] at hmD ⊢
  clear hxa
  have hW2 := hW1.ext hmD
  have hT2 := hT1.ext hmD
  have htl : ∀ k ∈ p :: L, k ≠ t := fun k hk e => by have := H.d.lt0 k hk; omega
  have htr : ∀ k ∈ P :: M, k ≠ t := fun k hk e => by have := H.r.lt0 k hk; omega
  have htx : x ≠ t := fun e => by have := H.bx.lt; omega
  have hbA : Bs xa (.slice aob l.length capb) l := Sl.ext hb hW2.m
  have hFA : Fs xa (.slice aof F.length capf) F := hF.far hW2.m (by simp)
  clear hW1 hT1 hm1
  have d0 := hT2.cell' (i := 0) rfl
  have d1 := hT2.cell' (i := 1) rfl
  have d2 := hT2.cell' (i := 2) rfl
  have d3 := hT2.cell' (i := 3) rfl
  have d4 := hT2.cell' (i := 4) rfl
  have d5 := hT2.cell' (i := 5) rfl
  have d6 := hT2.cell' (i := 6) rfl
  have d7 := hT2.cell' (i := 7) rfl
  have x2 := Blk.cell' hW2.bx (i := 2) (u := rvO o0) rfl
  have x4 := Blk.cell' hW2.bx (i := 4) (u := hvO o0) rfl
  iterate 14 (refine wpT_n rfl rfl (fun K hK => ?_); go_wp2_with fail)
  refine wpT_nil ?_
  go_wp2_with fail
  clear d0 d1 d2 d3 d4 d5 d6 d7 x2 x4
  refine wp_region_T [⟨0, true, []⟩, ⟨1, true, []⟩, ⟨2, true, []⟩, ⟨3, true, []⟩, ⟨4, true, []⟩, ⟨5, true, []⟩, ⟨8, true, []⟩, ⟨9, true, []⟩, ⟨10, true, []⟩, ⟨11, true, []⟩, ⟨12, true, []⟩, ⟨13, true, []⟩, ⟨6, false, [1, 3, 9, 11, 13]⟩, ⟨7, false, [9, 11, 13]⟩, ⟨14, false, []⟩, ⟨15, true, []⟩, ⟨16, true, []⟩] (by kernel_rfl) (by kernel_rfl) ?_
  have hmE := Mod.drew [] xa
  obtain ⟨xb, hxb⟩ : ∃ xb, xb = xa.drew := ⟨_, rfl⟩
  rw [← hxb] at hmE ⊢
  clear hxb
  have hW3 := hW2.ext hmE
  have hT3 := hT2.ext hmE
  have hxB := hW3.bx
  have hFB : Fs xb (.slice aof F.length capf) F := hFA.far hmE (by simp)
  have c0 := Blk.cell' hxB (i := 0) rfl
  have c1 := Blk.cell' hxB (i := 1) rfl
  have d7 := hT3.cell' (i := 7) rfl
  iterate 12 (refine wpT_n rfl rfl (fun K hK => ?_); go_wp2_with fail)
  refine wpT_callh rfl rfl (fun K hK => ?_)
  go_wp2_with (go_at_call 24; (with_reducible refine (CF _ hFB).mono ?_); rintro e w4 ⟨fw, rfl, hF4, hn4, hm4⟩)
  have hxt : x ∉ ([] : List Nat) := by simp
  refine ⟨agains_cons rfl (again_const (fun _ => rfl)) (agains_cons rfl (again_load rfl rfl (hm4.block x hxB.lt (by simp)) hxB.kinds) (agains_cons rfl (again_const (fun _ => rfl)) (agains_cons rfl (again_load rfl rfl (hm4.block x hxB.lt (by simp)) hxB.kinds) (agains_cons rfl (again_load rfl rfl (hm4.block t hT3.lt (by simp)) hT3.kinds) agains_nil)))), ?_⟩
  have hW4 := hW3.ext hm4
  have hT4 := hT3.ext hm4
  have hd4 := hW4.d
  have hxC := hW4.bx
  refine wpT_callh rfl rfl (fun K hK => ?_)
  go_wp2_with (go_at_call 23; (with_reducible refine (RE _ _ hd4 hF4 (fun _ b hb hh => by have := hn4 b hb; have := hW3.d.lt0 b (List.mem_cons_of_mem _ hh); omega)).mono ?_); rintro e w5 ⟨rfl, L5, hP5, hm5, hL5⟩)
  refine ⟨agains_cons rfl (again_const (fun _ => rfl)) (agains_cons rfl (again_load rfl rfl (hm5.block x hxC.lt hW4.xd) hxC.kinds) (agains_cons rfl (again_load rfl rfl (hm5.block t hT4.lt (fun hh => htl t hh rfl)) hT4.kinds) agains_nil)), ?_⟩
  have hW5 := hW4.dt hP5 hm5 hL5 (by rw [s1]; exact hvz) (by rw [s2]; exact hvN)
  have hr5 := hW5.r
  have hF5 : Fs w5 (.slice aof F.length capf) F := (hFB.far hm4 (by simp)).far hm5 (fun h0 b hb hh => by have := hold h0 b hb; have := hnew b hh; omega)
  refine wpT_call rfl rfl (fun K hK => ?_)
  go_wp2_with (go_at_call 51; (with_reducible refine (RQ _ _ hr5 hF5 (fun h0 b hb hh => by have := hold h0 b hb; have := hnewr b (List.mem_cons_of_mem _ hh); omega)).mono ?_); rintro e w6 ⟨rfl, M6, hP6, hm6, hM6⟩)
  have hW6 := hW5.rt hP6 hm6 hM6 (by rw [s1]; exact hvz) (by rw [s2]; exact hvN)
  iterate 2 (refine wpT_n rfl rfl (fun K hK => ?_); go_wp2_with fail)
  refine wpT_nil ?_
  go_wp2_with fail
  go_ret
  exact ⟨V, L5, M6, o0, o1, rfl, hW6, by omega, by omega⟩
set_option maxRecDepth 1000000 in
set_option maxHeartbeats 8000000 in
theorem play51_any (a n sf sc : Int) (bw fv : Value) (l : List UInt8) (F : List (Int × Int)) (ho : OkGop W ⟨5, true, a, n, bw, l, sf, sc, fv, F⟩) (H : Wld W w x p q P Q z N v v L M o0 o1) (hN : N ≤ 9) (hz : z ≤ 128) (hn : v.n ≤ 900000) (hr : v.m.row.length ≤ 900000) :
    Calls Try.prog 49 #[.pointer (some ⟨x, 0, none⟩), .agg #[.int .i64 5, .bool true, .int .i64 a, .int .i64 n, bw, .int .i64 sf, .int .i64 sc, fv]] w (PlayP W x p q P Q z N v.n v.m.row.length) := by
  obtain ⟨hb, hF, hold, wk, wa, wn, wsf, wsc, hl, hf⟩ := ho
  dsimp only at hb hF hold wk wa wn wsf wsc hl hf
  obtain ⟨aob, capb, rfl, _, _⟩ := hb.form
  obtain ⟨aof, capf, rfl, _, _⟩ := hF.form
  have hvz := H.vz
  have hvN := H.vN
  have hnew := H.dn
  have hnewr := H.rn
  have hWx := H.xn
  have hWw := H.m.size
  have CF := fun w h => copyF_any F (.slice aof F.length capf) w h (by omega)
  have RE := fun w fw h hF hFL => pRestart_any p q v L F fw w h (by omega) hF hFL
  have RQ := fun w fw h hF hFL => qRestart_any P Q v M F fw w h (by omega) hF hFL
  unfold PdP at RE
  unfold PrP at RQ
  obtain ⟨s1, s2, s3, s4⟩ := re_sz v F
  have s5 : (v.re F).m.row.length = 0 := by rw [s3]; rfl
  obtain ⟨V, hV⟩ : ∃ V, V = v.re F := ⟨_, rfl⟩
  rw [← hV] at RE RQ s1 s2 s4 s5
  clear hV s3
  go_enter Try.func49, Try.ntmps49
  unfold PlayP
  go_wp2_with (with_reducible refine st_box ?_)
  refine StopOp.go rfl fun K hK => ?_
  refine wp_box (v := .agg #[.int .i64 5, .bool true, .int .i64 a, .int .i64 n, .slice aob l.length capb, .int .i64 sf, .int .i64 sc, .slice aof F.length capf]) (by rfl) ?_
  intro t w1 ht1 ht2 hm1 hT
  simp only [put_some, List.set_cons_succ, List.set_cons_zero]
  refine hK _ _ ?_
  clear hK K
  have hT1 : Blk w1 t 96 [.int .i64 5, .bool true, .int .i64 a, .int .i64 n, .slice aob l.length capb, .int .i64 sf, .int .i64 sc, .slice aof F.length capf] := hT
  have hW1 := H.ext hm1
  have d1 := hT1.cell' (i := 1) rfl
  clear hT
  go_wp2_with fail
  clear d1
  refine wp_region_T [⟨0, true, []⟩, ⟨1, true, []⟩, ⟨2, true, []⟩, ⟨3, true, []⟩, ⟨4, true, []⟩, ⟨5, true, []⟩, ⟨6, true, []⟩, ⟨7, true, []⟩, ⟨8, true, []⟩, ⟨9, true, []⟩, ⟨10, true, []⟩, ⟨11, true, []⟩, ⟨12, true, []⟩, ⟨13, true, []⟩] (by kernel_rfl) (by kernel_rfl) ?_
  have hmD := Mod.drew [] w1
  obtain ⟨xa, hxa⟩ : ∃ xa, xa = w1.drew := ⟨_, rfl⟩
  rw [← hxa] at hmD ⊢
  clear hxa
  have hW2 := hW1.ext hmD
  have hT2 := hT1.ext hmD
  have htl : ∀ k ∈ p :: L, k ≠ t := fun k hk e => by have := H.d.lt0 k hk; omega
  have htr : ∀ k ∈ P :: M, k ≠ t := fun k hk e => by have := H.r.lt0 k hk; omega
  have htx : x ≠ t := fun e => by have := H.bx.lt; omega
  have hbA : Bs xa (.slice aob l.length capb) l := Sl.ext hb hW2.m
  have hFA : Fs xa (.slice aof F.length capf) F := hF.far hW2.m (by simp)
  clear hW1 hT1 hm1
  have d0 := hT2.cell' (i := 0) rfl
  have d1 := hT2.cell' (i := 1) rfl
  have d2 := hT2.cell' (i := 2) rfl
  have d3 := hT2.cell' (i := 3) rfl
  have d4 := hT2.cell' (i := 4) rfl
  have d5 := hT2.cell' (i := 5) rfl
  have d6 := hT2.cell' (i := 6) rfl
  have d7 := hT2.cell' (i := 7) rfl
  have x3 := Blk.cell' hW2.bx (i := 3) (u := rvO o1) rfl
  have x5 := Blk.cell' hW2.bx (i := 5) (u := hvO o1) rfl
  iterate 14 (refine wpT_n rfl rfl (fun K hK => ?_); go_wp2_with fail)
  refine wpT_nil ?_
  go_wp2_with fail
  clear d0 d1 d2 d3 d4 d5 d6 d7 x3 x5
  refine wp_region_T [⟨0, true, []⟩, ⟨1, true, []⟩, ⟨2, true, []⟩, ⟨3, true, []⟩, ⟨4, true, []⟩, ⟨5, true, []⟩, ⟨8, true, []⟩, ⟨9, true, []⟩, ⟨10, true, []⟩, ⟨11, true, []⟩, ⟨12, true, []⟩, ⟨13, true, []⟩, ⟨6, false, [1, 3, 9, 11, 13]⟩, ⟨7, false, [9, 11, 13]⟩, ⟨14, false, []⟩, ⟨15, true, []⟩, ⟨16, true, []⟩] (by kernel_rfl) (by kernel_rfl) ?_
  have hmE := Mod.drew [] xa
  obtain ⟨xb, hxb⟩ : ∃ xb, xb = xa.drew := ⟨_, rfl⟩
  rw [← hxb] at hmE ⊢
  clear hxb
  have hW3 := hW2.ext hmE
  have hT3 := hT2.ext hmE
  have hxB := hW3.bx
  have hFB : Fs xb (.slice aof F.length capf) F := hFA.far hmE (by simp)
  have c0 := Blk.cell' hxB (i := 0) rfl
  have c1 := Blk.cell' hxB (i := 1) rfl
  have d7 := hT3.cell' (i := 7) rfl
  iterate 12 (refine wpT_n rfl rfl (fun K hK => ?_); go_wp2_with fail)
  refine wpT_callh rfl rfl (fun K hK => ?_)
  go_wp2_with (go_at_call 24; (with_reducible refine (CF _ hFB).mono ?_); rintro e w4 ⟨fw, rfl, hF4, hn4, hm4⟩)
  have hxt : x ∉ ([] : List Nat) := by simp
  refine ⟨agains_cons rfl (again_const (fun _ => rfl)) (agains_cons rfl (again_load rfl rfl (hm4.block x hxB.lt (by simp)) hxB.kinds) (agains_cons rfl (again_const (fun _ => rfl)) (agains_cons rfl (again_load rfl rfl (hm4.block x hxB.lt (by simp)) hxB.kinds) (agains_cons rfl (again_load rfl rfl (hm4.block t hT3.lt (by simp)) hT3.kinds) agains_nil)))), ?_⟩
  have hW4 := hW3.ext hm4
  have hT4 := hT3.ext hm4
  have hd4 := hW4.d
  have hxC := hW4.bx
  refine wpT_callh rfl rfl (fun K hK => ?_)
  go_wp2_with (go_at_call 23; (with_reducible refine (RE _ _ hd4 hF4 (fun _ b hb hh => by have := hn4 b hb; have := hW3.d.lt0 b (List.mem_cons_of_mem _ hh); omega)).mono ?_); rintro e w5 ⟨rfl, L5, hP5, hm5, hL5⟩)
  refine ⟨agains_cons rfl (again_const (fun _ => rfl)) (agains_cons rfl (again_load rfl rfl (hm5.block x hxC.lt hW4.xd) hxC.kinds) (agains_cons rfl (again_load rfl rfl (hm5.block t hT4.lt (fun hh => htl t hh rfl)) hT4.kinds) agains_nil)), ?_⟩
  have hW5 := hW4.dt hP5 hm5 hL5 (by rw [s1]; exact hvz) (by rw [s2]; exact hvN)
  have hr5 := hW5.r
  have hF5 : Fs w5 (.slice aof F.length capf) F := (hFB.far hm4 (by simp)).far hm5 (fun h0 b hb hh => by have := hold h0 b hb; have := hnew b hh; omega)
  refine wpT_call rfl rfl (fun K hK => ?_)
  go_wp2_with (go_at_call 51; (with_reducible refine (RQ _ _ hr5 hF5 (fun h0 b hb hh => by have := hold h0 b hb; have := hnewr b (List.mem_cons_of_mem _ hh); omega)).mono ?_); rintro e w6 ⟨rfl, M6, hP6, hm6, hM6⟩)
  have hW6 := hW5.rt hP6 hm6 hM6 (by rw [s1]; exact hvz) (by rw [s2]; exact hvN)
  iterate 2 (refine wpT_n rfl rfl (fun K hK => ?_); go_wp2_with fail)
  refine wpT_nil ?_
  go_wp2_with fail
  go_ret
  exact ⟨V, L5, M6, o0, o1, rfl, hW6, by omega, by omega⟩
set_option maxRecDepth 1000000 in
set_option maxHeartbeats 8000000 in
theorem play60_any (a n sf sc : Int) (bw fv : Value) (l : List UInt8) (F : List (Int × Int)) (ho : OkGop W ⟨6, false, a, n, bw, l, sf, sc, fv, F⟩) (H : Wld W w x p q P Q z N v v L M o0 o1) (hN : N ≤ 9) (hz : z ≤ 128) (hn : v.n ≤ 900000) (hr : v.m.row.length ≤ 900000) :
    Calls Try.prog 49 #[.pointer (some ⟨x, 0, none⟩), .agg #[.int .i64 6, .bool false, .int .i64 a, .int .i64 n, bw, .int .i64 sf, .int .i64 sc, fv]] w (PlayP W x p q P Q z N v.n v.m.row.length) := by
  obtain ⟨hb, hF, hold, wk, wa, wn, wsf, wsc, hl, hf⟩ := ho
  dsimp only at hb hF hold wk wa wn wsf wsc hl hf
  obtain ⟨aob, capb, rfl, _, _⟩ := hb.form
  obtain ⟨aof, capf, rfl, _, _⟩ := hF.form
  have hvz := H.vz
  have hvN := H.vN
  have hnew := H.dn
  have hnewr := H.rn
  have hWx := H.xn
  have hWw := H.m.size
  have TK : ∀ w, Wld W w x p q P Q z N v v L M o0 o1 → Calls Try.prog 48 #[.pointer (some ⟨x, 0, none⟩), .int .i64 0, .agg #[.int .i64 sf, .int .i64 sc]] w (TakeP W w x p q P Q z N v L M) := fun w h => takes_any 0 (by omega) wsf wsc h
  unfold TakeP at TK
  go_enter Try.func49, Try.ntmps49
  unfold PlayP
  go_wp2_with (with_reducible refine st_box ?_)
  refine StopOp.go rfl fun K hK => ?_
  refine wp_box (v := .agg #[.int .i64 6, .bool false, .int .i64 a, .int .i64 n, .slice aob l.length capb, .int .i64 sf, .int .i64 sc, .slice aof F.length capf]) (by rfl) ?_
  intro t w1 ht1 ht2 hm1 hT
  simp only [put_some, List.set_cons_succ, List.set_cons_zero]
  refine hK _ _ ?_
  clear hK K
  have hT1 : Blk w1 t 96 [.int .i64 6, .bool false, .int .i64 a, .int .i64 n, .slice aob l.length capb, .int .i64 sf, .int .i64 sc, .slice aof F.length capf] := hT
  have hW1 := H.ext hm1
  have d1 := hT1.cell' (i := 1) rfl
  clear hT
  go_wp2_with fail
  clear d1
  refine wp_region_T [⟨0, true, []⟩, ⟨1, true, []⟩, ⟨2, true, []⟩, ⟨3, true, []⟩, ⟨4, true, []⟩, ⟨5, true, []⟩, ⟨6, true, []⟩, ⟨7, true, []⟩, ⟨8, true, []⟩, ⟨9, true, []⟩, ⟨10, true, []⟩, ⟨11, true, []⟩, ⟨12, true, []⟩, ⟨13, true, []⟩] (by kernel_rfl) (by kernel_rfl) ?_
  have hmD := Mod.drew [] w1
  obtain ⟨xa, hxa⟩ : ∃ xa, xa = w1.drew := ⟨_, rfl⟩
  rw [← hxa] at hmD ⊢
  clear hxa
  have hW2 := hW1.ext hmD
  have hT2 := hT1.ext hmD
  have htl : ∀ k ∈ p :: L, k ≠ t := fun k hk e => by have := H.d.lt0 k hk; omega
  have htr : ∀ k ∈ P :: M, k ≠ t := fun k hk e => by have := H.r.lt0 k hk; omega
  have htx : x ≠ t := fun e => by have := H.bx.lt; omega
  have hbA : Bs xa (.slice aob l.length capb) l := Sl.ext hb hW2.m
  have hFA : Fs xa (.slice aof F.length capf) F := hF.far hW2.m (by simp)
  clear hW1 hT1 hm1
  have d0 := hT2.cell' (i := 0) rfl
  have d1 := hT2.cell' (i := 1) rfl
  have d2 := hT2.cell' (i := 2) rfl
  have d3 := hT2.cell' (i := 3) rfl
  have d4 := hT2.cell' (i := 4) rfl
  have d5 := hT2.cell' (i := 5) rfl
  have d6 := hT2.cell' (i := 6) rfl
  have d7 := hT2.cell' (i := 7) rfl
  have x2 := Blk.cell' hW2.bx (i := 2) (u := rvO o0) rfl
  have x4 := Blk.cell' hW2.bx (i := 4) (u := hvO o0) rfl
  iterate 14 (refine wpT_n rfl rfl (fun K hK => ?_); go_wp2_with fail)
  refine wpT_nil ?_
  go_wp2_with (go_at_call 48; (with_reducible refine (TK _ hW2).mono ?_); rintro e w3 ⟨p0, p1, rfl, hW3, _⟩)
  go_ret
  exact ⟨v, L, M, p0, p1, rfl, hW3, by omega, by omega⟩
set_option maxRecDepth 1000000 in
set_option maxHeartbeats 8000000 in
theorem play61_any (a n sf sc : Int) (bw fv : Value) (l : List UInt8) (F : List (Int × Int)) (ho : OkGop W ⟨6, true, a, n, bw, l, sf, sc, fv, F⟩) (H : Wld W w x p q P Q z N v v L M o0 o1) (hN : N ≤ 9) (hz : z ≤ 128) (hn : v.n ≤ 900000) (hr : v.m.row.length ≤ 900000) :
    Calls Try.prog 49 #[.pointer (some ⟨x, 0, none⟩), .agg #[.int .i64 6, .bool true, .int .i64 a, .int .i64 n, bw, .int .i64 sf, .int .i64 sc, fv]] w (PlayP W x p q P Q z N v.n v.m.row.length) := by
  obtain ⟨hb, hF, hold, wk, wa, wn, wsf, wsc, hl, hf⟩ := ho
  dsimp only at hb hF hold wk wa wn wsf wsc hl hf
  obtain ⟨aob, capb, rfl, _, _⟩ := hb.form
  obtain ⟨aof, capf, rfl, _, _⟩ := hF.form
  have hvz := H.vz
  have hvN := H.vN
  have hnew := H.dn
  have hnewr := H.rn
  have hWx := H.xn
  have hWw := H.m.size
  have TK : ∀ w, Wld W w x p q P Q z N v v L M o0 o1 → Calls Try.prog 48 #[.pointer (some ⟨x, 0, none⟩), .int .i64 1, .agg #[.int .i64 sf, .int .i64 sc]] w (TakeP W w x p q P Q z N v L M) := fun w h => takes_any 1 (by omega) wsf wsc h
  unfold TakeP at TK
  go_enter Try.func49, Try.ntmps49
  unfold PlayP
  go_wp2_with (with_reducible refine st_box ?_)
  refine StopOp.go rfl fun K hK => ?_
  refine wp_box (v := .agg #[.int .i64 6, .bool true, .int .i64 a, .int .i64 n, .slice aob l.length capb, .int .i64 sf, .int .i64 sc, .slice aof F.length capf]) (by rfl) ?_
  intro t w1 ht1 ht2 hm1 hT
  simp only [put_some, List.set_cons_succ, List.set_cons_zero]
  refine hK _ _ ?_
  clear hK K
  have hT1 : Blk w1 t 96 [.int .i64 6, .bool true, .int .i64 a, .int .i64 n, .slice aob l.length capb, .int .i64 sf, .int .i64 sc, .slice aof F.length capf] := hT
  have hW1 := H.ext hm1
  have d1 := hT1.cell' (i := 1) rfl
  clear hT
  go_wp2_with fail
  clear d1
  refine wp_region_T [⟨0, true, []⟩, ⟨1, true, []⟩, ⟨2, true, []⟩, ⟨3, true, []⟩, ⟨4, true, []⟩, ⟨5, true, []⟩, ⟨6, true, []⟩, ⟨7, true, []⟩, ⟨8, true, []⟩, ⟨9, true, []⟩, ⟨10, true, []⟩, ⟨11, true, []⟩, ⟨12, true, []⟩, ⟨13, true, []⟩] (by kernel_rfl) (by kernel_rfl) ?_
  have hmD := Mod.drew [] w1
  obtain ⟨xa, hxa⟩ : ∃ xa, xa = w1.drew := ⟨_, rfl⟩
  rw [← hxa] at hmD ⊢
  clear hxa
  have hW2 := hW1.ext hmD
  have hT2 := hT1.ext hmD
  have htl : ∀ k ∈ p :: L, k ≠ t := fun k hk e => by have := H.d.lt0 k hk; omega
  have htr : ∀ k ∈ P :: M, k ≠ t := fun k hk e => by have := H.r.lt0 k hk; omega
  have htx : x ≠ t := fun e => by have := H.bx.lt; omega
  have hbA : Bs xa (.slice aob l.length capb) l := Sl.ext hb hW2.m
  have hFA : Fs xa (.slice aof F.length capf) F := hF.far hW2.m (by simp)
  clear hW1 hT1 hm1
  have d0 := hT2.cell' (i := 0) rfl
  have d1 := hT2.cell' (i := 1) rfl
  have d2 := hT2.cell' (i := 2) rfl
  have d3 := hT2.cell' (i := 3) rfl
  have d4 := hT2.cell' (i := 4) rfl
  have d5 := hT2.cell' (i := 5) rfl
  have d6 := hT2.cell' (i := 6) rfl
  have d7 := hT2.cell' (i := 7) rfl
  have x3 := Blk.cell' hW2.bx (i := 3) (u := rvO o1) rfl
  have x5 := Blk.cell' hW2.bx (i := 5) (u := hvO o1) rfl
  iterate 14 (refine wpT_n rfl rfl (fun K hK => ?_); go_wp2_with fail)
  refine wpT_nil ?_
  go_wp2_with (go_at_call 48; (with_reducible refine (TK _ hW2).mono ?_); rintro e w3 ⟨p0, p1, rfl, hW3, _⟩)
  go_ret
  exact ⟨v, L, M, p0, p1, rfl, hW3, by omega, by omega⟩
set_option maxRecDepth 1000000 in
set_option maxHeartbeats 8000000 in
theorem playnone0_any (Ko : Int) (a n sf sc : Int) (bw fv : Value) (l : List UInt8) (F : List (Int × Int)) (ho : OkGop W ⟨Ko, false, a, n, bw, l, sf, sc, fv, F⟩) (H : Wld W w x p q P Q z N v v L M none o1) (hN : N ≤ 9) (hz : z ≤ 128) (hn : v.n ≤ 900000) (hr : v.m.row.length ≤ 900000) (k4 : Ko ≠ 4) (k5 : Ko ≠ 5) (k6 : Ko ≠ 6) :
    Calls Try.prog 49 #[.pointer (some ⟨x, 0, none⟩), .agg #[.int .i64 Ko, .bool false, .int .i64 a, .int .i64 n, bw, .int .i64 sf, .int .i64 sc, fv]] w (PlayP W x p q P Q z N v.n v.m.row.length) := by
  obtain ⟨hb, hF, hold, wk, wa, wn, wsf, wsc, hl, hf⟩ := ho
  dsimp only at hb hF hold wk wa wn wsf wsc hl hf
  obtain ⟨aob, capb, rfl, _, _⟩ := hb.form
  obtain ⟨aof, capf, rfl, _, _⟩ := hF.form
  have hvz := H.vz
  have hvN := H.vN
  have hnew := H.dn
  have hnewr := H.rn
  have hWx := H.xn
  have hWw := H.m.size
  have e4 : (Ko == 4) = false := beq_eq_false_iff_ne.2 k4
  have e5 : (Ko == 5) = false := beq_eq_false_iff_ne.2 k5
  have e6 : (Ko == 6) = false := beq_eq_false_iff_ne.2 k6
  go_enter Try.func49, Try.ntmps49
  unfold PlayP
  go_wp2_with (with_reducible refine st_box ?_)
  refine StopOp.go rfl fun K hK => ?_
  refine wp_box (v := .agg #[.int .i64 Ko, .bool false, .int .i64 a, .int .i64 n, .slice aob l.length capb, .int .i64 sf, .int .i64 sc, .slice aof F.length capf]) (by rfl) ?_
  intro t w1 ht1 ht2 hm1 hT
  simp only [put_some, List.set_cons_succ, List.set_cons_zero]
  refine hK _ _ ?_
  clear hK K
  have hT1 : Blk w1 t 96 [.int .i64 Ko, .bool false, .int .i64 a, .int .i64 n, .slice aob l.length capb, .int .i64 sf, .int .i64 sc, .slice aof F.length capf] := hT
  have hW1 := H.ext hm1
  have d1 := hT1.cell' (i := 1) rfl
  clear hT
  go_wp2_with fail
  clear d1
  refine wp_region_T [⟨0, true, []⟩, ⟨1, true, []⟩, ⟨2, true, []⟩, ⟨3, true, []⟩, ⟨4, true, []⟩, ⟨5, true, []⟩, ⟨6, true, []⟩, ⟨7, true, []⟩, ⟨8, true, []⟩, ⟨9, true, []⟩, ⟨10, true, []⟩, ⟨11, true, []⟩, ⟨12, true, []⟩, ⟨13, true, []⟩] (by kernel_rfl) (by kernel_rfl) ?_
  have hmD := Mod.drew [] w1
  obtain ⟨xa, hxa⟩ : ∃ xa, xa = w1.drew := ⟨_, rfl⟩
  rw [← hxa] at hmD ⊢
  clear hxa
  have hW2 := hW1.ext hmD
  have hT2 := hT1.ext hmD
  have htl : ∀ k ∈ p :: L, k ≠ t := fun k hk e => by have := H.d.lt0 k hk; omega
  have htr : ∀ k ∈ P :: M, k ≠ t := fun k hk e => by have := H.r.lt0 k hk; omega
  have htx : x ≠ t := fun e => by have := H.bx.lt; omega
  have hbA : Bs xa (.slice aob l.length capb) l := Sl.ext hb hW2.m
  have hFA : Fs xa (.slice aof F.length capf) F := hF.far hW2.m (by simp)
  clear hW1 hT1 hm1
  have d0 := hT2.cell' (i := 0) rfl
  have d1 := hT2.cell' (i := 1) rfl
  have d2 := hT2.cell' (i := 2) rfl
  have d3 := hT2.cell' (i := 3) rfl
  have d4 := hT2.cell' (i := 4) rfl
  have d5 := hT2.cell' (i := 5) rfl
  have d6 := hT2.cell' (i := 6) rfl
  have d7 := hT2.cell' (i := 7) rfl
  have x2 := Blk.cell' hW2.bx (i := 2) (u := .pointer none) rfl
  have x4 := Blk.cell' hW2.bx (i := 4) (u := .pointer none) rfl
  iterate 14 (refine wpT_n rfl rfl (fun K hK => ?_); go_wp2_with fail)
  refine wpT_nil ?_
  go_wp2_with fail
  go_ret
  exact ⟨v, L, M, none, o1, rfl, hW2, by omega, by omega⟩
set_option maxRecDepth 1000000 in
set_option maxHeartbeats 8000000 in
theorem playnone1_any (Ko : Int) (a n sf sc : Int) (bw fv : Value) (l : List UInt8) (F : List (Int × Int)) (ho : OkGop W ⟨Ko, true, a, n, bw, l, sf, sc, fv, F⟩) (H : Wld W w x p q P Q z N v v L M o0 none) (hN : N ≤ 9) (hz : z ≤ 128) (hn : v.n ≤ 900000) (hr : v.m.row.length ≤ 900000) (k4 : Ko ≠ 4) (k5 : Ko ≠ 5) (k6 : Ko ≠ 6) :
    Calls Try.prog 49 #[.pointer (some ⟨x, 0, none⟩), .agg #[.int .i64 Ko, .bool true, .int .i64 a, .int .i64 n, bw, .int .i64 sf, .int .i64 sc, fv]] w (PlayP W x p q P Q z N v.n v.m.row.length) := by
  obtain ⟨hb, hF, hold, wk, wa, wn, wsf, wsc, hl, hf⟩ := ho
  dsimp only at hb hF hold wk wa wn wsf wsc hl hf
  obtain ⟨aob, capb, rfl, _, _⟩ := hb.form
  obtain ⟨aof, capf, rfl, _, _⟩ := hF.form
  have hvz := H.vz
  have hvN := H.vN
  have hnew := H.dn
  have hnewr := H.rn
  have hWx := H.xn
  have hWw := H.m.size
  have e4 : (Ko == 4) = false := beq_eq_false_iff_ne.2 k4
  have e5 : (Ko == 5) = false := beq_eq_false_iff_ne.2 k5
  have e6 : (Ko == 6) = false := beq_eq_false_iff_ne.2 k6
  go_enter Try.func49, Try.ntmps49
  unfold PlayP
  go_wp2_with (with_reducible refine st_box ?_)
  refine StopOp.go rfl fun K hK => ?_
  refine wp_box (v := .agg #[.int .i64 Ko, .bool true, .int .i64 a, .int .i64 n, .slice aob l.length capb, .int .i64 sf, .int .i64 sc, .slice aof F.length capf]) (by rfl) ?_
  intro t w1 ht1 ht2 hm1 hT
  simp only [put_some, List.set_cons_succ, List.set_cons_zero]
  refine hK _ _ ?_
  clear hK K
  have hT1 : Blk w1 t 96 [.int .i64 Ko, .bool true, .int .i64 a, .int .i64 n, .slice aob l.length capb, .int .i64 sf, .int .i64 sc, .slice aof F.length capf] := hT
  have hW1 := H.ext hm1
  have d1 := hT1.cell' (i := 1) rfl
  clear hT
  go_wp2_with fail
  clear d1
  refine wp_region_T [⟨0, true, []⟩, ⟨1, true, []⟩, ⟨2, true, []⟩, ⟨3, true, []⟩, ⟨4, true, []⟩, ⟨5, true, []⟩, ⟨6, true, []⟩, ⟨7, true, []⟩, ⟨8, true, []⟩, ⟨9, true, []⟩, ⟨10, true, []⟩, ⟨11, true, []⟩, ⟨12, true, []⟩, ⟨13, true, []⟩] (by kernel_rfl) (by kernel_rfl) ?_
  have hmD := Mod.drew [] w1
  obtain ⟨xa, hxa⟩ : ∃ xa, xa = w1.drew := ⟨_, rfl⟩
  rw [← hxa] at hmD ⊢
  clear hxa
  have hW2 := hW1.ext hmD
  have hT2 := hT1.ext hmD
  have htl : ∀ k ∈ p :: L, k ≠ t := fun k hk e => by have := H.d.lt0 k hk; omega
  have htr : ∀ k ∈ P :: M, k ≠ t := fun k hk e => by have := H.r.lt0 k hk; omega
  have htx : x ≠ t := fun e => by have := H.bx.lt; omega
  have hbA : Bs xa (.slice aob l.length capb) l := Sl.ext hb hW2.m
  have hFA : Fs xa (.slice aof F.length capf) F := hF.far hW2.m (by simp)
  clear hW1 hT1 hm1
  have d0 := hT2.cell' (i := 0) rfl
  have d1 := hT2.cell' (i := 1) rfl
  have d2 := hT2.cell' (i := 2) rfl
  have d3 := hT2.cell' (i := 3) rfl
  have d4 := hT2.cell' (i := 4) rfl
  have d5 := hT2.cell' (i := 5) rfl
  have d6 := hT2.cell' (i := 6) rfl
  have d7 := hT2.cell' (i := 7) rfl
  have x3 := Blk.cell' hW2.bx (i := 3) (u := .pointer none) rfl
  have x5 := Blk.cell' hW2.bx (i := 5) (u := .pointer none) rfl
  iterate 14 (refine wpT_n rfl rfl (fun K hK => ?_); go_wp2_with fail)
  refine wpT_nil ?_
  go_wp2_with fail
  go_ret
  exact ⟨v, L, M, o0, none, rfl, hW2, by omega, by omega⟩
set_option maxRecDepth 1000000 in
set_option maxHeartbeats 8000000 in
theorem playoth0_any (Ko : Int) (r h f c : Nat) (a n sf sc : Int) (bw fv : Value) (l : List UInt8) (F : List (Int × Int)) (ho : OkGop W ⟨Ko, false, a, n, bw, l, sf, sc, fv, F⟩) (H : Wld W w x p q P Q z N v v L M (some ⟨r, h, f, c⟩) o1) (hN : N ≤ 9) (hz : z ≤ 128) (hn : v.n ≤ 900000) (hr : v.m.row.length ≤ 900000) (k4 : Ko ≠ 4) (k5 : Ko ≠ 5) (k6 : Ko ≠ 6) (k1 : Ko ≠ 1) (k2 : Ko ≠ 2) (k3 : Ko ≠ 3) :
    Calls Try.prog 49 #[.pointer (some ⟨x, 0, none⟩), .agg #[.int .i64 Ko, .bool false, .int .i64 a, .int .i64 n, bw, .int .i64 sf, .int .i64 sc, fv]] w (PlayP W x p q P Q z N v.n v.m.row.length) := by
  obtain ⟨hb, hF, hold, wk, wa, wn, wsf, wsc, hl, hf⟩ := ho
  dsimp only at hb hF hold wk wa wn wsf wsc hl hf
  obtain ⟨aob, capb, rfl, _, _⟩ := hb.form
  obtain ⟨aof, capf, rfl, _, _⟩ := hF.form
  have hvz := H.vz
  have hvN := H.vN
  have hnew := H.dn
  have hnewr := H.rn
  have hWx := H.xn
  have hWw := H.m.size
  have e4 : (Ko == 4) = false := beq_eq_false_iff_ne.2 k4
  have e5 : (Ko == 5) = false := beq_eq_false_iff_ne.2 k5
  have e6 : (Ko == 6) = false := beq_eq_false_iff_ne.2 k6
  have e1 : (Ko == 1) = false := beq_eq_false_iff_ne.2 k1
  have e2 : (Ko == 2) = false := beq_eq_false_iff_ne.2 k2
  have e3 : (Ko == 3) = false := beq_eq_false_iff_ne.2 k3
  go_enter Try.func49, Try.ntmps49
  unfold PlayP
  go_wp2_with (with_reducible refine st_box ?_)
  refine StopOp.go rfl fun K hK => ?_
  refine wp_box (v := .agg #[.int .i64 Ko, .bool false, .int .i64 a, .int .i64 n, .slice aob l.length capb, .int .i64 sf, .int .i64 sc, .slice aof F.length capf]) (by rfl) ?_
  intro t w1 ht1 ht2 hm1 hT
  simp only [put_some, List.set_cons_succ, List.set_cons_zero]
  refine hK _ _ ?_
  clear hK K
  have hT1 : Blk w1 t 96 [.int .i64 Ko, .bool false, .int .i64 a, .int .i64 n, .slice aob l.length capb, .int .i64 sf, .int .i64 sc, .slice aof F.length capf] := hT
  have hW1 := H.ext hm1
  have d1 := hT1.cell' (i := 1) rfl
  clear hT
  go_wp2_with fail
  clear d1
  refine wp_region_T [⟨0, true, []⟩, ⟨1, true, []⟩, ⟨2, true, []⟩, ⟨3, true, []⟩, ⟨4, true, []⟩, ⟨5, true, []⟩, ⟨6, true, []⟩, ⟨7, true, []⟩, ⟨8, true, []⟩, ⟨9, true, []⟩, ⟨10, true, []⟩, ⟨11, true, []⟩, ⟨12, true, []⟩, ⟨13, true, []⟩] (by kernel_rfl) (by kernel_rfl) ?_
  have hmD := Mod.drew [] w1
  obtain ⟨xa, hxa⟩ : ∃ xa, xa = w1.drew := ⟨_, rfl⟩
  rw [← hxa] at hmD ⊢
  clear hxa
  have hW2 := hW1.ext hmD
  have hT2 := hT1.ext hmD
  have htl : ∀ k ∈ p :: L, k ≠ t := fun k hk e => by have := H.d.lt0 k hk; omega
  have htr : ∀ k ∈ P :: M, k ≠ t := fun k hk e => by have := H.r.lt0 k hk; omega
  have htx : x ≠ t := fun e => by have := H.bx.lt; omega
  have hbA : Bs xa (.slice aob l.length capb) l := Sl.ext hb hW2.m
  have hFA : Fs xa (.slice aof F.length capf) F := hF.far hW2.m (by simp)
  clear hW1 hT1 hm1
  have d0 := hT2.cell' (i := 0) rfl
  have d1 := hT2.cell' (i := 1) rfl
  have d2 := hT2.cell' (i := 2) rfl
  have d3 := hT2.cell' (i := 3) rfl
  have d4 := hT2.cell' (i := 4) rfl
  have d5 := hT2.cell' (i := 5) rfl
  have d6 := hT2.cell' (i := 6) rfl
  have d7 := hT2.cell' (i := 7) rfl
  have x2 := Blk.cell' hW2.bx (i := 2) (u := .pointer (some ⟨r, 0, none⟩)) rfl
  have x4 := Blk.cell' hW2.bx (i := 4) (u := .pointer (some ⟨h, 0, none⟩)) rfl
  iterate 14 (refine wpT_n rfl rfl (fun K hK => ?_); go_wp2_with fail)
  refine wpT_nil ?_
  go_wp2_with fail
  go_ret
  exact ⟨v, L, M, some ⟨r, h, f, c⟩, o1, rfl, hW2, by omega, by omega⟩
set_option maxRecDepth 1000000 in
set_option maxHeartbeats 8000000 in
theorem playoth1_any (Ko : Int) (r h f c : Nat) (a n sf sc : Int) (bw fv : Value) (l : List UInt8) (F : List (Int × Int)) (ho : OkGop W ⟨Ko, true, a, n, bw, l, sf, sc, fv, F⟩) (H : Wld W w x p q P Q z N v v L M o0 (some ⟨r, h, f, c⟩)) (hN : N ≤ 9) (hz : z ≤ 128) (hn : v.n ≤ 900000) (hr : v.m.row.length ≤ 900000) (k4 : Ko ≠ 4) (k5 : Ko ≠ 5) (k6 : Ko ≠ 6) (k1 : Ko ≠ 1) (k2 : Ko ≠ 2) (k3 : Ko ≠ 3) :
    Calls Try.prog 49 #[.pointer (some ⟨x, 0, none⟩), .agg #[.int .i64 Ko, .bool true, .int .i64 a, .int .i64 n, bw, .int .i64 sf, .int .i64 sc, fv]] w (PlayP W x p q P Q z N v.n v.m.row.length) := by
  obtain ⟨hb, hF, hold, wk, wa, wn, wsf, wsc, hl, hf⟩ := ho
  dsimp only at hb hF hold wk wa wn wsf wsc hl hf
  obtain ⟨aob, capb, rfl, _, _⟩ := hb.form
  obtain ⟨aof, capf, rfl, _, _⟩ := hF.form
  have hvz := H.vz
  have hvN := H.vN
  have hnew := H.dn
  have hnewr := H.rn
  have hWx := H.xn
  have hWw := H.m.size
  have e4 : (Ko == 4) = false := beq_eq_false_iff_ne.2 k4
  have e5 : (Ko == 5) = false := beq_eq_false_iff_ne.2 k5
  have e6 : (Ko == 6) = false := beq_eq_false_iff_ne.2 k6
  have e1 : (Ko == 1) = false := beq_eq_false_iff_ne.2 k1
  have e2 : (Ko == 2) = false := beq_eq_false_iff_ne.2 k2
  have e3 : (Ko == 3) = false := beq_eq_false_iff_ne.2 k3
  go_enter Try.func49, Try.ntmps49
  unfold PlayP
  go_wp2_with (with_reducible refine st_box ?_)
  refine StopOp.go rfl fun K hK => ?_
  refine wp_box (v := .agg #[.int .i64 Ko, .bool true, .int .i64 a, .int .i64 n, .slice aob l.length capb, .int .i64 sf, .int .i64 sc, .slice aof F.length capf]) (by rfl) ?_
  intro t w1 ht1 ht2 hm1 hT
  simp only [put_some, List.set_cons_succ, List.set_cons_zero]
  refine hK _ _ ?_
  clear hK K
  have hT1 : Blk w1 t 96 [.int .i64 Ko, .bool true, .int .i64 a, .int .i64 n, .slice aob l.length capb, .int .i64 sf, .int .i64 sc, .slice aof F.length capf] := hT
  have hW1 := H.ext hm1
  have d1 := hT1.cell' (i := 1) rfl
  clear hT
  go_wp2_with fail
  clear d1
  refine wp_region_T [⟨0, true, []⟩, ⟨1, true, []⟩, ⟨2, true, []⟩, ⟨3, true, []⟩, ⟨4, true, []⟩, ⟨5, true, []⟩, ⟨6, true, []⟩, ⟨7, true, []⟩, ⟨8, true, []⟩, ⟨9, true, []⟩, ⟨10, true, []⟩, ⟨11, true, []⟩, ⟨12, true, []⟩, ⟨13, true, []⟩] (by kernel_rfl) (by kernel_rfl) ?_
  have hmD := Mod.drew [] w1
  obtain ⟨xa, hxa⟩ : ∃ xa, xa = w1.drew := ⟨_, rfl⟩
  rw [← hxa] at hmD ⊢
  clear hxa
  have hW2 := hW1.ext hmD
  have hT2 := hT1.ext hmD
  have htl : ∀ k ∈ p :: L, k ≠ t := fun k hk e => by have := H.d.lt0 k hk; omega
  have htr : ∀ k ∈ P :: M, k ≠ t := fun k hk e => by have := H.r.lt0 k hk; omega
  have htx : x ≠ t := fun e => by have := H.bx.lt; omega
  have hbA : Bs xa (.slice aob l.length capb) l := Sl.ext hb hW2.m
  have hFA : Fs xa (.slice aof F.length capf) F := hF.far hW2.m (by simp)
  clear hW1 hT1 hm1
  have d0 := hT2.cell' (i := 0) rfl
  have d1 := hT2.cell' (i := 1) rfl
  have d2 := hT2.cell' (i := 2) rfl
  have d3 := hT2.cell' (i := 3) rfl
  have d4 := hT2.cell' (i := 4) rfl
  have d5 := hT2.cell' (i := 5) rfl
  have d6 := hT2.cell' (i := 6) rfl
  have d7 := hT2.cell' (i := 7) rfl
  have x3 := Blk.cell' hW2.bx (i := 3) (u := .pointer (some ⟨r, 0, none⟩)) rfl
  have x5 := Blk.cell' hW2.bx (i := 5) (u := .pointer (some ⟨h, 0, none⟩)) rfl
  iterate 14 (refine wpT_n rfl rfl (fun K hK => ?_); go_wp2_with fail)
  refine wpT_nil ?_
  go_wp2_with fail
  go_ret
  exact ⟨v, L, M, o0, some ⟨r, h, f, c⟩, rfl, hW2, by omega, by omega⟩
end
end Go.Proofs.Ytdmnogmhnhjdgaa
