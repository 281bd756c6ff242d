import Derived.Test.YtdmnogmhnhjdgaaRiE
import Derived.Test.YtdmnogmhnhjdgaaRgG
import Derived.Test.YtdmnogmhnhjdgaaLentC
import Derived.Test.YtdmnogmhnhjdgaaGPw
/-! RegionPlays: plays. -/
set_option linter.unusedVariables false
set_option linter.unusedSimpArgs false
set_option maxRecDepth 100000
namespace Go.Proofs.Ytdmnogmhnhjdgaa
open Go.RowKit Gw

section
variable {W w : World} {x p q P Q z N : Nat} {v : Pv} {L M : List Nat} {o0 o1 : Option Reg2}
set_option maxRecDepth 1000000 in
set_option maxHeartbeats 8000000 in
theorem play10_any (r h f c : Nat) (a n sf sc : Int) (bw fv : Value) (l : List UInt8) (F : List (Int × Int)) (ho : OkGop W ⟨1, false, a, n, bw, l, sf, sc, fv, F⟩) (H : Wld W w x p q P Q z N v v L M (some ⟨r, h, f, c⟩) o1) (hN : N ≤ 9) (hz : z ≤ 128) (hn : v.n ≤ 900000) (hr : v.m.row.length ≤ 900000) :
    Calls Try.prog 49 #[.pointer (some ⟨x, 0, none⟩), .agg #[.int .i64 1, .bool false, .int .i64 a, .int .i64 n, bw, .int .i64 sf, .int .i64 sc, fv]] w (PlayP W x p q P Q z N v.n v.m.row.length) := by
  obtain ⟨hb, hF, hold, wk, wa, wn, wsf, wsc, hl, hf⟩ := ho
  dsimp only at hb hF hold wk wa wn wsf wsc hl hf
  obtain ⟨aob, capb, rfl, _, _⟩ := hb.form
  obtain ⟨aof, capf, rfl, _, _⟩ := hF.form
  have hvz := H.vz
  have hvN := H.vN
  have hnew := H.dn
  have hnewr := H.rn
  have hWx := H.xn
  have hWw := H.m.size
  have hg := H.g0 _ rfl
  have hcN : c ≤ 9 := by have := hg.fc; dsimp only at this; omega
  have hcz : c * z ≤ 1152 := Nat.le_trans (Nat.mul_le_mul hcN hz) (by omega)
  have hfc : f + c ≤ v.m.dur.length := by have := hg.fc; dsimp only at this; omega
  have hrD := hg.rD
  have hhD := hg.hD
  dsimp only at hrD hhD
  have hrp : r ∉ p :: L := fun hh => hrD (List.mem_append_left _ hh)
  have hrP : r ∉ P :: M := fun hh => hrD (List.mem_append_right _ hh)
  have hhp : h ∉ p :: L := fun hh => hhD (List.mem_append_left _ hh)
  have hhP : h ∉ P :: M := fun hh => hhD (List.mem_append_right _ hh)
  clear hg hrD hhD
  have RA := fun w hP hR => gRead_any r p q f c z v L a n w hP hR hvz hfc (by omega) wa wn
  have RB := fun w hP hR => hRead_any h P Q f c z v M a n w hP hR hvz hfc (by omega) wa wn
  unfold GRdP at RA
  unfold HRdP at RB
  obtain ⟨s1, s2⟩ := rdA_sz f c z v a n
  obtain ⟨⟨V, E, X⟩, hRX⟩ : ∃ R, R = rdA f c z v a n := ⟨_, rfl⟩
  rw [← hRX] at RA RB s1 s2
  dsimp only at RA RB s1 s2
  clear hRX
  go_enter Try.func49, Try.ntmps49
  unfold PlayP
  go_wp2_with (with_reducible refine st_box ?_)
  refine StopOp.go rfl fun K hK => ?_
  refine wp_box (v := .agg #[.int .i64 1, .bool false, .int .i64 a, .int .i64 n, .slice aob l.length capb, .int .i64 sf, .int .i64 sc, .slice aof F.length capf]) (by rfl) ?_
  intro t w1 ht1 ht2 hm1 hT
  simp only [put_some, List.set_cons_succ, List.set_cons_zero]
  refine hK _ _ ?_
  clear hK K
  have hT1 : Blk w1 t 96 [.int .i64 1, .bool false, .int .i64 a, .int .i64 n, .slice aob l.length capb, .int .i64 sf, .int .i64 sc, .slice aof F.length capf] := hT
  have hW1 := H.ext hm1
  have d1 := hT1.cell' (i := 1) rfl
  clear hT
  go_wp2_with fail
  clear d1
  refine wp_region_T [⟨0, true, []⟩, ⟨1, true, []⟩, ⟨2, true, []⟩, ⟨3, true, []⟩, ⟨4, true, []⟩, ⟨5, true, []⟩, ⟨6, true, []⟩, ⟨7, true, []⟩, ⟨8, true, []⟩, ⟨9, true, []⟩, ⟨10, true, []⟩, ⟨11, true, []⟩, ⟨12, true, []⟩, ⟨13, true, []⟩] (by kernel_rfl) (by kernel_rfl) ?_
  have hmD := Mod.drew [] w1
  obtain ⟨xa, hxa⟩ : ∃ xa, xa = w1.drew := ⟨_, rfl⟩
  rw [← hxa] at hmD ⊢
  clear hxa
  have hW2 := hW1.ext hmD
  have hT2 := hT1.ext hmD
  have htl : ∀ k ∈ p :: L, k ≠ t := fun k hk e => by have := H.d.lt0 k hk; omega
  have htr : ∀ k ∈ P :: M, k ≠ t := fun k hk e => by have := H.r.lt0 k hk; omega
  have htx : x ≠ t := fun e => by have := H.bx.lt; omega
  have hbA : Bs xa (.slice aob l.length capb) l := Sl.ext hb hW2.m
  have hFA : Fs xa (.slice aof F.length capf) F := hF.far hW2.m (by simp)
  clear hW1 hT1 hm1
  have d0 := hT2.cell' (i := 0) rfl
  have d1 := hT2.cell' (i := 1) rfl
  have d2 := hT2.cell' (i := 2) rfl
  have d3 := hT2.cell' (i := 3) rfl
  have d4 := hT2.cell' (i := 4) rfl
  have d5 := hT2.cell' (i := 5) rfl
  have d6 := hT2.cell' (i := 6) rfl
  have d7 := hT2.cell' (i := 7) rfl
  have x2 := Blk.cell' hW2.bx (i := 2) (u := .pointer (some ⟨r, 0, none⟩)) rfl
  have x4 := Blk.cell' hW2.bx (i := 4) (u := .pointer (some ⟨h, 0, none⟩)) rfl
  have ga := (hW2.g0 _ rfl).a
  have hd2 := hW2.d
  iterate 14 (refine wpT_n rfl rfl (fun K hK => ?_); go_wp2_with fail)
  refine wpT_nil ?_
  go_wp2_with (first
                | (go_at_call 37; (with_reducible refine (RA _ hd2 ga).mono ?_); rintro e w3 ⟨rv, rfl, ho3, hn3, hP3, hm3⟩; obtain ⟨ao3, cap3, rfl, _, _⟩ := ho3.sl.form; have hm3' : Gw.Mod (p :: L) xa w3 := hm3.weak (by simp); have hW3 := hW2.dt hP3 hm3' (fun k hk => .inl hk) (by rw [s1]; exact hvz) (by rw [s1]; exact hvN); have hT3 := hT2.mod hm3' (fun hh => htl t hh rfl); have d2 := hT3.cell' (i := 2) rfl; have d3 := hT3.cell' (i := 3) rfl; have hr3 := hW3.r; have gb := (hW3.g0 _ rfl).b)
                | (go_at_call 85; (with_reducible refine (RB _ hr3 gb).mono ?_); rintro e w4 ⟨rv4, rfl, ho4, hn4, hP4, hm4⟩; obtain ⟨ao4, cap4, rfl, _, _⟩ := ho4.sl.form; have hm4' : Gw.Mod (P :: M) w3 w4 := hm4.weak (by simp); have hW4 := hW3.rt hP4 hm4' (fun k hk => .inl hk) (by rw [s1]; exact hvz) (by rw [s1]; exact hvN); have hs3 : Bs w4 (.slice ao3 X.length cap3) X := Ob.bs (Ow.mod ho3 hm4 (fun b hb hh => by have e : b = P := (by simpa using hh); have := hn3 b hb; have := hW2.r.lt0 P List.mem_cons_self; omega)); have hs4 := Ob.bs ho4)
                | (go_at_call 19; (with_reducible refine (same_yes X X _ _ _ hs3 hs4 rfl).mono ?_); rintro e w5 ⟨rfl, hm5⟩))
  go_ret
  exact ⟨V, L, M, some ⟨r, h, f, c⟩, o1, rfl, hW4.ext hm5, by omega, by rw [s1]; omega⟩
set_option maxRecDepth 1000000 in
set_option maxHeartbeats 8000000 in
theorem play11_any (r h f c : Nat) (a n sf sc : Int) (bw fv : Value) (l : List UInt8) (F : List (Int × Int)) (ho : OkGop W ⟨1, true, a, n, bw, l, sf, sc, fv, F⟩) (H : Wld W w x p q P Q z N v v L M o0 (some ⟨r, h, f, c⟩)) (hN : N ≤ 9) (hz : z ≤ 128) (hn : v.n ≤ 900000) (hr : v.m.row.length ≤ 900000) :
    Calls Try.prog 49 #[.pointer (some ⟨x, 0, none⟩), .agg #[.int .i64 1, .bool true, .int .i64 a, .int .i64 n, bw, .int .i64 sf, .int .i64 sc, fv]] w (PlayP W x p q P Q z N v.n v.m.row.length) := by
  obtain ⟨hb, hF, hold, wk, wa, wn, wsf, wsc, hl, hf⟩ := ho
  dsimp only at hb hF hold wk wa wn wsf wsc hl hf
  obtain ⟨aob, capb, rfl, _, _⟩ := hb.form
  obtain ⟨aof, capf, rfl, _, _⟩ := hF.form
  have hvz := H.vz
  have hvN := H.vN
  have hnew := H.dn
  have hnewr := H.rn
  have hWx := H.xn
  have hWw := H.m.size
  have hg := H.g1 _ rfl
  have hcN : c ≤ 9 := by have := hg.fc; dsimp only at this; omega
  have hcz : c * z ≤ 1152 := Nat.le_trans (Nat.mul_le_mul hcN hz) (by omega)
  have hfc : f + c ≤ v.m.dur.length := by have := hg.fc; dsimp only at this; omega
  have hrD := hg.rD
  have hhD := hg.hD
  dsimp only at hrD hhD
  have hrp : r ∉ p :: L := fun hh => hrD (List.mem_append_left _ hh)
  have hrP : r ∉ P :: M := fun hh => hrD (List.mem_append_right _ hh)
  have hhp : h ∉ p :: L := fun hh => hhD (List.mem_append_left _ hh)
  have hhP : h ∉ P :: M := fun hh => hhD (List.mem_append_right _ hh)
  clear hg hrD hhD
  have RA := fun w hP hR => gRead_any r p q f c z v L a n w hP hR hvz hfc (by omega) wa wn
  have RB := fun w hP hR => hRead_any h P Q f c z v M a n w hP hR hvz hfc (by omega) wa wn
  unfold GRdP at RA
  unfold HRdP at RB
  obtain ⟨s1, s2⟩ := rdA_sz f c z v a n
  obtain ⟨⟨V, E, X⟩, hRX⟩ : ∃ R, R = rdA f c z v a n := ⟨_, rfl⟩
  rw [← hRX] at RA RB s1 s2
  dsimp only at RA RB s1 s2
  clear hRX
  go_enter Try.func49, Try.ntmps49
  unfold PlayP
  go_wp2_with (with_reducible refine st_box ?_)
  refine StopOp.go rfl fun K hK => ?_
  refine wp_box (v := .agg #[.int .i64 1, .bool true, .int .i64 a, .int .i64 n, .slice aob l.length capb, .int .i64 sf, .int .i64 sc, .slice aof F.length capf]) (by rfl) ?_
  intro t w1 ht1 ht2 hm1 hT
  simp only [put_some, List.set_cons_succ, List.set_cons_zero]
  refine hK _ _ ?_
  clear hK K
  have hT1 : Blk w1 t 96 [.int .i64 1, .bool true, .int .i64 a, .int .i64 n, .slice aob l.length capb, .int .i64 sf, .int .i64 sc, .slice aof F.length capf] := hT
  have hW1 := H.ext hm1
  have d1 := hT1.cell' (i := 1) rfl
  clear hT
  go_wp2_with fail
  clear d1
  refine wp_region_T [⟨0, true, []⟩, ⟨1, true, []⟩, ⟨2, true, []⟩, ⟨3, true, []⟩, ⟨4, true, []⟩, ⟨5, true, []⟩, ⟨6, true, []⟩, ⟨7, true, []⟩, ⟨8, true, []⟩, ⟨9, true, []⟩, ⟨10, true, []⟩, ⟨11, true, []⟩, ⟨12, true, []⟩, ⟨13, true, []⟩] (by kernel_rfl) (by kernel_rfl) ?_
  have hmD := Mod.drew [] w1
  obtain ⟨xa, hxa⟩ : ∃ xa, xa = w1.drew := ⟨_, rfl⟩
  rw [← hxa] at hmD ⊢
  clear hxa
  have hW2 := hW1.ext hmD
  have hT2 := hT1.ext hmD
  have htl : ∀ k ∈ p :: L, k ≠ t := fun k hk e => by have := H.d.lt0 k hk; omega
  have htr : ∀ k ∈ P :: M, k ≠ t := fun k hk e => by have := H.r.lt0 k hk; omega
  have htx : x ≠ t := fun e => by have := H.bx.lt; omega
  have hbA : Bs xa (.slice aob l.length capb) l := Sl.ext hb hW2.m
  have hFA : Fs xa (.slice aof F.length capf) F := hF.far hW2.m (by simp)
  clear hW1 hT1 hm1
  have d0 := hT2.cell' (i := 0) rfl
  have d1 := hT2.cell' (i := 1) rfl
  have d2 := hT2.cell' (i := 2) rfl
  have d3 := hT2.cell' (i := 3) rfl
  have d4 := hT2.cell' (i := 4) rfl
  have d5 := hT2.cell' (i := 5) rfl
  have d6 := hT2.cell' (i := 6) rfl
  have d7 := hT2.cell' (i := 7) rfl
  have x3 := Blk.cell' hW2.bx (i := 3) (u := .pointer (some ⟨r, 0, none⟩)) rfl
  have x5 := Blk.cell' hW2.bx (i := 5) (u := .pointer (some ⟨h, 0, none⟩)) rfl
  have ga := (hW2.g1 _ rfl).a
  have hd2 := hW2.d
  iterate 14 (refine wpT_n rfl rfl (fun K hK => ?_); go_wp2_with fail)
  refine wpT_nil ?_
  go_wp2_with (first
                | (go_at_call 37; (with_reducible refine (RA _ hd2 ga).mono ?_); rintro e w3 ⟨rv, rfl, ho3, hn3, hP3, hm3⟩; obtain ⟨ao3, cap3, rfl, _, _⟩ := ho3.sl.form; have hm3' : Gw.Mod (p :: L) xa w3 := hm3.weak (by simp); have hW3 := hW2.dt hP3 hm3' (fun k hk => .inl hk) (by rw [s1]; exact hvz) (by rw [s1]; exact hvN); have hT3 := hT2.mod hm3' (fun hh => htl t hh rfl); have d2 := hT3.cell' (i := 2) rfl; have d3 := hT3.cell' (i := 3) rfl; have hr3 := hW3.r; have gb := (hW3.g1 _ rfl).b)
                | (go_at_call 85; (with_reducible refine (RB _ hr3 gb).mono ?_); rintro e w4 ⟨rv4, rfl, ho4, hn4, hP4, hm4⟩; obtain ⟨ao4, cap4, rfl, _, _⟩ := ho4.sl.form; have hm4' : Gw.Mod (P :: M) w3 w4 := hm4.weak (by simp); have hW4 := hW3.rt hP4 hm4' (fun k hk => .inl hk) (by rw [s1]; exact hvz) (by rw [s1]; exact hvN); have hs3 : Bs w4 (.slice ao3 X.length cap3) X := Ob.bs (Ow.mod ho3 hm4 (fun b hb hh => by have e : b = P := (by simpa using hh); have := hn3 b hb; have := hW2.r.lt0 P List.mem_cons_self; omega)); have hs4 := Ob.bs ho4)
                | (go_at_call 19; (with_reducible refine (same_yes X X _ _ _ hs3 hs4 rfl).mono ?_); rintro e w5 ⟨rfl, hm5⟩))
  go_ret
  exact ⟨V, L, M, o0, some ⟨r, h, f, c⟩, rfl, hW4.ext hm5, by omega, by rw [s1]; omega⟩
set_option maxRecDepth 1000000 in
set_option maxHeartbeats 8000000 in
theorem play20_any (r h f c : Nat) (a n sf sc : Int) (bw fv : Value) (l : List UInt8) (F : List (Int × Int)) (ho : OkGop W ⟨2, false, a, n, bw, l, sf, sc, fv, F⟩) (H : Wld W w x p q P Q z N v v L M (some ⟨r, h, f, c⟩) o1) (hN : N ≤ 9) (hz : z ≤ 128) (hn : v.n ≤ 900000) (hr : v.m.row.length ≤ 900000) :
    Calls Try.prog 49 #[.pointer (some ⟨x, 0, none⟩), .agg #[.int .i64 2, .bool false, .int .i64 a, .int .i64 n, bw, .int .i64 sf, .int .i64 sc, fv]] w (PlayP W x p q P Q z N v.n v.m.row.length) := by
  obtain ⟨hb, hF, hold, wk, wa, wn, wsf, wsc, hl, hf⟩ := ho
  dsimp only at hb hF hold wk wa wn wsf wsc hl hf
  obtain ⟨aob, capb, rfl, _, _⟩ := hb.form
  obtain ⟨aof, capf, rfl, _, _⟩ := hF.form
  have hvz := H.vz
  have hvN := H.vN
  have hnew := H.dn
  have hnewr := H.rn
  have hWx := H.xn
  have hWw := H.m.size
  have hg := H.g0 _ rfl
  have hcN : c ≤ 9 := by have := hg.fc; dsimp only at this; omega
  have hcz : c * z ≤ 1152 := Nat.le_trans (Nat.mul_le_mul hcN hz) (by omega)
  have hfc : f + c ≤ v.m.dur.length := by have := hg.fc; dsimp only at this; omega
  have hrD := hg.rD
  have hhD := hg.hD
  dsimp only at hrD hhD
  have hrp : r ∉ p :: L := fun hh => hrD (List.mem_append_left _ hh)
  have hrP : r ∉ P :: M := fun hh => hrD (List.mem_append_right _ hh)
  have hhp : h ∉ p :: L := fun hh => hhD (List.mem_append_left _ hh)
  have hhP : h ∉ P :: M := fun hh => hhD (List.mem_append_right _ hh)
  clear hg hrD hhD
  have LB := fun w h => lent_any l (.slice aob l.length capb) w h (by omega)
  have KB := fun w g cap v h hv => kept_any g cap l v w h hv
  have OB := fun w g cap h => over_any g cap l w h (by omega)
  have WA := fun w bw hP hR hb h1 h2 => gWrite_any r p q f c z v L a l bw w hP hR hb hvz hfc (by omega) (by omega) wa h1 h2
  have WB := fun w bw hP hR hb h1 h2 => hWrite_any h P Q f c z v M a l bw w hP hR hb hvz hfc (by omega) (by omega) wa h1 h2
  unfold GWrP PdP at WA
  unfold HWrP PrP at WB
  obtain ⟨s1, s2, s3, s4⟩ := wrA_sz f c z v a l
  obtain ⟨⟨V, E⟩, hRX⟩ : ∃ R, R = wrA f c z v a l := ⟨_, rfl⟩
  rw [← hRX] at WA WB s1 s2 s3 s4
  dsimp only at WA WB s1 s2 s3 s4
  clear hRX
  have hbo : l ≠ [] → ∀ b ∈ blks (.slice aob l.length capb), b < W.heap.size := fun h0 b hb' => Sl.lt hb (fun e => h0 (by cases l with | nil => rfl | cons y ys => cases e)) b hb'
  go_enter Try.func49, Try.ntmps49
  unfold PlayP
  go_wp2_with (with_reducible refine st_box ?_)
  refine StopOp.go rfl fun K hK => ?_
  refine wp_box (v := .agg #[.int .i64 2, .bool false, .int .i64 a, .int .i64 n, .slice aob l.length capb, .int .i64 sf, .int .i64 sc, .slice aof F.length capf]) (by rfl) ?_
  intro t w1 ht1 ht2 hm1 hT
  simp only [put_some, List.set_cons_succ, List.set_cons_zero]
  refine hK _ _ ?_
  clear hK K
  have hT1 : Blk w1 t 96 [.int .i64 2, .bool false, .int .i64 a, .int .i64 n, .slice aob l.length capb, .int .i64 sf, .int .i64 sc, .slice aof F.length capf] := hT
  have hW1 := H.ext hm1
  have d1 := hT1.cell' (i := 1) rfl
  clear hT
  go_wp2_with fail
  clear d1
  refine wp_region_T [⟨0, true, []⟩, ⟨1, true, []⟩, ⟨2, true, []⟩, ⟨3, true, []⟩, ⟨4, true, []⟩, ⟨5, true, []⟩, ⟨6, true, []⟩, ⟨7, true, []⟩, ⟨8, true, []⟩, ⟨9, true, []⟩, ⟨10, true, []⟩, ⟨11, true, []⟩, ⟨12, true, []⟩, ⟨13, true, []⟩] (by kernel_rfl) (by kernel_rfl) ?_
  have hmD := Mod.drew [] w1
  obtain ⟨xa, hxa⟩ : ∃ xa, xa = w1.drew := ⟨_, rfl⟩
  rw [← hxa] at hmD ⊢
  clear hxa
  have hW2 := hW1.ext hmD
  have hT2 := hT1.ext hmD
  have htl : ∀ k ∈ p :: L, k ≠ t := fun k hk e => by have := H.d.lt0 k hk; omega
  have htr : ∀ k ∈ P :: M, k ≠ t := fun k hk e => by have := H.r.lt0 k hk; omega
  have htx : x ≠ t := fun e => by have := H.bx.lt; omega
  have hbA : Bs xa (.slice aob l.length capb) l := Sl.ext hb hW2.m
  have hFA : Fs xa (.slice aof F.length capf) F := hF.far hW2.m (by simp)
  clear hW1 hT1 hm1
  have d0 := hT2.cell' (i := 0) rfl
  have d1 := hT2.cell' (i := 1) rfl
  have d2 := hT2.cell' (i := 2) rfl
  have d3 := hT2.cell' (i := 3) rfl
  have d4 := hT2.cell' (i := 4) rfl
  have d5 := hT2.cell' (i := 5) rfl
  have d6 := hT2.cell' (i := 6) rfl
  have d7 := hT2.cell' (i := 7) rfl
  have x2 := Blk.cell' hW2.bx (i := 2) (u := .pointer (some ⟨r, 0, none⟩)) rfl
  have x4 := Blk.cell' hW2.bx (i := 4) (u := .pointer (some ⟨h, 0, none⟩)) rfl
  iterate 14 (refine wpT_n rfl rfl (fun K hK => ?_); go_wp2_with fail)
  refine wpT_nil ?_
  go_wp2_with (first
                | (go_at_call 33; (with_reducible refine (LB _ hbA).mono ?_); rintro e w3 ⟨g, capg, rfl, hg, hL3, hm3⟩; have hW3 := hW2.ext hm3; have hT3 := hT2.ext hm3; have d2 := hT3.cell' (i := 2) rfl; have hd3 := hW3.d; have ga := (hW3.g0 _ rfl).a; have hg3 : g < w3.heap.size := (by obtain ⟨_, hB, _⟩ := hL3; exact hB.lt); have hgp : g ∉ p :: L := (fun hh => by have := hW2.d.lt0 g hh; omega); have hgP : g ∉ P :: M := (fun hh => by have := hW2.r.lt0 g hh; omega))
                | (go_at_call 34; (with_reducible refine (WA _ _ hd3 ga hL3.bs hrp (fun b hb => by have e : b = g := (by simpa [blks] using hb); rw [e]; exact ⟨hg3, hgp⟩)).mono ?_); rintro e w4 ⟨rfl, L4, hP4, hm4, hL4⟩; have hW4 := hW3.dt hP4 hm4 hL4 (by rw [s1]; exact hvz) (by rw [s2]; exact hvN); have hT4 := hT3.mod hm4 (fun hh => htl t hh rfl); have d2 := hT4.cell' (i := 2) rfl; have d4 := hT4.cell' (i := 4) rfl; have hr4 := hW4.r; have gb := (hW4.g0 _ rfl).b; have hb4 : Bs w4 (.slice aob l.length capb) l := Sl.ext hb hW4.m; have hL4' := hL3.mod hm4 hgp; have hbP : (l ≠ [] → ∀ b ∈ blks (.slice aob l.length capb), b < w4.heap.size ∧ b ∉ P :: M) := (fun h0 b hb' => by have h1 := hbo h0 b hb'; exact ⟨by have := hW4.m.size; omega, fun hh => by have := hnewr b hh; omega⟩))
                | (go_at_call 86; (with_reducible refine (WB _ _ hr4 gb hb4 hhP hbP).mono ?_); rintro e w5 ⟨rfl, M5, hP5, hm5, hM5⟩; have hW5 := hW4.rt hP5 hm5 hM5 (by rw [s1]; exact hvz) (by rw [s2]; exact hvN); have hT5 := hT4.mod hm5 (fun hh => htr t hh rfl); have d4 := hT5.cell' (i := 4) rfl; have hb5 : Bs w5 (.slice aob l.length capb) l := Sl.ext hb hW5.m; have hL5 := hL4'.mod hm5 hgP)
                | (go_at_call 35; (with_reducible refine (KB _ _ _ _ hL5 hb5).mono ?_); rintro e w6 ⟨rfl, hm6⟩; have hW6 := hW5.ext hm6; have hL6 := hL5.ext hm6)
                | (go_at_call 36; (with_reducible refine (OB _ _ _ hL6).mono ?_); rintro e w7 ⟨rfl, hm7⟩))
  have z3 := hm3.size
  have z4 := hm4.size
  have z5 := hm5.size
  have hgL4 : g ∉ p :: L4 := fun hh => (List.mem_cons.1 hh).elim (fun e => hgp (by simp [e])) (fun h1 => (hL4 g h1).elim (fun h2 => hgp (List.mem_cons_of_mem _ h2)) (fun h2 => by omega))
  have hgM5 : g ∉ P :: M5 := fun hh => (List.mem_cons.1 hh).elim (fun e => hgP (by simp [e])) (fun h1 => (hM5 g h1).elim (fun h2 => hgP (List.mem_cons_of_mem _ h2)) (fun h2 => by omega))
  have hW7 := hW6.keep hm7 (fun k hk hh => hgL4 (by have e : k = g := (by simpa using hh); exact e ▸ hk)) (fun k hk hh => hgM5 (by have e : k = g := (by simpa using hh); exact e ▸ hk)) (fun hh => by have e : x = g := (by simpa using hh); have := hW2.bx.lt; omega)
    (fun g' hg' => by
      have hr' : ∃ D, RegOk W xa p P z N D g' := hg'.elim (fun e => ⟨_, hW2.g0 g' e⟩) (fun e => ⟨_, hW2.g1 g' e⟩)
      obtain ⟨D, hr'⟩ := hr'
      exact ⟨fun hh => by have e : g'.r = g := (by simpa using hh); have := Rgn.lt hr'.a; omega, fun hh => by have e : g'.h = g := (by simpa using hh); have := Rgr.lt hr'.b; omega⟩)
    (fun k hk => by have e : k = g := (by simpa using hk); have := hW2.m.size; omega)
  go_ret
  exact ⟨V, L4, M5, some ⟨r, h, f, c⟩, o1, rfl, hW7, by omega, by omega⟩
set_option maxRecDepth 1000000 in
set_option maxHeartbeats 8000000 in
theorem play21_any (r h f c : Nat) (a n sf sc : Int) (bw fv : Value) (l : List UInt8) (F : List (Int × Int)) (ho : OkGop W ⟨2, true, a, n, bw, l, sf, sc, fv, F⟩) (H : Wld W w x p q P Q z N v v L M o0 (some ⟨r, h, f, c⟩)) (hN : N ≤ 9) (hz : z ≤ 128) (hn : v.n ≤ 900000) (hr : v.m.row.length ≤ 900000) :
    Calls Try.prog 49 #[.pointer (some ⟨x, 0, none⟩), .agg #[.int .i64 2, .bool true, .int .i64 a, .int .i64 n, bw, .int .i64 sf, .int .i64 sc, fv]] w (PlayP W x p q P Q z N v.n v.m.row.length) := by
  obtain ⟨hb, hF, hold, wk, wa, wn, wsf, wsc, hl, hf⟩ := ho
  dsimp only at hb hF hold wk wa wn wsf wsc hl hf
  obtain ⟨aob, capb, rfl, _, _⟩ := hb.form
  obtain ⟨aof, capf, rfl, _, _⟩ := hF.form
  have hvz := H.vz
  have hvN := H.vN
  have hnew := H.dn
  have hnewr := H.rn
  have hWx := H.xn
  have hWw := H.m.size
  have hg := H.g1 _ rfl
  have hcN : c ≤ 9 := by have := hg.fc; dsimp only at this; omega
  have hcz : c * z ≤ 1152 := Nat.le_trans (Nat.mul_le_mul hcN hz) (by omega)
  have hfc : f + c ≤ v.m.dur.length := by have := hg.fc; dsimp only at this; omega
  have hrD := hg.rD
  have hhD := hg.hD
  dsimp only at hrD hhD
  have hrp : r ∉ p :: L := fun hh => hrD (List.mem_append_left _ hh)
  have hrP : r ∉ P :: M := fun hh => hrD (List.mem_append_right _ hh)
  have hhp : h ∉ p :: L := fun hh => hhD (List.mem_append_left _ hh)
  have hhP : h ∉ P :: M := fun hh => hhD (List.mem_append_right _ hh)
  clear hg hrD hhD
  have LB := fun w h => lent_any l (.slice aob l.length capb) w h (by omega)
  have KB := fun w g cap v h hv => kept_any g cap l v w h hv
  have OB := fun w g cap h => over_any g cap l w h (by omega)
  have WA := fun w bw hP hR hb h1 h2 => gWrite_any r p q f c z v L a l bw w hP hR hb hvz hfc (by omega) (by omega) wa h1 h2
  have WB := fun w bw hP hR hb h1 h2 => hWrite_any h P Q f c z v M a l bw w hP hR hb hvz hfc (by omega) (by omega) wa h1 h2
  unfold GWrP PdP at WA
  unfold HWrP PrP at WB
  obtain ⟨s1, s2, s3, s4⟩ := wrA_sz f c z v a l
  obtain ⟨⟨V, E⟩, hRX⟩ : ∃ R, R = wrA f c z v a l := ⟨_, rfl⟩
  rw [← hRX] at WA WB s1 s2 s3 s4
  dsimp only at WA WB s1 s2 s3 s4
  clear hRX
  have hbo : l ≠ [] → ∀ b ∈ blks (.slice aob l.length capb), b < W.heap.size := fun h0 b hb' => Sl.lt hb (fun e => h0 (by cases l with | nil => rfl | cons y ys => cases e)) b hb'
  go_enter Try.func49, Try.ntmps49
  unfold PlayP
  go_wp2_with (with_reducible refine st_box ?_)
  refine StopOp.go rfl fun K hK => ?_
  refine wp_box (v := .agg #[.int .i64 2, .bool true, .int .i64 a, .int .i64 n, .slice aob l.length capb, .int .i64 sf, .int .i64 sc, .slice aof F.length capf]) (by rfl) ?_
  intro t w1 ht1 ht2 hm1 hT
  simp only [put_some, List.set_cons_succ, List.set_cons_zero]
  refine hK _ _ ?_
  clear hK K
  have hT1 : Blk w1 t 96 [.int .i64 2, .bool true, .int .i64 a, .int .i64 n, .slice aob l.length capb, .int .i64 sf, .int .i64 sc, .slice aof F.length capf] := hT
  have hW1 := H.ext hm1
  have d1 := hT1.cell' (i := 1) rfl
  clear hT
  go_wp2_with fail
  clear d1
  refine wp_region_T [⟨0, true, []⟩, ⟨1, true, []⟩, ⟨2, true, []⟩, ⟨3, true, []⟩, ⟨4, true, []⟩, ⟨5, true, []⟩, ⟨6, true, []⟩, ⟨7, true, []⟩, ⟨8, true, []⟩, ⟨9, true, []⟩, ⟨10, true, []⟩, ⟨11, true, []⟩, ⟨12, true, []⟩, ⟨13, true, []⟩] (by kernel_rfl) (by kernel_rfl) ?_
  have hmD := Mod.drew [] w1
  obtain ⟨xa, hxa⟩ : ∃ xa, xa = w1.drew := ⟨_, rfl⟩
  rw [← hxa] at hmD ⊢
  clear hxa
  have hW2 := hW1.ext hmD
  have hT2 := hT1.ext hmD
  have htl : ∀ k ∈ p :: L, k ≠ t := fun k hk e => by have := H.d.lt0 k hk; omega
  have htr : ∀ k ∈ P :: M, k ≠ t := fun k hk e => by have := H.r.lt0 k hk; omega
  have htx : x ≠ t := fun e => by have := H.bx.lt; omega
  have hbA : Bs xa (.slice aob l.length capb) l := Sl.ext hb hW2.m
  have hFA : Fs xa (.slice aof F.length capf) F := hF.far hW2.m (by simp)
  clear hW1 hT1 hm1
  have d0 := hT2.cell' (i := 0) rfl
  have d1 := hT2.cell' (i := 1) rfl
  have d2 := hT2.cell' (i := 2) rfl
  have d3 := hT2.cell' (i := 3) rfl
  have d4 := hT2.cell' (i := 4) rfl
  have d5 := hT2.cell' (i := 5) rfl
  have d6 := hT2.cell' (i := 6) rfl
  have d7 := hT2.cell' (i := 7) rfl
  have x3 := Blk.cell' hW2.bx (i := 3) (u := .pointer (some ⟨r, 0, none⟩)) rfl
  have x5 := Blk.cell' hW2.bx (i := 5) (u := .pointer (some ⟨h, 0, none⟩)) rfl
  iterate 14 (refine wpT_n rfl rfl (fun K hK => ?_); go_wp2_with fail)
  refine wpT_nil ?_
  go_wp2_with (first
                | (go_at_call 33; (with_reducible refine (LB _ hbA).mono ?_); rintro e w3 ⟨g, capg, rfl, hg, hL3, hm3⟩; have hW3 := hW2.ext hm3; have hT3 := hT2.ext hm3; have d2 := hT3.cell' (i := 2) rfl; have hd3 := hW3.d; have ga := (hW3.g1 _ rfl).a; have hg3 : g < w3.heap.size := (by obtain ⟨_, hB, _⟩ := hL3; exact hB.lt); have hgp : g ∉ p :: L := (fun hh => by have := hW2.d.lt0 g hh; omega); have hgP : g ∉ P :: M := (fun hh => by have := hW2.r.lt0 g hh; omega))
                | (go_at_call 34; (with_reducible refine (WA _ _ hd3 ga hL3.bs hrp (fun b hb => by have e : b = g := (by simpa [blks] using hb); rw [e]; exact ⟨hg3, hgp⟩)).mono ?_); rintro e w4 ⟨rfl, L4, hP4, hm4, hL4⟩; have hW4 := hW3.dt hP4 hm4 hL4 (by rw [s1]; exact hvz) (by rw [s2]; exact hvN); have hT4 := hT3.mod hm4 (fun hh => htl t hh rfl); have d2 := hT4.cell' (i := 2) rfl; have d4 := hT4.cell' (i := 4) rfl; have hr4 := hW4.r; have gb := (hW4.g1 _ rfl).b; have hb4 : Bs w4 (.slice aob l.length capb) l := Sl.ext hb hW4.m; have hL4' := hL3.mod hm4 hgp; have hbP : (l ≠ [] → ∀ b ∈ blks (.slice aob l.length capb), b < w4.heap.size ∧ b ∉ P :: M) := (fun h0 b hb' => by have h1 := hbo h0 b hb'; exact ⟨by have := hW4.m.size; omega, fun hh => by have := hnewr b hh; omega⟩))
                | (go_at_call 86; (with_reducible refine (WB _ _ hr4 gb hb4 hhP hbP).mono ?_); rintro e w5 ⟨rfl, M5, hP5, hm5, hM5⟩; have hW5 := hW4.rt hP5 hm5 hM5 (by rw [s1]; exact hvz) (by rw [s2]; exact hvN); have hT5 := hT4.mod hm5 (fun hh => htr t hh rfl); have d4 := hT5.cell' (i := 4) rfl; have hb5 : Bs w5 (.slice aob l.length capb) l := Sl.ext hb hW5.m; have hL5 := hL4'.mod hm5 hgP)
                | (go_at_call 35; (with_reducible refine (KB _ _ _ _ hL5 hb5).mono ?_); rintro e w6 ⟨rfl, hm6⟩; have hW6 := hW5.ext hm6; have hL6 := hL5.ext hm6)
                | (go_at_call 36; (with_reducible refine (OB _ _ _ hL6).mono ?_); rintro e w7 ⟨rfl, hm7⟩))
  have z3 := hm3.size
  have z4 := hm4.size
  have z5 := hm5.size
  have hgL4 : g ∉ p :: L4 := fun hh => (List.mem_cons.1 hh).elim (fun e => hgp (by simp [e])) (fun h1 => (hL4 g h1).elim (fun h2 => hgp (List.mem_cons_of_mem _ h2)) (fun h2 => by omega))
  have hgM5 : g ∉ P :: M5 := fun hh => (List.mem_cons.1 hh).elim (fun e => hgP (by simp [e])) (fun h1 => (hM5 g h1).elim (fun h2 => hgP (List.mem_cons_of_mem _ h2)) (fun h2 => by omega))
  have hW7 := hW6.keep hm7 (fun k hk hh => hgL4 (by have e : k = g := (by simpa using hh); exact e ▸ hk)) (fun k hk hh => hgM5 (by have e : k = g := (by simpa using hh); exact e ▸ hk)) (fun hh => by have e : x = g := (by simpa using hh); have := hW2.bx.lt; omega)
    (fun g' hg' => by
      have hr' : ∃ D, RegOk W xa p P z N D g' := hg'.elim (fun e => ⟨_, hW2.g0 g' e⟩) (fun e => ⟨_, hW2.g1 g' e⟩)
      obtain ⟨D, hr'⟩ := hr'
      exact ⟨fun hh => by have e : g'.r = g := (by simpa using hh); have := Rgn.lt hr'.a; omega, fun hh => by have e : g'.h = g := (by simpa using hh); have := Rgr.lt hr'.b; omega⟩)
    (fun k hk => by have e : k = g := (by simpa using hk); have := hW2.m.size; omega)
  go_ret
  exact ⟨V, L4, M5, o0, some ⟨r, h, f, c⟩, rfl, hW7, by omega, by omega⟩
set_option maxRecDepth 1000000 in
set_option maxHeartbeats 8000000 in
theorem play30_any (r h f c : Nat) (a n sf sc : Int) (bw fv : Value) (l : List UInt8) (F : List (Int × Int)) (ho : OkGop W ⟨3, false, a, n, bw, l, sf, sc, fv, F⟩) (H : Wld W w x p q P Q z N v v L M (some ⟨r, h, f, c⟩) o1) (hN : N ≤ 9) (hz : z ≤ 128) (hn : v.n ≤ 900000) (hr : v.m.row.length ≤ 900000) :
    Calls Try.prog 49 #[.pointer (some ⟨x, 0, none⟩), .agg #[.int .i64 3, .bool false, .int .i64 a, .int .i64 n, bw, .int .i64 sf, .int .i64 sc, fv]] w (PlayP W x p q P Q z N v.n v.m.row.length) := by
  obtain ⟨hb, hF, hold, wk, wa, wn, wsf, wsc, hl, hf⟩ := ho
  dsimp only at hb hF hold wk wa wn wsf wsc hl hf
  obtain ⟨aob, capb, rfl, _, _⟩ := hb.form
  obtain ⟨aof, capf, rfl, _, _⟩ := hF.form
  have hvz := H.vz
  have hvN := H.vN
  have hnew := H.dn
  have hnewr := H.rn
  have hWx := H.xn
  have hWw := H.m.size
  have hg := H.g0 _ rfl
  have hcN : c ≤ 9 := by have := hg.fc; dsimp only at this; omega
  have hcz : c * z ≤ 1152 := Nat.le_trans (Nat.mul_le_mul hcN hz) (by omega)
  have hfc : f + c ≤ v.m.dur.length := by have := hg.fc; dsimp only at this; omega
  have hrD := hg.rD
  have hhD := hg.hD
  dsimp only at hrD hhD
  have hrp : r ∉ p :: L := fun hh => hrD (List.mem_append_left _ hh)
  have hrP : r ∉ P :: M := fun hh => hrD (List.mem_append_right _ hh)
  have hhp : h ∉ p :: L := fun hh => hhD (List.mem_append_left _ hh)
  have hhP : h ∉ P :: M := fun hh => hhD (List.mem_append_right _ hh)
  clear hg hrD hhD
  have SA := fun w hR hP => gSync_any r p q f c z v L w hR hP (by omega) (by omega)
  have SB := fun w hR hP => hSync_any h P Q f c v M w hR hP (by omega) (by omega)
  unfold PdP at SA
  unfold PrP at SB
  obtain ⟨s1, s2, s3, s4⟩ := sy_sz v
  obtain ⟨E, hE⟩ : ∃ E : Int, E = v.e 0 := ⟨_, rfl⟩
  rw [← hE] at SA SB
  clear hE
  obtain ⟨V, hV⟩ : ∃ V, V = v.sy := ⟨_, rfl⟩
  rw [← hV] at SA SB s1 s2 s3 s4
  clear hV
  go_enter Try.func49, Try.ntmps49
  unfold PlayP
  go_wp2_with (with_reducible refine st_box ?_)
  refine StopOp.go rfl fun K hK => ?_
  refine wp_box (v := .agg #[.int .i64 3, .bool false, .int .i64 a, .int .i64 n, .slice aob l.length capb, .int .i64 sf, .int .i64 sc, .slice aof F.length capf]) (by rfl) ?_
  intro t w1 ht1 ht2 hm1 hT
  simp only [put_some, List.set_cons_succ, List.set_cons_zero]
  refine hK _ _ ?_
  clear hK K
  have hT1 : Blk w1 t 96 [.int .i64 3, .bool false, .int .i64 a, .int .i64 n, .slice aob l.length capb, .int .i64 sf, .int .i64 sc, .slice aof F.length capf] := hT
  have hW1 := H.ext hm1
  have d1 := hT1.cell' (i := 1) rfl
  clear hT
  go_wp2_with fail
  clear d1
  refine wp_region_T [⟨0, true, []⟩, ⟨1, true, []⟩, ⟨2, true, []⟩, ⟨3, true, []⟩, ⟨4, true, []⟩, ⟨5, true, []⟩, ⟨6, true, []⟩, ⟨7, true, []⟩, ⟨8, true, []⟩, ⟨9, true, []⟩, ⟨10, true, []⟩, ⟨11, true, []⟩, ⟨12, true, []⟩, ⟨13, true, []⟩] (by kernel_rfl) (by kernel_rfl) ?_
  have hmD := Mod.drew [] w1
  obtain ⟨xa, hxa⟩ : ∃ xa, xa = w1.drew := ⟨_, rfl⟩
  rw [← hxa] at hmD ⊢
  clear hxa
  have hW2 := hW1.ext hmD
  have hT2 := hT1.ext hmD
  have htl : ∀ k ∈ p :: L, k ≠ t := fun k hk e => by have := H.d.lt0 k hk; omega
  have htr : ∀ k ∈ P :: M, k ≠ t := fun k hk e => by have := H.r.lt0 k hk; omega
  have htx : x ≠ t := fun e => by have := H.bx.lt; omega
  have hbA : Bs xa (.slice aob l.length capb) l := Sl.ext hb hW2.m
  have hFA : Fs xa (.slice aof F.length capf) F := hF.far hW2.m (by simp)
  clear hW1 hT1 hm1
  have d0 := hT2.cell' (i := 0) rfl
  have d1 := hT2.cell' (i := 1) rfl
  have d2 := hT2.cell' (i := 2) rfl
  have d3 := hT2.cell' (i := 3) rfl
  have d4 := hT2.cell' (i := 4) rfl
  have d5 := hT2.cell' (i := 5) rfl
  have d6 := hT2.cell' (i := 6) rfl
  have d7 := hT2.cell' (i := 7) rfl
  have x2 := Blk.cell' hW2.bx (i := 2) (u := .pointer (some ⟨r, 0, none⟩)) rfl
  have x4 := Blk.cell' hW2.bx (i := 4) (u := .pointer (some ⟨h, 0, none⟩)) rfl
  have ga := (hW2.g0 _ rfl).a
  have hd2 := hW2.d
  iterate 14 (refine wpT_n rfl rfl (fun K hK => ?_); go_wp2_with fail)
  refine wpT_nil ?_
  go_wp2_with (first
                | (go_at_call 41; (with_reducible refine (SA _ ga hd2).mono ?_); rintro e w3 ⟨rfl, L3, hP3, hm3, hL3⟩; have hW3 := hW2.dt hP3 hm3 hL3 (by rw [s1]; exact hvz) (by rw [s2]; exact hvN); have hr3 := hW3.r; have gb := (hW3.g0 _ rfl).b)
                | (go_at_call 87; (with_reducible refine (SB _ gb hr3).mono ?_); rintro e w4 ⟨rfl, M4, hP4, hm4, hM4⟩; have hW4 := hW3.rt hP4 hm4 hM4 (by rw [s1]; exact hvz) (by rw [s2]; exact hvN)))
  go_ret
  exact ⟨V, L3, M4, some ⟨r, h, f, c⟩, o1, rfl, hW4, by omega, by omega⟩
set_option maxRecDepth 1000000 in
set_option maxHeartbeats 8000000 in
theorem play31_any (r h f c : Nat) (a n sf sc : Int) (bw fv : Value) (l : List UInt8) (F : List (Int × Int)) (ho : OkGop W ⟨3, true, a, n, bw, l, sf, sc, fv, F⟩) (H : Wld W w x p q P Q z N v v L M o0 (some ⟨r, h, f, c⟩)) (hN : N ≤ 9) (hz : z ≤ 128) (hn : v.n ≤ 900000) (hr : v.m.row.length ≤ 900000) :
    Calls Try.prog 49 #[.pointer (some ⟨x, 0, none⟩), .agg #[.int .i64 3, .bool true, .int .i64 a, .int .i64 n, bw, .int .i64 sf, .int .i64 sc, fv]] w (PlayP W x p q P Q z N v.n v.m.row.length) := by
  obtain ⟨hb, hF, hold, wk, wa, wn, wsf, wsc, hl, hf⟩ := ho
  dsimp only at hb hF hold wk wa wn wsf wsc hl hf
  obtain ⟨aob, capb, rfl, _, _⟩ := hb.form
  obtain ⟨aof, capf, rfl, _, _⟩ := hF.form
  have hvz := H.vz
  have hvN := H.vN
  have hnew := H.dn
  have hnewr := H.rn
  have hWx := H.xn
  have hWw := H.m.size
  have hg := H.g1 _ rfl
  have hcN : c ≤ 9 := by have := hg.fc; dsimp only at this; omega
  have hcz : c * z ≤ 1152 := Nat.le_trans (Nat.mul_le_mul hcN hz) (by omega)
  have hfc : f + c ≤ v.m.dur.length := by have := hg.fc; dsimp only at this; omega
  have hrD := hg.rD
  have hhD := hg.hD
  dsimp only at hrD hhD
  have hrp : r ∉ p :: L := fun hh => hrD (List.mem_append_left _ hh)
  have hrP : r ∉ P :: M := fun hh => hrD (List.mem_append_right _ hh)
  have hhp : h ∉ p :: L := fun hh => hhD (List.mem_append_left _ hh)
  have hhP : h ∉ P :: M := fun hh => hhD (List.mem_append_right _ hh)
  clear hg hrD hhD
  have SA := fun w hR hP => gSync_any r p q f c z v L w hR hP (by omega) (by omega)
  have SB := fun w hR hP => hSync_any h P Q f c v M w hR hP (by omega) (by omega)
  unfold PdP at SA
  unfold PrP at SB
  obtain ⟨s1, s2, s3, s4⟩ := sy_sz v
  obtain ⟨E, hE⟩ : ∃ E : Int, E = v.e 0 := ⟨_, rfl⟩
  rw [← hE] at SA SB
  clear hE
  obtain ⟨V, hV⟩ : ∃ V, V = v.sy := ⟨_, rfl⟩
  rw [← hV] at SA SB s1 s2 s3 s4
  clear hV
  go_enter Try.func49, Try.ntmps49
  unfold PlayP
  go_wp2_with (with_reducible refine st_box ?_)
  refine StopOp.go rfl fun K hK => ?_
  refine wp_box (v := .agg #[.int .i64 3, .bool true, .int .i64 a, .int .i64 n, .slice aob l.length capb, .int .i64 sf, .int .i64 sc, .slice aof F.length capf]) (by rfl) ?_
  intro t w1 ht1 ht2 hm1 hT
  simp only [put_some, List.set_cons_succ, List.set_cons_zero]
  refine hK _ _ ?_
  clear hK K
  have hT1 : Blk w1 t 96 [.int .i64 3, .bool true, .int .i64 a, .int .i64 n, .slice aob l.length capb, .int .i64 sf, .int .i64 sc, .slice aof F.length capf] := hT
  have hW1 := H.ext hm1
  have d1 := hT1.cell' (i := 1) rfl
  clear hT
  go_wp2_with fail
  clear d1
  refine wp_region_T [⟨0, true, []⟩, ⟨1, true, []⟩, ⟨2, true, []⟩, ⟨3, true, []⟩, ⟨4, true, []⟩, ⟨5, true, []⟩, ⟨6, true, []⟩, ⟨7, true, []⟩, ⟨8, true, []⟩, ⟨9, true, []⟩, ⟨10, true, []⟩, ⟨11, true, []⟩, ⟨12, true, []⟩, ⟨13, true, []⟩] (by kernel_rfl) (by kernel_rfl) ?_
  have hmD := Mod.drew [] w1
  obtain ⟨xa, hxa⟩ : ∃ xa, xa = w1.drew := ⟨_, rfl⟩
  rw [← hxa] at hmD ⊢
  clear hxa
  have hW2 := hW1.ext hmD
  have hT2 := hT1.ext hmD
  have htl : ∀ k ∈ p :: L, k ≠ t := fun k hk e => by have := H.d.lt0 k hk; omega
  have htr : ∀ k ∈ P :: M, k ≠ t := fun k hk e => by have := H.r.lt0 k hk; omega
  have htx : x ≠ t := fun e => by have := H.bx.lt; omega
  have hbA : Bs xa (.slice aob l.length capb) l := Sl.ext hb hW2.m
  have hFA : Fs xa (.slice aof F.length capf) F := hF.far hW2.m (by simp)
  clear hW1 hT1 hm1
  have d0 := hT2.cell' (i := 0) rfl
  have d1 := hT2.cell' (i := 1) rfl
  have d2 := hT2.cell' (i := 2) rfl
  have d3 := hT2.cell' (i := 3) rfl
  have d4 := hT2.cell' (i := 4) rfl
  have d5 := hT2.cell' (i := 5) rfl
  have d6 := hT2.cell' (i := 6) rfl
  have d7 := hT2.cell' (i := 7) rfl
  have x3 := Blk.cell' hW2.bx (i := 3) (u := .pointer (some ⟨r, 0, none⟩)) rfl
  have x5 := Blk.cell' hW2.bx (i := 5) (u := .pointer (some ⟨h, 0, none⟩)) rfl
  have ga := (hW2.g1 _ rfl).a
  have hd2 := hW2.d
  iterate 14 (refine wpT_n rfl rfl (fun K hK => ?_); go_wp2_with fail)
  refine wpT_nil ?_
  go_wp2_with (first
                | (go_at_call 41; (with_reducible refine (SA _ ga hd2).mono ?_); rintro e w3 ⟨rfl, L3, hP3, hm3, hL3⟩; have hW3 := hW2.dt hP3 hm3 hL3 (by rw [s1]; exact hvz) (by rw [s2]; exact hvN); have hr3 := hW3.r; have gb := (hW3.g1 _ rfl).b)
                | (go_at_call 87; (with_reducible refine (SB _ gb hr3).mono ?_); rintro e w4 ⟨rfl, M4, hP4, hm4, hM4⟩; have hW4 := hW3.rt hP4 hm4 hM4 (by rw [s1]; exact hvz) (by rw [s2]; exact hvN)))
  go_ret
  exact ⟨V, L3, M4, o0, some ⟨r, h, f, c⟩, rfl, hW4, by omega, by omega⟩
end
end Go.Proofs.Ytdmnogmhnhjdgaa
