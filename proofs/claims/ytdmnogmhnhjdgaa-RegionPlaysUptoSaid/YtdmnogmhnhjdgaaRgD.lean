import Derived.Test.YtdmnogmhnhjdgaaRgC
/-! Regions: New. -/
set_option linter.unusedVariables false
set_option linter.unusedSimpArgs false
set_option maxRecDepth 100000
namespace Go.Proofs.Ytdmnogmhnhjdgaa
open Go.RowKit Gw

def nErr (N : Nat) (f c : Int) : Int := if f < 0 ∨ c < 1 ∨ (N : Int) < f ∨ (N : Int) - f < c then 2 else 0
/-- the document's region in memory -/
def Rgr (w : World) (r p f c : Nat) : Prop := Blk w r 171 [.pointer (some ⟨p, 0, none⟩), .int .i64 (f : Nat), .int .i64 (c : Nat)]
theorem Rgr.mod {w w' : World} {r p f c : Nat} {M : List Nat} (h : Rgr w r p f c) (hm : Mod M w w') (hr : r ∉ M) : Rgr w' r p f c := Blk.mod h hm hr
theorem Rgr.ext {w w' : World} {r p f c : Nat} (h : Rgr w r p f c) (hm : Mod [] w w') : Rgr w' r p f c := Blk.ext h hm
theorem gnew_no (v : Value) (f c : Int) (w : World) (h : NoPw w v) : Calls Try.prog 31 #[v, .agg #[.int .i64 f, .int .i64 c]] w fun e w' => e = .returned (.tuple #[.pointer none, .int .i64 1]) ∧ Mod [] w w' := by
  have NO := fun w h => pSectors_no v w h
  have hx : ∀ w', Mod [] w w' → NoPw w' v := fun w' hm => h.imp id fun ⟨p, h1, h2⟩ => ⟨p, h1, h2.ext hm⟩
  have key : ∀ x, v = .pointer x → Calls Try.prog 31 #[v, .agg #[.int .i64 f, .int .i64 c]] w fun e w' => e = .returned (.tuple #[.pointer none, .int .i64 1]) ∧ Mod [] w w' := by
    rintro x rfl
    go_enter Try.func31, Try.ntmps31
    go_wp2_with (with_reducible refine st_box ?_)
    refine StopOp.go rfl fun K hK => ?_
    refine wp_box (v := .agg #[.int .i64 f, .int .i64 c]) (by rfl) ?_
    intro t w1 ht1 ht2 hm1 hT
    simp only [put_some, List.set_cons_succ, List.set_cons_zero]
    refine hK _ _ ?_
    clear hK K
    have h1 := hx _ hm1
    go_wp2_with (go_at_call 69; (with_reducible refine (NO _ h1).mono ?_); rintro e w2 ⟨rfl, rfl⟩)
    go_ret2
    exact ⟨rfl, hm1⟩
  rcases h with h' | ⟨r, h', _⟩
  · exact key _ h'
  · exact key _ h'
set_option maxRecDepth 1000000 in
set_option maxHeartbeats 4000000 in
theorem gnew_any (p q : Nat) (v : Pv) (L : List Nat) (f c : Int) (w : World) (hP : Pd w p q v L) (hf : i64 f) (hc : i64 c) :
    Calls Try.prog 31 #[.pointer (some ⟨p, 0, none⟩), .agg #[.int .i64 f, .int .i64 c]] w fun e w' => (nErr v.m.dur.length f c = 0 ∧ ∃ r, e = .returned (.tuple #[.pointer (some ⟨r, 0, none⟩), .int .i64 0]) ∧ Rgn w' r p f.toNat c.toNat v.m.sz ∧ w.heap.size ≤ r ∧ Mod [] w w') ∨ (nErr v.m.dur.length f c ≠ 0 ∧ e = .returned (.tuple #[.pointer none, .int .i64 2]) ∧ Mod [] w w') := by
  have hN1 := hP.ok.m.n1
  have hN2 := hP.ok.m.n2
  have SE := fun w h => pSectors_any p q v L w h
  have SI := fun w h => pSize_any p q v L w h
  obtain ⟨N, hN⟩ : ∃ N, N = v.m.dur.length := ⟨_, rfl⟩
  obtain ⟨z, hz⟩ : ∃ z, z = v.m.sz := ⟨_, rfl⟩
  rw [← hN] at hN1 hN2 SE ⊢
  rw [← hz] at SI ⊢
  have y1 : (1 : Int) ≤ N := by omega
  have y2 : (N : Int) ≤ 65536 := by omega
  have e0 : ((N : Int) == 0) = false := by rw [beq_eq_false_iff_ne]; omega
  obtain ⟨hf1, hf2⟩ := hf
  obtain ⟨hc1, hc2⟩ := hc
  clear hN1 hN2 hN hz
  by_cases g1 : f < 0
  · skip
    go_enter Try.func31, Try.ntmps31
    go_wp2_with (with_reducible refine st_box ?_)
    refine StopOp.go rfl fun K hK => ?_
    refine wp_box (v := .agg #[.int .i64 f, .int .i64 c]) (by rfl) ?_
    intro t w1 ht1 ht2 hm1 hT
    simp only [put_some, List.set_cons_succ, List.set_cons_zero]
    refine hK _ _ ?_
    clear hK K
    have hT1 : Blk w1 t 65 [.int .i64 f, .int .i64 c] := hT
    have hP1 := hP.ext hm1
    clear hT
    go_wp2_with (go_at_call 69; (with_reducible refine (SE _ hP1).mono ?_); rintro e w2 ⟨rfl, rfl⟩)
    refine wp_region_T [⟨0, true, []⟩, ⟨1, true, []⟩, ⟨2, true, []⟩, ⟨3, true, []⟩, ⟨4, true, []⟩, ⟨5, true, []⟩, ⟨6, true, []⟩, ⟨7, true, []⟩, ⟨8, true, []⟩, ⟨9, true, []⟩, ⟨10, true, []⟩, ⟨11, true, []⟩, ⟨12, false, [10]⟩, ⟨13, true, []⟩, ⟨14, true, []⟩, ⟨15, true, []⟩, ⟨16, true, []⟩, ⟨17, true, []⟩, ⟨18, true, []⟩, ⟨20, true, []⟩, ⟨21, true, []⟩, ⟨19, false, [17, 21]⟩, ⟨22, true, []⟩, ⟨23, true, []⟩, ⟨24, true, []⟩, ⟨25, true, []⟩] (by kernel_rfl) (by kernel_rfl) ?_
    have hmD := hm1.ext (Mod.drew [] w1)
    have hm1D := Mod.drew [] w1
    obtain ⟨x, hx⟩ : ∃ x, x = w1.drew := ⟨_, rfl⟩
    rw [← hx] at hmD hm1D ⊢
    clear hx
    have hT2 := hT1.ext hm1D
    have hP2 := hP1.ext hm1D
    have c0 := hT2.cell' (i := 0) rfl
    have c1 := hT2.cell' (i := 1) rfl
    iterate 4 (refine wpT_n rfl rfl (fun K hK => ?_); go_wp2_with fail)
    iterate 3 (refine wpT_gk (gi := 3) rfl rfl rfl rfl rfl rfl (fun K hK => ?_); go_wp2_with fail)
    iterate 2 (refine wpT_n rfl rfl (fun K hK => ?_); go_wp2_with fail)
    iterate 5 (refine wpT_gk (gi := 8) rfl rfl rfl rfl rfl rfl (fun K hK => ?_); go_wp2_with fail)
    iterate 2 (refine wpT_n rfl rfl (fun K hK => ?_); go_wp2_with fail)
    iterate 8 (refine wpT_gk (gi := 15) rfl rfl rfl rfl rfl rfl (fun K hK => ?_); go_wp2_with fail)
    iterate 2 (refine wpT_n rfl rfl (fun K hK => ?_); go_wp2_with fail)
    refine wpT_nil ?_
    go_wp2_with fail
    go_ret2
    rw [show nErr N f c = 2 from if_pos (by omega)]
    exact .inr ⟨by decide, rfl, hmD⟩
  have q1 : decide (f < 0) = false := decide_eq_false (by omega)
  by_cases g2 : c < 1
  · have g1' : 0 ≤ f := by omega
    go_enter Try.func31, Try.ntmps31
    go_wp2_with (with_reducible refine st_box ?_)
    refine StopOp.go rfl fun K hK => ?_
    refine wp_box (v := .agg #[.int .i64 f, .int .i64 c]) (by rfl) ?_
    intro t w1 ht1 ht2 hm1 hT
    simp only [put_some, List.set_cons_succ, List.set_cons_zero]
    refine hK _ _ ?_
    clear hK K
    have hT1 : Blk w1 t 65 [.int .i64 f, .int .i64 c] := hT
    have hP1 := hP.ext hm1
    clear hT
    go_wp2_with (go_at_call 69; (with_reducible refine (SE _ hP1).mono ?_); rintro e w2 ⟨rfl, rfl⟩)
    refine wp_region_T [⟨0, true, []⟩, ⟨1, true, []⟩, ⟨2, true, []⟩, ⟨3, true, []⟩, ⟨4, true, []⟩, ⟨5, true, []⟩, ⟨6, true, []⟩, ⟨7, true, []⟩, ⟨8, true, []⟩, ⟨9, true, []⟩, ⟨10, true, []⟩, ⟨11, true, []⟩, ⟨12, false, [10]⟩, ⟨13, true, []⟩, ⟨14, true, []⟩, ⟨15, true, []⟩, ⟨16, true, []⟩, ⟨17, true, []⟩, ⟨18, true, []⟩, ⟨20, true, []⟩, ⟨21, true, []⟩, ⟨19, false, [17, 21]⟩, ⟨22, true, []⟩, ⟨23, true, []⟩, ⟨24, true, []⟩, ⟨25, true, []⟩] (by kernel_rfl) (by kernel_rfl) ?_
    have hmD := hm1.ext (Mod.drew [] w1)
    have hm1D := Mod.drew [] w1
    obtain ⟨x, hx⟩ : ∃ x, x = w1.drew := ⟨_, rfl⟩
    rw [← hx] at hmD hm1D ⊢
    clear hx
    have hT2 := hT1.ext hm1D
    have hP2 := hP1.ext hm1D
    have c0 := hT2.cell' (i := 0) rfl
    have c1 := hT2.cell' (i := 1) rfl
    iterate 4 (refine wpT_n rfl rfl (fun K hK => ?_); go_wp2_with fail)
    iterate 3 (refine wpT_gq (gi := 3) rfl rfl rfl rfl rfl (fun K hK => ?_); go_wp2_with fail)
    iterate 2 (refine wpT_n rfl rfl (fun K hK => ?_); go_wp2_with fail)
    iterate 5 (refine wpT_gk (gi := 8) rfl rfl rfl rfl rfl rfl (fun K hK => ?_); go_wp2_with fail)
    iterate 2 (refine wpT_n rfl rfl (fun K hK => ?_); go_wp2_with fail)
    iterate 8 (refine wpT_gk (gi := 15) rfl rfl rfl rfl rfl rfl (fun K hK => ?_); go_wp2_with fail)
    iterate 2 (refine wpT_n rfl rfl (fun K hK => ?_); go_wp2_with fail)
    refine wpT_nil ?_
    go_wp2_with fail
    go_ret2
    rw [show nErr N f c = 2 from if_pos (by omega)]
    exact .inr ⟨by decide, rfl, hmD⟩
  have q2 : decide (c < 1) = false := decide_eq_false (by omega)
  by_cases g3 : (N : Int) < f
  · have g1' : 0 ≤ f := by omega
    have g2' : 1 ≤ c := by omega
    go_enter Try.func31, Try.ntmps31
    go_wp2_with (with_reducible refine st_box ?_)
    refine StopOp.go rfl fun K hK => ?_
    refine wp_box (v := .agg #[.int .i64 f, .int .i64 c]) (by rfl) ?_
    intro t w1 ht1 ht2 hm1 hT
    simp only [put_some, List.set_cons_succ, List.set_cons_zero]
    refine hK _ _ ?_
    clear hK K
    have hT1 : Blk w1 t 65 [.int .i64 f, .int .i64 c] := hT
    have hP1 := hP.ext hm1
    clear hT
    go_wp2_with (go_at_call 69; (with_reducible refine (SE _ hP1).mono ?_); rintro e w2 ⟨rfl, rfl⟩)
    refine wp_region_T [⟨0, true, []⟩, ⟨1, true, []⟩, ⟨2, true, []⟩, ⟨3, true, []⟩, ⟨4, true, []⟩, ⟨5, true, []⟩, ⟨6, true, []⟩, ⟨7, true, []⟩, ⟨8, true, []⟩, ⟨9, true, []⟩, ⟨10, true, []⟩, ⟨11, true, []⟩, ⟨12, false, [10]⟩, ⟨13, true, []⟩, ⟨14, true, []⟩, ⟨15, true, []⟩, ⟨16, true, []⟩, ⟨17, true, []⟩, ⟨18, true, []⟩, ⟨20, true, []⟩, ⟨21, true, []⟩, ⟨19, false, [17, 21]⟩, ⟨22, true, []⟩, ⟨23, true, []⟩, ⟨24, true, []⟩, ⟨25, true, []⟩] (by kernel_rfl) (by kernel_rfl) ?_
    have hmD := hm1.ext (Mod.drew [] w1)
    have hm1D := Mod.drew [] w1
    obtain ⟨x, hx⟩ : ∃ x, x = w1.drew := ⟨_, rfl⟩
    rw [← hx] at hmD hm1D ⊢
    clear hx
    have hT2 := hT1.ext hm1D
    have hP2 := hP1.ext hm1D
    have c0 := hT2.cell' (i := 0) rfl
    have c1 := hT2.cell' (i := 1) rfl
    iterate 4 (refine wpT_n rfl rfl (fun K hK => ?_); go_wp2_with fail)
    iterate 3 (refine wpT_gq (gi := 3) rfl rfl rfl rfl rfl (fun K hK => ?_); go_wp2_with fail)
    iterate 2 (refine wpT_n rfl rfl (fun K hK => ?_); go_wp2_with fail)
    iterate 3 (refine wpT_gq (gi := 8) rfl rfl rfl rfl rfl (fun K hK => ?_); go_wp2_with fail)
    refine wpT_gcallh (gi := 8) rfl rfl rfl rfl (fun K hK => ?_)
    go_wp2_with (go_at_call 69; (with_reducible refine (SE _ hP2).mono ?_); rintro e w3 ⟨rfl, rfl⟩)
    refine ⟨agains_same, ?_⟩
    refine wpT_gq (gi := 8) rfl rfl rfl rfl rfl (fun K hK => ?_)
    go_wp2_with fail
    iterate 2 (refine wpT_n rfl rfl (fun K hK => ?_); go_wp2_with fail)
    iterate 8 (refine wpT_gk (gi := 15) rfl rfl rfl rfl rfl rfl (fun K hK => ?_); go_wp2_with fail)
    iterate 2 (refine wpT_n rfl rfl (fun K hK => ?_); go_wp2_with fail)
    refine wpT_nil ?_
    go_wp2_with fail
    go_ret2
    rw [show nErr N f c = 2 from if_pos (by omega)]
    exact .inr ⟨by decide, rfl, hmD⟩
  have g1' : 0 ≤ f := by omega
  have g2' : 1 ≤ c := by omega
  have g3' : f ≤ N := by omega
  have q3 : decide ((N : Int) < f) = false := decide_eq_false (by omega)
  by_cases g4 : (N : Int) - f < c
  · skip
    go_enter Try.func31, Try.ntmps31
    go_wp2_with (with_reducible refine st_box ?_)
    refine StopOp.go rfl fun K hK => ?_
    refine wp_box (v := .agg #[.int .i64 f, .int .i64 c]) (by rfl) ?_
    intro t w1 ht1 ht2 hm1 hT
    simp only [put_some, List.set_cons_succ, List.set_cons_zero]
    refine hK _ _ ?_
    clear hK K
    have hT1 : Blk w1 t 65 [.int .i64 f, .int .i64 c] := hT
    have hP1 := hP.ext hm1
    clear hT
    go_wp2_with (go_at_call 69; (with_reducible refine (SE _ hP1).mono ?_); rintro e w2 ⟨rfl, rfl⟩)
    refine wp_region_T [⟨0, true, []⟩, ⟨1, true, []⟩, ⟨2, true, []⟩, ⟨3, true, []⟩, ⟨4, true, []⟩, ⟨5, true, []⟩, ⟨6, true, []⟩, ⟨7, true, []⟩, ⟨8, true, []⟩, ⟨9, true, []⟩, ⟨10, true, []⟩, ⟨11, true, []⟩, ⟨12, false, [10]⟩, ⟨13, true, []⟩, ⟨14, true, []⟩, ⟨15, true, []⟩, ⟨16, true, []⟩, ⟨17, true, []⟩, ⟨18, true, []⟩, ⟨20, true, []⟩, ⟨21, true, []⟩, ⟨19, false, [17, 21]⟩, ⟨22, true, []⟩, ⟨23, true, []⟩, ⟨24, true, []⟩, ⟨25, true, []⟩] (by kernel_rfl) (by kernel_rfl) ?_
    have hmD := hm1.ext (Mod.drew [] w1)
    have hm1D := Mod.drew [] w1
    obtain ⟨x, hx⟩ : ∃ x, x = w1.drew := ⟨_, rfl⟩
    rw [← hx] at hmD hm1D ⊢
    clear hx
    have hT2 := hT1.ext hm1D
    have hP2 := hP1.ext hm1D
    have c0 := hT2.cell' (i := 0) rfl
    have c1 := hT2.cell' (i := 1) rfl
    iterate 4 (refine wpT_n rfl rfl (fun K hK => ?_); go_wp2_with fail)
    iterate 3 (refine wpT_gq (gi := 3) rfl rfl rfl rfl rfl (fun K hK => ?_); go_wp2_with fail)
    iterate 2 (refine wpT_n rfl rfl (fun K hK => ?_); go_wp2_with fail)
    iterate 3 (refine wpT_gq (gi := 8) rfl rfl rfl rfl rfl (fun K hK => ?_); go_wp2_with fail)
    refine wpT_gcallh (gi := 8) rfl rfl rfl rfl (fun K hK => ?_)
    go_wp2_with (go_at_call 69; (with_reducible refine (SE _ hP2).mono ?_); rintro e w3 ⟨rfl, rfl⟩)
    refine ⟨agains_same, ?_⟩
    refine wpT_gq (gi := 8) rfl rfl rfl rfl rfl (fun K hK => ?_)
    go_wp2_with fail
    iterate 2 (refine wpT_n rfl rfl (fun K hK => ?_); go_wp2_with fail)
    iterate 5 (refine wpT_gq (gi := 15) rfl rfl rfl rfl rfl (fun K hK => ?_); go_wp2_with fail)
    refine wpT_gcallh (gi := 15) rfl rfl rfl rfl (fun K hK => ?_)
    go_wp2_with (go_at_call 69; (with_reducible refine (SE _ hP2).mono ?_); rintro e w3 ⟨rfl, rfl⟩)
    refine ⟨agains_same, ?_⟩
    iterate 2 (refine wpT_gq (gi := 15) rfl rfl rfl rfl rfl (fun K hK => ?_); go_wp2_with fail)
    iterate 2 (refine wpT_n rfl rfl (fun K hK => ?_); go_wp2_with fail)
    refine wpT_nil ?_
    go_wp2_with fail
    go_ret2
    rw [show nErr N f c = 2 from if_pos (by omega)]
    exact .inr ⟨by decide, rfl, hmD⟩
  have g4' : c ≤ (N : Int) - f := by omega
  have q4 : decide ((N : Int) - f < c) = false := decide_eq_false (by omega)
  clear g1 g2 g3 g4
  go_enter Try.func31, Try.ntmps31
  go_wp2_with (with_reducible refine st_box ?_)
  refine StopOp.go rfl fun K hK => ?_
  refine wp_box (v := .agg #[.int .i64 f, .int .i64 c]) (by rfl) ?_
  intro t w1 ht1 ht2 hm1 hT
  simp only [put_some, List.set_cons_succ, List.set_cons_zero]
  refine hK _ _ ?_
  clear hK K
  have hT1 : Blk w1 t 65 [.int .i64 f, .int .i64 c] := hT
  have hP1 := hP.ext hm1
  clear hT
  go_wp2_with (go_at_call 69; (with_reducible refine (SE _ hP1).mono ?_); rintro e w2 ⟨rfl, rfl⟩)
  refine wp_region_T [⟨0, true, []⟩, ⟨1, true, []⟩, ⟨2, true, []⟩, ⟨3, true, []⟩, ⟨4, true, []⟩, ⟨5, true, []⟩, ⟨6, true, []⟩, ⟨7, true, []⟩, ⟨8, true, []⟩, ⟨9, true, []⟩, ⟨10, true, []⟩, ⟨11, true, []⟩, ⟨12, false, [10]⟩, ⟨13, true, []⟩, ⟨14, true, []⟩, ⟨15, true, []⟩, ⟨16, true, []⟩, ⟨17, true, []⟩, ⟨18, true, []⟩, ⟨20, true, []⟩, ⟨21, true, []⟩, ⟨19, false, [17, 21]⟩, ⟨22, true, []⟩, ⟨23, true, []⟩, ⟨24, true, []⟩, ⟨25, true, []⟩] (by kernel_rfl) (by kernel_rfl) ?_
  have hmD := hm1.ext (Mod.drew [] w1)
  have hm1D := Mod.drew [] w1
  obtain ⟨x, hx⟩ : ∃ x, x = w1.drew := ⟨_, rfl⟩
  rw [← hx] at hmD hm1D ⊢
  clear hx
  have hT2 := hT1.ext hm1D
  have hP2 := hP1.ext hm1D
  have c0 := hT2.cell' (i := 0) rfl
  have c1 := hT2.cell' (i := 1) rfl
  iterate 4 (refine wpT_n rfl rfl (fun K hK => ?_); go_wp2_with fail)
  iterate 3 (refine wpT_gq (gi := 3) rfl rfl rfl rfl rfl (fun K hK => ?_); go_wp2_with fail)
  iterate 2 (refine wpT_n rfl rfl (fun K hK => ?_); go_wp2_with fail)
  iterate 3 (refine wpT_gq (gi := 8) rfl rfl rfl rfl rfl (fun K hK => ?_); go_wp2_with fail)
  refine wpT_gcallh (gi := 8) rfl rfl rfl rfl (fun K hK => ?_)
  go_wp2_with (go_at_call 69; (with_reducible refine (SE _ hP2).mono ?_); rintro e w3 ⟨rfl, rfl⟩)
  refine ⟨agains_same, ?_⟩
  refine wpT_gq (gi := 8) rfl rfl rfl rfl rfl (fun K hK => ?_)
  go_wp2_with fail
  iterate 2 (refine wpT_n rfl rfl (fun K hK => ?_); go_wp2_with fail)
  iterate 5 (refine wpT_gq (gi := 15) rfl rfl rfl rfl rfl (fun K hK => ?_); go_wp2_with fail)
  refine wpT_gcallh (gi := 15) rfl rfl rfl rfl (fun K hK => ?_)
  go_wp2_with (go_at_call 69; (with_reducible refine (SE _ hP2).mono ?_); rintro e w3 ⟨rfl, rfl⟩)
  refine ⟨agains_same, ?_⟩
  iterate 2 (refine wpT_gq (gi := 15) rfl rfl rfl rfl rfl (fun K hK => ?_); go_wp2_with fail)
  iterate 2 (refine wpT_n rfl rfl (fun K hK => ?_); go_wp2_with fail)
  refine wpT_nil ?_
  go_wp2_with fail
  refine wp_region_T [⟨0, true, []⟩, ⟨1, true, []⟩, ⟨2, true, []⟩, ⟨3, false, [1]⟩, ⟨4, true, []⟩, ⟨5, true, []⟩, ⟨6, false, []⟩, ⟨7, true, []⟩, ⟨8, true, []⟩] (by kernel_rfl) (by kernel_rfl) ?_
  have hmE := hmD.ext (Mod.drew [] x)
  have hmxE := Mod.drew [] x
  obtain ⟨y, hy⟩ : ∃ y, y = x.drew := ⟨_, rfl⟩
  rw [← hy] at hmE hmxE ⊢
  clear hy c0 c1
  have hT3 := hT2.ext hmxE
  have hP3 := hP2.ext hmxE
  have c0 := hT3.cell' (i := 0) rfl
  have c1 := hT3.cell' (i := 1) rfl
  iterate 3 (refine wpT_n rfl rfl (fun K hK => ?_); go_wp2_with fail)
  refine wpT_callh rfl rfl (fun K hK => ?_)
  go_wp2_with (go_at_call 60; (with_reducible refine (SI _ hP3).mono ?_); rintro e w4 ⟨rfl, rfl⟩)
  refine ⟨agains_same, ?_⟩
  iterate 2 (refine wpT_n rfl rfl (fun K hK => ?_); go_wp2_with fail)
  refine wpT_e0 rfl rfl (fun K hK => ?_)
  refine wp_box (v := .agg #[.pointer (some ⟨p, 0, none⟩), .int .i64 f, .int .i64 c, .int .i64 (z : Nat)]) (by rfl) ?_
  intro r w5 hr1 hr2 hm5 hB5
  simp only [put_some, List.set_cons_succ, List.set_cons_zero]
  refine hK _ _ ?_
  clear hK K
  iterate 2 (refine wpT_n rfl rfl (fun K hK => ?_); go_wp2_with fail)
  refine wpT_nil ?_
  go_wp2_with fail
  go_ret2
  have s3 := hmE.size
  refine .inl ⟨if_neg (by omega), r, rfl, ?_, by omega, hmE.ext hm5⟩
  unfold Rgn
  rw [show ((f.toNat : Nat) : Int) = f by omega, show ((c.toNat : Nat) : Int) = c by omega]
  exact hB5
set_option maxRecDepth 1000000 in
set_option maxHeartbeats 4000000 in
theorem hnew_any (p q : Nat) (v : Pv) (L : List Nat) (f c : Int) (w : World) (hP : Pr w p q v L) (hf : i64 f) (hc : i64 c) :
    Calls Try.prog 83 #[.pointer (some ⟨p, 0, none⟩), .agg #[.int .i64 f, .int .i64 c]] w fun e w' => (nErr v.m.dur.length f c = 0 ∧ ∃ r, e = .returned (.tuple #[.pointer (some ⟨r, 0, none⟩), .int .i64 0]) ∧ Rgr w' r p f.toNat c.toNat ∧ w.heap.size ≤ r ∧ Mod [] w w') ∨ (nErr v.m.dur.length f c ≠ 0 ∧ e = .returned (.tuple #[.pointer none, .int .i64 2]) ∧ Mod [] w w') := by
  have hN1 := hP.ok.m.n1
  have hN2 := hP.ok.m.n2
  have SE := fun w h => qSectors_any p q v L w h
  obtain ⟨N, hN⟩ : ∃ N, N = v.m.dur.length := ⟨_, rfl⟩
  obtain ⟨z, hz⟩ : ∃ z, z = v.m.sz := ⟨_, rfl⟩
  rw [← hN] at hN1 hN2 SE ⊢
  have y1 : (1 : Int) ≤ N := by omega
  have y2 : (N : Int) ≤ 65536 := by omega
  have e0 : ((N : Int) == 0) = false := by rw [beq_eq_false_iff_ne]; omega
  obtain ⟨hf1, hf2⟩ := hf
  obtain ⟨hc1, hc2⟩ := hc
  clear hN1 hN2 hN hz
  by_cases g1 : f < 0
  · skip
    go_enter Try.func83, Try.ntmps83
    go_wp2_with (with_reducible refine st_box ?_)
    refine StopOp.go rfl fun K hK => ?_
    refine wp_box (v := .agg #[.int .i64 f, .int .i64 c]) (by rfl) ?_
    intro t w1 ht1 ht2 hm1 hT
    simp only [put_some, List.set_cons_succ, List.set_cons_zero]
    refine hK _ _ ?_
    clear hK K
    have hT1 : Blk w1 t 65 [.int .i64 f, .int .i64 c] := hT
    have hP1 := hP.ext hm1
    clear hT
    go_wp2_with fail
    refine wp_region_T [⟨0, true, []⟩, ⟨1, true, []⟩, ⟨2, true, []⟩, ⟨3, true, []⟩, ⟨4, true, []⟩, ⟨5, true, []⟩, ⟨6, true, []⟩, ⟨7, true, []⟩, ⟨8, true, []⟩, ⟨9, true, []⟩, ⟨10, true, []⟩, ⟨11, true, []⟩, ⟨12, false, [10]⟩, ⟨13, true, []⟩, ⟨14, true, []⟩, ⟨15, true, []⟩, ⟨16, true, []⟩, ⟨17, true, []⟩, ⟨18, true, []⟩, ⟨20, true, []⟩, ⟨21, true, []⟩, ⟨19, false, [17, 21]⟩, ⟨22, true, []⟩, ⟨23, true, []⟩, ⟨24, true, []⟩] (by kernel_rfl) (by kernel_rfl) ?_
    have hmD := hm1.ext (Mod.drew [] w1)
    have hm1D := Mod.drew [] w1
    obtain ⟨x, hx⟩ : ∃ x, x = w1.drew := ⟨_, rfl⟩
    rw [← hx] at hmD hm1D ⊢
    clear hx
    have hT2 := hT1.ext hm1D
    have hP2 := hP1.ext hm1D
    have c0 := hT2.cell' (i := 0) rfl
    have c1 := hT2.cell' (i := 1) rfl
    iterate 4 (refine wpT_n rfl rfl (fun K hK => ?_); go_wp2_with fail)
    iterate 3 (refine wpT_gk (gi := 3) rfl rfl rfl rfl rfl rfl (fun K hK => ?_); go_wp2_with fail)
    iterate 2 (refine wpT_n rfl rfl (fun K hK => ?_); go_wp2_with fail)
    iterate 5 (refine wpT_gk (gi := 8) rfl rfl rfl rfl rfl rfl (fun K hK => ?_); go_wp2_with fail)
    iterate 2 (refine wpT_n rfl rfl (fun K hK => ?_); go_wp2_with fail)
    iterate 8 (refine wpT_gk (gi := 15) rfl rfl rfl rfl rfl rfl (fun K hK => ?_); go_wp2_with fail)
    refine wpT_n rfl rfl (fun K hK => ?_)
    go_wp2_with fail
    refine wpT_nil ?_
    go_wp2_with fail
    go_ret2
    rw [show nErr N f c = 2 from if_pos (by omega)]
    exact .inr ⟨by decide, rfl, hmD⟩
  have q1 : decide (f < 0) = false := decide_eq_false (by omega)
  by_cases g2 : c < 1
  · have g1' : 0 ≤ f := by omega
    go_enter Try.func83, Try.ntmps83
    go_wp2_with (with_reducible refine st_box ?_)
    refine StopOp.go rfl fun K hK => ?_
    refine wp_box (v := .agg #[.int .i64 f, .int .i64 c]) (by rfl) ?_
    intro t w1 ht1 ht2 hm1 hT
    simp only [put_some, List.set_cons_succ, List.set_cons_zero]
    refine hK _ _ ?_
    clear hK K
    have hT1 : Blk w1 t 65 [.int .i64 f, .int .i64 c] := hT
    have hP1 := hP.ext hm1
    clear hT
    go_wp2_with fail
    refine wp_region_T [⟨0, true, []⟩, ⟨1, true, []⟩, ⟨2, true, []⟩, ⟨3, true, []⟩, ⟨4, true, []⟩, ⟨5, true, []⟩, ⟨6, true, []⟩, ⟨7, true, []⟩, ⟨8, true, []⟩, ⟨9, true, []⟩, ⟨10, true, []⟩, ⟨11, true, []⟩, ⟨12, false, [10]⟩, ⟨13, true, []⟩, ⟨14, true, []⟩, ⟨15, true, []⟩, ⟨16, true, []⟩, ⟨17, true, []⟩, ⟨18, true, []⟩, ⟨20, true, []⟩, ⟨21, true, []⟩, ⟨19, false, [17, 21]⟩, ⟨22, true, []⟩, ⟨23, true, []⟩, ⟨24, true, []⟩] (by kernel_rfl) (by kernel_rfl) ?_
    have hmD := hm1.ext (Mod.drew [] w1)
    have hm1D := Mod.drew [] w1
    obtain ⟨x, hx⟩ : ∃ x, x = w1.drew := ⟨_, rfl⟩
    rw [← hx] at hmD hm1D ⊢
    clear hx
    have hT2 := hT1.ext hm1D
    have hP2 := hP1.ext hm1D
    have c0 := hT2.cell' (i := 0) rfl
    have c1 := hT2.cell' (i := 1) rfl
    iterate 4 (refine wpT_n rfl rfl (fun K hK => ?_); go_wp2_with fail)
    iterate 3 (refine wpT_gq (gi := 3) rfl rfl rfl rfl rfl (fun K hK => ?_); go_wp2_with fail)
    iterate 2 (refine wpT_n rfl rfl (fun K hK => ?_); go_wp2_with fail)
    iterate 5 (refine wpT_gk (gi := 8) rfl rfl rfl rfl rfl rfl (fun K hK => ?_); go_wp2_with fail)
    iterate 2 (refine wpT_n rfl rfl (fun K hK => ?_); go_wp2_with fail)
    iterate 8 (refine wpT_gk (gi := 15) rfl rfl rfl rfl rfl rfl (fun K hK => ?_); go_wp2_with fail)
    refine wpT_n rfl rfl (fun K hK => ?_)
    go_wp2_with fail
    refine wpT_nil ?_
    go_wp2_with fail
    go_ret2
    rw [show nErr N f c = 2 from if_pos (by omega)]
    exact .inr ⟨by decide, rfl, hmD⟩
  have q2 : decide (c < 1) = false := decide_eq_false (by omega)
  by_cases g3 : (N : Int) < f
  · have g1' : 0 ≤ f := by omega
    have g2' : 1 ≤ c := by omega
    go_enter Try.func83, Try.ntmps83
    go_wp2_with (with_reducible refine st_box ?_)
    refine StopOp.go rfl fun K hK => ?_
    refine wp_box (v := .agg #[.int .i64 f, .int .i64 c]) (by rfl) ?_
    intro t w1 ht1 ht2 hm1 hT
    simp only [put_some, List.set_cons_succ, List.set_cons_zero]
    refine hK _ _ ?_
    clear hK K
    have hT1 : Blk w1 t 65 [.int .i64 f, .int .i64 c] := hT
    have hP1 := hP.ext hm1
    clear hT
    go_wp2_with fail
    refine wp_region_T [⟨0, true, []⟩, ⟨1, true, []⟩, ⟨2, true, []⟩, ⟨3, true, []⟩, ⟨4, true, []⟩, ⟨5, true, []⟩, ⟨6, true, []⟩, ⟨7, true, []⟩, ⟨8, true, []⟩, ⟨9, true, []⟩, ⟨10, true, []⟩, ⟨11, true, []⟩, ⟨12, false, [10]⟩, ⟨13, true, []⟩, ⟨14, true, []⟩, ⟨15, true, []⟩, ⟨16, true, []⟩, ⟨17, true, []⟩, ⟨18, true, []⟩, ⟨20, true, []⟩, ⟨21, true, []⟩, ⟨19, false, [17, 21]⟩, ⟨22, true, []⟩, ⟨23, true, []⟩, ⟨24, true, []⟩] (by kernel_rfl) (by kernel_rfl) ?_
    have hmD := hm1.ext (Mod.drew [] w1)
    have hm1D := Mod.drew [] w1
    obtain ⟨x, hx⟩ : ∃ x, x = w1.drew := ⟨_, rfl⟩
    rw [← hx] at hmD hm1D ⊢
    clear hx
    have hT2 := hT1.ext hm1D
    have hP2 := hP1.ext hm1D
    have c0 := hT2.cell' (i := 0) rfl
    have c1 := hT2.cell' (i := 1) rfl
    iterate 4 (refine wpT_n rfl rfl (fun K hK => ?_); go_wp2_with fail)
    iterate 3 (refine wpT_gq (gi := 3) rfl rfl rfl rfl rfl (fun K hK => ?_); go_wp2_with fail)
    iterate 2 (refine wpT_n rfl rfl (fun K hK => ?_); go_wp2_with fail)
    iterate 3 (refine wpT_gq (gi := 8) rfl rfl rfl rfl rfl (fun K hK => ?_); go_wp2_with fail)
    refine wpT_gcallh (gi := 8) rfl rfl rfl rfl (fun K hK => ?_)
    go_wp2_with (go_at_call 121; (with_reducible refine (SE _ hP2).mono ?_); rintro e w3 ⟨rfl, rfl⟩)
    refine ⟨agains_same, ?_⟩
    refine wpT_gq (gi := 8) rfl rfl rfl rfl rfl (fun K hK => ?_)
    go_wp2_with fail
    iterate 2 (refine wpT_n rfl rfl (fun K hK => ?_); go_wp2_with fail)
    iterate 8 (refine wpT_gk (gi := 15) rfl rfl rfl rfl rfl rfl (fun K hK => ?_); go_wp2_with fail)
    refine wpT_n rfl rfl (fun K hK => ?_)
    go_wp2_with fail
    refine wpT_nil ?_
    go_wp2_with fail
    go_ret2
    rw [show nErr N f c = 2 from if_pos (by omega)]
    exact .inr ⟨by decide, rfl, hmD⟩
  have g1' : 0 ≤ f := by omega
  have g2' : 1 ≤ c := by omega
  have g3' : f ≤ N := by omega
  have q3 : decide ((N : Int) < f) = false := decide_eq_false (by omega)
  by_cases g4 : (N : Int) - f < c
  · skip
    go_enter Try.func83, Try.ntmps83
    go_wp2_with (with_reducible refine st_box ?_)
    refine StopOp.go rfl fun K hK => ?_
    refine wp_box (v := .agg #[.int .i64 f, .int .i64 c]) (by rfl) ?_
    intro t w1 ht1 ht2 hm1 hT
    simp only [put_some, List.set_cons_succ, List.set_cons_zero]
    refine hK _ _ ?_
    clear hK K
    have hT1 : Blk w1 t 65 [.int .i64 f, .int .i64 c] := hT
    have hP1 := hP.ext hm1
    clear hT
    go_wp2_with fail
    refine wp_region_T [⟨0, true, []⟩, ⟨1, true, []⟩, ⟨2, true, []⟩, ⟨3, true, []⟩, ⟨4, true, []⟩, ⟨5, true, []⟩, ⟨6, true, []⟩, ⟨7, true, []⟩, ⟨8, true, []⟩, ⟨9, true, []⟩, ⟨10, true, []⟩, ⟨11, true, []⟩, ⟨12, false, [10]⟩, ⟨13, true, []⟩, ⟨14, true, []⟩, ⟨15, true, []⟩, ⟨16, true, []⟩, ⟨17, true, []⟩, ⟨18, true, []⟩, ⟨20, true, []⟩, ⟨21, true, []⟩, ⟨19, false, [17, 21]⟩, ⟨22, true, []⟩, ⟨23, true, []⟩, ⟨24, true, []⟩] (by kernel_rfl) (by kernel_rfl) ?_
    have hmD := hm1.ext (Mod.drew [] w1)
    have hm1D := Mod.drew [] w1
    obtain ⟨x, hx⟩ : ∃ x, x = w1.drew := ⟨_, rfl⟩
    rw [← hx] at hmD hm1D ⊢
    clear hx
    have hT2 := hT1.ext hm1D
    have hP2 := hP1.ext hm1D
    have c0 := hT2.cell' (i := 0) rfl
    have c1 := hT2.cell' (i := 1) rfl
    iterate 4 (refine wpT_n rfl rfl (fun K hK => ?_); go_wp2_with fail)
    iterate 3 (refine wpT_gq (gi := 3) rfl rfl rfl rfl rfl (fun K hK => ?_); go_wp2_with fail)
    iterate 2 (refine wpT_n rfl rfl (fun K hK => ?_); go_wp2_with fail)
    iterate 3 (refine wpT_gq (gi := 8) rfl rfl rfl rfl rfl (fun K hK => ?_); go_wp2_with fail)
    refine wpT_gcallh (gi := 8) rfl rfl rfl rfl (fun K hK => ?_)
    go_wp2_with (go_at_call 121; (with_reducible refine (SE _ hP2).mono ?_); rintro e w3 ⟨rfl, rfl⟩)
    refine ⟨agains_same, ?_⟩
    refine wpT_gq (gi := 8) rfl rfl rfl rfl rfl (fun K hK => ?_)
    go_wp2_with fail
    iterate 2 (refine wpT_n rfl rfl (fun K hK => ?_); go_wp2_with fail)
    iterate 5 (refine wpT_gq (gi := 15) rfl rfl rfl rfl rfl (fun K hK => ?_); go_wp2_with fail)
    refine wpT_gcallh (gi := 15) rfl rfl rfl rfl (fun K hK => ?_)
    go_wp2_with (go_at_call 121; (with_reducible refine (SE _ hP2).mono ?_); rintro e w3 ⟨rfl, rfl⟩)
    refine ⟨agains_same, ?_⟩
    iterate 2 (refine wpT_gq (gi := 15) rfl rfl rfl rfl rfl (fun K hK => ?_); go_wp2_with fail)
    refine wpT_n rfl rfl (fun K hK => ?_)
    go_wp2_with fail
    refine wpT_nil ?_
    go_wp2_with fail
    go_ret2
    rw [show nErr N f c = 2 from if_pos (by omega)]
    exact .inr ⟨by decide, rfl, hmD⟩
  have g4' : c ≤ (N : Int) - f := by omega
  have q4 : decide ((N : Int) - f < c) = false := decide_eq_false (by omega)
  clear g1 g2 g3 g4
  go_enter Try.func83, Try.ntmps83
  go_wp2_with (with_reducible refine st_box ?_)
  refine StopOp.go rfl fun K hK => ?_
  refine wp_box (v := .agg #[.int .i64 f, .int .i64 c]) (by rfl) ?_
  intro t w1 ht1 ht2 hm1 hT
  simp only [put_some, List.set_cons_succ, List.set_cons_zero]
  refine hK _ _ ?_
  clear hK K
  have hT1 : Blk w1 t 65 [.int .i64 f, .int .i64 c] := hT
  have hP1 := hP.ext hm1
  clear hT
  go_wp2_with fail
  refine wp_region_T [⟨0, true, []⟩, ⟨1, true, []⟩, ⟨2, true, []⟩, ⟨3, true, []⟩, ⟨4, true, []⟩, ⟨5, true, []⟩, ⟨6, true, []⟩, ⟨7, true, []⟩, ⟨8, true, []⟩, ⟨9, true, []⟩, ⟨10, true, []⟩, ⟨11, true, []⟩, ⟨12, false, [10]⟩, ⟨13, true, []⟩, ⟨14, true, []⟩, ⟨15, true, []⟩, ⟨16, true, []⟩, ⟨17, true, []⟩, ⟨18, true, []⟩, ⟨20, true, []⟩, ⟨21, true, []⟩, ⟨19, false, [17, 21]⟩, ⟨22, true, []⟩, ⟨23, true, []⟩, ⟨24, true, []⟩] (by kernel_rfl) (by kernel_rfl) ?_
  have hmD := hm1.ext (Mod.drew [] w1)
  have hm1D := Mod.drew [] w1
  obtain ⟨x, hx⟩ : ∃ x, x = w1.drew := ⟨_, rfl⟩
  rw [← hx] at hmD hm1D ⊢
  clear hx
  have hT2 := hT1.ext hm1D
  have hP2 := hP1.ext hm1D
  have c0 := hT2.cell' (i := 0) rfl
  have c1 := hT2.cell' (i := 1) rfl
  iterate 4 (refine wpT_n rfl rfl (fun K hK => ?_); go_wp2_with fail)
  iterate 3 (refine wpT_gq (gi := 3) rfl rfl rfl rfl rfl (fun K hK => ?_); go_wp2_with fail)
  iterate 2 (refine wpT_n rfl rfl (fun K hK => ?_); go_wp2_with fail)
  iterate 3 (refine wpT_gq (gi := 8) rfl rfl rfl rfl rfl (fun K hK => ?_); go_wp2_with fail)
  refine wpT_gcallh (gi := 8) rfl rfl rfl rfl (fun K hK => ?_)
  go_wp2_with (go_at_call 121; (with_reducible refine (SE _ hP2).mono ?_); rintro e w3 ⟨rfl, rfl⟩)
  refine ⟨agains_same, ?_⟩
  refine wpT_gq (gi := 8) rfl rfl rfl rfl rfl (fun K hK => ?_)
  go_wp2_with fail
  iterate 2 (refine wpT_n rfl rfl (fun K hK => ?_); go_wp2_with fail)
  iterate 5 (refine wpT_gq (gi := 15) rfl rfl rfl rfl rfl (fun K hK => ?_); go_wp2_with fail)
  refine wpT_gcallh (gi := 15) rfl rfl rfl rfl (fun K hK => ?_)
  go_wp2_with (go_at_call 121; (with_reducible refine (SE _ hP2).mono ?_); rintro e w3 ⟨rfl, rfl⟩)
  refine ⟨agains_same, ?_⟩
  iterate 2 (refine wpT_gq (gi := 15) rfl rfl rfl rfl rfl (fun K hK => ?_); go_wp2_with fail)
  refine wpT_n rfl rfl (fun K hK => ?_)
  go_wp2_with fail
  refine wpT_nil ?_
  go_wp2_with (with_reducible refine st_box ?_)
  refine StopOp.go rfl fun K hK => ?_
  refine wp_box (v := .agg #[.pointer (some ⟨p, 0, none⟩), .int .i64 f, .int .i64 c]) (by rfl) ?_
  intro r w5 hr1 hr2 hm5 hB5
  simp only [put_some, List.set_cons_succ, List.set_cons_zero]
  refine hK _ _ ?_
  clear hK K
  go_wp2_with fail
  go_ret2
  have s3 := hmD.size
  refine .inl ⟨if_neg (by omega), r, rfl, ?_, by omega, hmD.ext hm5⟩
  unfold Rgr
  rw [show ((f.toNat : Nat) : Int) = f by omega, show ((c.toNat : Nat) : Int) = c by omega]
  exact hB5
end Go.Proofs.Ytdmnogmhnhjdgaa
