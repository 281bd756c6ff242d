import Derived.Test.YtdmnogmhnhjdgaaRiA
/-! RegionPlays: takes, stands. -/
set_option linter.unusedVariables false
set_option linter.unusedSimpArgs false
set_option maxRecDepth 100000
namespace Go.Proofs.Ytdmnogmhnhjdgaa
open Go.RowKit Gw

theorem nErr_le {N : Nat} {f c : Int} (h : nErr N f c = 0) : f.toNat + c.toNat ≤ N := by
  unfold nErr at h
  split at h
  · exact absurd h (by decide)
  · omega
def TakeP (W w : World) (x p q P Q z N : Nat) (v : Pv) (L M : List Nat) (e : Ending) (w' : World) : Prop :=
  ∃ o0 o1, e = .returned (.bool true) ∧ Wld W w' x p q P Q z N v v L M o0 o1 ∧ Mod [x] w w'
section
variable {W w : World} {x p q P Q z N : Nat} {v : Pv} {L M : List Nat} {o0 o1 : Option Reg2} {s c : Int}
set_option maxRecDepth 1000000 in
set_option maxHeartbeats 8000000 in
theorem takes0y_any (hs : i64 s) (hc : i64 c) (h : Wld W w x p q P Q z N v v L M o0 o1) (hE : nErr N s c = 0) :
    Calls Try.prog 48 #[.pointer (some ⟨x, 0, none⟩), .int .i64 0, .agg #[.int .i64 s, .int .i64 c]] w (TakeP W w x p q P Q z N v L M) := by
  have NR : ∀ w, Pd w p q v L → Calls Try.prog 31 #[.pointer (some ⟨p, 0, none⟩), .agg #[.int .i64 s, .int .i64 c]] w fun e w' => ∃ r, e = .returned (.tuple #[.pointer (some ⟨r, 0, none⟩), .int .i64 0]) ∧ Rgn w' r p s.toNat c.toNat z ∧ w.heap.size ≤ r ∧ Mod [] w w' := fun w hh => (gnew_any p q v L s c w hh hs hc).mono fun e w' hx => by
    rw [h.vN, h.vz] at hx
    exact hx.elim (fun a => a.2) (fun a => absurd hE a.1)
  have HR : ∀ w, Pr w P Q v M → Calls Try.prog 83 #[.pointer (some ⟨P, 0, none⟩), .agg #[.int .i64 s, .int .i64 c]] w fun e w' => ∃ r, e = .returned (.tuple #[.pointer (some ⟨r, 0, none⟩), .int .i64 0]) ∧ Rgr w' r P s.toNat c.toNat ∧ w.heap.size ≤ r ∧ Mod [] w w' := fun w hh => (hnew_any P Q v M s c w hh hs hc).mono fun e w' hx => by
    rw [h.vN] at hx
    exact hx.elim (fun a => a.2) (fun a => absurd hE a.1)
  have hfc := nErr_le hE
  clear hE hs hc
  unfold TakeP
  go_enter Try.func48, Try.ntmps48
  go_wp2_with (with_reducible refine st_box ?_)
  refine StopOp.go rfl fun K hK => ?_
  refine wp_box (v := .agg #[.int .i64 s, .int .i64 c]) (by rfl) ?_
  intro t w1 ht1 ht2 hm1 hT
  simp only [put_some, List.set_cons_succ, List.set_cons_zero]
  refine hK _ _ ?_
  clear hK K
  have hT1 : Blk w1 t 65 [.int .i64 s, .int .i64 c] := hT
  have hW1 := h.ext hm1
  clear hT
  go_wp2_with fail
  refine wp_region_T [⟨0, true, []⟩, ⟨1, true, []⟩, ⟨2, true, []⟩, ⟨3, true, []⟩, ⟨4, true, []⟩, ⟨5, false, []⟩, ⟨6, true, []⟩, ⟨7, true, []⟩, ⟨8, true, []⟩, ⟨9, true, []⟩, ⟨10, true, []⟩] (by kernel_rfl) (by kernel_rfl) ?_
  have hmD := Mod.drew [] w1
  obtain ⟨xa, hxa⟩ : ∃ xa, xa = w1.drew := ⟨_, rfl⟩
  rw [← hxa] at hmD ⊢
  clear hxa
  have hW2 := hW1.ext hmD
  have hT2 := hT1.ext hmD
  have hd2 := hW2.d
  have c0 := Blk.cell' hW2.bx (i := 0) rfl
  have t0 := Blk.cell' hT2 (i := 0) rfl
  have t1 := Blk.cell' hT2 (i := 1) rfl
  iterate 5 (refine wpT_n rfl rfl (fun K hK => ?_); go_wp2_with fail)
  refine wpT_call rfl rfl (fun K hK => ?_)
  go_wp2_with (go_at_call 31; (with_reducible refine (NR _ hd2).mono ?_); rintro e w3 ⟨r, rfl, hr3, gr3, hm3⟩)
  have hW3 := hW2.ext hm3
  have hT3 := hT2.ext hm3
  clear c0 t0 t1
  iterate 5 (refine wpT_n rfl rfl (fun K hK => ?_); go_wp2_with fail)
  refine wpT_nil ?_
  go_wp2_with fail
  refine wp_region_T [⟨0, true, []⟩, ⟨1, true, []⟩, ⟨2, true, []⟩, ⟨3, true, []⟩, ⟨4, true, []⟩, ⟨5, false, []⟩, ⟨6, true, []⟩, ⟨7, true, []⟩, ⟨8, true, []⟩, ⟨9, true, []⟩, ⟨10, true, []⟩] (by kernel_rfl) (by kernel_rfl) ?_
  have hmE := Mod.drew [] w3
  obtain ⟨xb, hxb⟩ : ∃ xb, xb = w3.drew := ⟨_, rfl⟩
  rw [← hxb] at hmE ⊢
  clear hxb
  have hW4 := hW3.ext hmE
  have hT4 := hT3.ext hmE
  have hr4 := hW4.r
  have c1 := Blk.cell' hW4.bx (i := 1) rfl
  have t0 := Blk.cell' hT4 (i := 0) rfl
  have t1 := Blk.cell' hT4 (i := 1) rfl
  iterate 5 (refine wpT_n rfl rfl (fun K hK => ?_); go_wp2_with fail)
  refine wpT_call rfl rfl (fun K hK => ?_)
  go_wp2_with (go_at_call 83; (with_reducible refine (HR _ hr4).mono ?_); rintro e w5 ⟨hg, rfl, hh5, gh5, hm5⟩)
  have hW5 := hW4.ext hm5
  clear c1 t0 t1
  iterate 5 (refine wpT_n rfl rfl (fun K hK => ?_); go_wp2_with fail)
  refine wpT_nil ?_
  go_wp2_with fail
  refine wp_region_T [⟨0, true, []⟩, ⟨1, true, []⟩, ⟨2, true, []⟩, ⟨3, true, []⟩, ⟨4, true, []⟩, ⟨5, true, []⟩, ⟨6, true, []⟩, ⟨7, true, []⟩, ⟨8, true, []⟩, ⟨10, true, []⟩, ⟨11, true, []⟩, ⟨9, false, [10]⟩, ⟨12, true, []⟩, ⟨13, false, []⟩] (by kernel_rfl) (by kernel_rfl) ?_
  have hmF := Mod.drew [] w5
  obtain ⟨xc, hxc⟩ : ∃ xc, xc = w5.drew := ⟨_, rfl⟩
  rw [← hxc] at hmF ⊢
  clear hxc
  have hW6 := hW5.ext hmF
  have hx6 := hW6.bx
  have hr6 := ((hr3.ext hmE).ext hm5).ext hmF
  have hh6 := hh5.ext hmF
  unfold wcl at hx6
  iterate 11 (refine wpT_n rfl rfl (fun K hK => ?_); go_wp2_with fail)
  refine wpT_e rfl rfl (fun K hK => ?_)
  refine wp_store1 (by kernel_rfl) (by rfl) (u := .pointer (some ⟨r, 0, none⟩)) (by rfl) ⟨rfl, rfl⟩ hx6 (by simp) ?_
  intro w7 hm7 hB7
  refine hK _ _ ⟨agains_cons rfl (again_const (fun _ => rfl)) agains_nil, ?_⟩
  clear hK K
  refine wpT_n rfl rfl (fun K hK => ?_)
  go_wp2_with fail
  refine wpT_e0 rfl rfl (fun K hK => ?_)
  refine wp_store1 (by kernel_rfl) (by rfl) (u := .pointer (some ⟨hg, 0, none⟩)) (by rfl) ⟨rfl, rfl⟩ hB7 (by simp) ?_
  intro w8 hm8 hB8
  refine hK _ _ ?_
  clear hK K
  refine wpT_nil ?_
  go_wp2_with fail
  go_ret
  have hm78 : Mod [x] xc w8 := hm7.trans hm8
  have s2 := hW2.d.lt0
  have s2r := hW2.r.lt0
  have z3 := hm3.size
  have zE := hmE.size
  have z5 := hm5.size
  have zF := hmF.size
  have zx := hW2.bx.lt
  have zW := hW2.m.size
  have hnx : r ≠ x := fun e => by omega
  have hgx : hg ≠ x := fun e => by omega
  have hD : ∀ k ∈ (p :: L) ++ (P :: M), k < xa.heap.size := fun k hk => (List.mem_append.1 hk).elim (s2 k) (s2r k)
  have hnew : RegOk W w8 p P z N ((p :: L) ++ (P :: M)) ⟨r, hg, s.toNat, c.toNat⟩ := ⟨hr6.mod hm78 (by simpa using hnx), hh6.mod hm78 (by simpa using hgx), hfc, fun hh => by have := hD _ hh; dsimp only at this; omega, fun hh => by have := hD _ hh; dsimp only at this; omega, by dsimp only; omega, by dsimp only; omega⟩
  have hold : ∀ g, RegOk W xc p P z N ((p :: L) ++ (P :: M)) g → RegOk W w8 p P z N ((p :: L) ++ (P :: M)) g := fun g hg => hg.mod hm78 (by simpa using fun e : g.r = x => Blk.ne hg.a hW6.bx (by decide) e) (by simpa using fun e : g.h = x => Blk.ne hg.b hW6.bx (by decide) e)
  exact ⟨some ⟨r, hg, s.toNat, c.toNat⟩, o1, rfl, ⟨hB8, hW6.d.keep0 hm78 (fun k hk hh => hW6.xd (by have e : k = x := (by simpa using hh); exact e ▸ hk)), hW6.r.keep0 hm78 (fun k hk hh => hW6.xr (by have e : k = x := (by simpa using hh); exact e ▸ hk)), hW6.ap, hW6.xd, hW6.xr, fun g hg => by cases hg; exact hnew, fun g hg => hold g (hW6.g1 g hg), hW6.m.fresh hm78 (by simpa using hW6.xn), hW6.dn, hW6.rn, hW6.xn, hW6.vz, hW6.vN, hW6.uz, hW6.uN⟩, ((((((hm1.ext hmD).ext hm3).ext hmE).ext hm5).ext hmF).weak (by simp)).trans hm78⟩
set_option maxRecDepth 1000000 in
set_option maxHeartbeats 8000000 in
theorem takes0n_any (hs : i64 s) (hc : i64 c) (h : Wld W w x p q P Q z N v v L M o0 o1) (hE : nErr N s c ≠ 0) :
    Calls Try.prog 48 #[.pointer (some ⟨x, 0, none⟩), .int .i64 0, .agg #[.int .i64 s, .int .i64 c]] w (TakeP W w x p q P Q z N v L M) := by
  have NR : ∀ w, Pd w p q v L → Calls Try.prog 31 #[.pointer (some ⟨p, 0, none⟩), .agg #[.int .i64 s, .int .i64 c]] w fun e w' => e = .returned (.tuple #[.pointer none, .int .i64 2]) ∧ Mod [] w w' := fun w hh => (gnew_any p q v L s c w hh hs hc).mono fun e w' hx => by
    rw [h.vN] at hx
    exact hx.elim (fun a => absurd a.1 hE) (fun a => a.2)
  have HR : ∀ w, Pr w P Q v M → Calls Try.prog 83 #[.pointer (some ⟨P, 0, none⟩), .agg #[.int .i64 s, .int .i64 c]] w fun e w' => e = .returned (.tuple #[.pointer none, .int .i64 2]) ∧ Mod [] w w' := fun w hh => (hnew_any P Q v M s c w hh hs hc).mono fun e w' hx => by
    rw [h.vN] at hx
    exact hx.elim (fun a => absurd a.1 hE) (fun a => a.2)
  clear hE hs hc
  unfold TakeP
  go_enter Try.func48, Try.ntmps48
  go_wp2_with (with_reducible refine st_box ?_)
  refine StopOp.go rfl fun K hK => ?_
  refine wp_box (v := .agg #[.int .i64 s, .int .i64 c]) (by rfl) ?_
  intro t w1 ht1 ht2 hm1 hT
  simp only [put_some, List.set_cons_succ, List.set_cons_zero]
  refine hK _ _ ?_
  clear hK K
  have hT1 : Blk w1 t 65 [.int .i64 s, .int .i64 c] := hT
  have hW1 := h.ext hm1
  clear hT
  go_wp2_with fail
  refine wp_region_T [⟨0, true, []⟩, ⟨1, true, []⟩, ⟨2, true, []⟩, ⟨3, true, []⟩, ⟨4, true, []⟩, ⟨5, false, []⟩, ⟨6, true, []⟩, ⟨7, true, []⟩, ⟨8, true, []⟩, ⟨9, true, []⟩, ⟨10, true, []⟩] (by kernel_rfl) (by kernel_rfl) ?_
  have hmD := Mod.drew [] w1
  obtain ⟨xa, hxa⟩ : ∃ xa, xa = w1.drew := ⟨_, rfl⟩
  rw [← hxa] at hmD ⊢
  clear hxa
  have hW2 := hW1.ext hmD
  have hT2 := hT1.ext hmD
  have hd2 := hW2.d
  have c0 := Blk.cell' hW2.bx (i := 0) rfl
  have t0 := Blk.cell' hT2 (i := 0) rfl
  have t1 := Blk.cell' hT2 (i := 1) rfl
  iterate 5 (refine wpT_n rfl rfl (fun K hK => ?_); go_wp2_with fail)
  refine wpT_call rfl rfl (fun K hK => ?_)
  go_wp2_with (go_at_call 31; (with_reducible refine (NR _ hd2).mono ?_); rintro e w3 ⟨rfl, hm3⟩)
  have hW3 := hW2.ext hm3
  have hT3 := hT2.ext hm3
  clear c0 t0 t1
  iterate 5 (refine wpT_n rfl rfl (fun K hK => ?_); go_wp2_with fail)
  refine wpT_nil ?_
  go_wp2_with fail
  refine wp_region_T [⟨0, true, []⟩, ⟨1, true, []⟩, ⟨2, true, []⟩, ⟨3, true, []⟩, ⟨4, true, []⟩, ⟨5, false, []⟩, ⟨6, true, []⟩, ⟨7, true, []⟩, ⟨8, true, []⟩, ⟨9, true, []⟩, ⟨10, true, []⟩] (by kernel_rfl) (by kernel_rfl) ?_
  have hmE := Mod.drew [] w3
  obtain ⟨xb, hxb⟩ : ∃ xb, xb = w3.drew := ⟨_, rfl⟩
  rw [← hxb] at hmE ⊢
  clear hxb
  have hW4 := hW3.ext hmE
  have hT4 := hT3.ext hmE
  have hr4 := hW4.r
  have c1 := Blk.cell' hW4.bx (i := 1) rfl
  have t0 := Blk.cell' hT4 (i := 0) rfl
  have t1 := Blk.cell' hT4 (i := 1) rfl
  iterate 5 (refine wpT_n rfl rfl (fun K hK => ?_); go_wp2_with fail)
  refine wpT_call rfl rfl (fun K hK => ?_)
  go_wp2_with (go_at_call 83; (with_reducible refine (HR _ hr4).mono ?_); rintro e w5 ⟨rfl, hm5⟩)
  have hW5 := hW4.ext hm5
  clear c1 t0 t1
  iterate 5 (refine wpT_n rfl rfl (fun K hK => ?_); go_wp2_with fail)
  refine wpT_nil ?_
  go_wp2_with fail
  go_ret
  exact ⟨o0, o1, rfl, hW5, ((((hm1.ext hmD).ext hm3).ext hmE).ext hm5).weak (by simp)⟩
set_option maxRecDepth 1000000 in
set_option maxHeartbeats 8000000 in
theorem takes1y_any (hs : i64 s) (hc : i64 c) (h : Wld W w x p q P Q z N v v L M o0 o1) (hE : nErr N s c = 0) :
    Calls Try.prog 48 #[.pointer (some ⟨x, 0, none⟩), .int .i64 1, .agg #[.int .i64 s, .int .i64 c]] w (TakeP W w x p q P Q z N v L M) := by
  have NR : ∀ w, Pd w p q v L → Calls Try.prog 31 #[.pointer (some ⟨p, 0, none⟩), .agg #[.int .i64 s, .int .i64 c]] w fun e w' => ∃ r, e = .returned (.tuple #[.pointer (some ⟨r, 0, none⟩), .int .i64 0]) ∧ Rgn w' r p s.toNat c.toNat z ∧ w.heap.size ≤ r ∧ Mod [] w w' := fun w hh => (gnew_any p q v L s c w hh hs hc).mono fun e w' hx => by
    rw [h.vN, h.vz] at hx
    exact hx.elim (fun a => a.2) (fun a => absurd hE a.1)
  have HR : ∀ w, Pr w P Q v M → Calls Try.prog 83 #[.pointer (some ⟨P, 0, none⟩), .agg #[.int .i64 s, .int .i64 c]] w fun e w' => ∃ r, e = .returned (.tuple #[.pointer (some ⟨r, 0, none⟩), .int .i64 0]) ∧ Rgr w' r P s.toNat c.toNat ∧ w.heap.size ≤ r ∧ Mod [] w w' := fun w hh => (hnew_any P Q v M s c w hh hs hc).mono fun e w' hx => by
    rw [h.vN] at hx
    exact hx.elim (fun a => a.2) (fun a => absurd hE a.1)
  have hfc := nErr_le hE
  clear hE hs hc
  unfold TakeP
  go_enter Try.func48, Try.ntmps48
  go_wp2_with (with_reducible refine st_box ?_)
  refine StopOp.go rfl fun K hK => ?_
  refine wp_box (v := .agg #[.int .i64 s, .int .i64 c]) (by rfl) ?_
  intro t w1 ht1 ht2 hm1 hT
  simp only [put_some, List.set_cons_succ, List.set_cons_zero]
  refine hK _ _ ?_
  clear hK K
  have hT1 : Blk w1 t 65 [.int .i64 s, .int .i64 c] := hT
  have hW1 := h.ext hm1
  clear hT
  go_wp2_with fail
  refine wp_region_T [⟨0, true, []⟩, ⟨1, true, []⟩, ⟨2, true, []⟩, ⟨3, true, []⟩, ⟨4, true, []⟩, ⟨5, false, []⟩, ⟨6, true, []⟩, ⟨7, true, []⟩, ⟨8, true, []⟩, ⟨9, true, []⟩, ⟨10, true, []⟩] (by kernel_rfl) (by kernel_rfl) ?_
  have hmD := Mod.drew [] w1
  obtain ⟨xa, hxa⟩ : ∃ xa, xa = w1.drew := ⟨_, rfl⟩
  rw [← hxa] at hmD ⊢
  clear hxa
  have hW2 := hW1.ext hmD
  have hT2 := hT1.ext hmD
  have hd2 := hW2.d
  have c0 := Blk.cell' hW2.bx (i := 0) rfl
  have t0 := Blk.cell' hT2 (i := 0) rfl
  have t1 := Blk.cell' hT2 (i := 1) rfl
  iterate 5 (refine wpT_n rfl rfl (fun K hK => ?_); go_wp2_with fail)
  refine wpT_call rfl rfl (fun K hK => ?_)
  go_wp2_with (go_at_call 31; (with_reducible refine (NR _ hd2).mono ?_); rintro e w3 ⟨r, rfl, hr3, gr3, hm3⟩)
  have hW3 := hW2.ext hm3
  have hT3 := hT2.ext hm3
  clear c0 t0 t1
  iterate 5 (refine wpT_n rfl rfl (fun K hK => ?_); go_wp2_with fail)
  refine wpT_nil ?_
  go_wp2_with fail
  refine wp_region_T [⟨0, true, []⟩, ⟨1, true, []⟩, ⟨2, true, []⟩, ⟨3, true, []⟩, ⟨4, true, []⟩, ⟨5, false, []⟩, ⟨6, true, []⟩, ⟨7, true, []⟩, ⟨8, true, []⟩, ⟨9, true, []⟩, ⟨10, true, []⟩] (by kernel_rfl) (by kernel_rfl) ?_
  have hmE := Mod.drew [] w3
  obtain ⟨xb, hxb⟩ : ∃ xb, xb = w3.drew := ⟨_, rfl⟩
  rw [← hxb] at hmE ⊢
  clear hxb
  have hW4 := hW3.ext hmE
  have hT4 := hT3.ext hmE
  have hr4 := hW4.r
  have c1 := Blk.cell' hW4.bx (i := 1) rfl
  have t0 := Blk.cell' hT4 (i := 0) rfl
  have t1 := Blk.cell' hT4 (i := 1) rfl
  iterate 5 (refine wpT_n rfl rfl (fun K hK => ?_); go_wp2_with fail)
  refine wpT_call rfl rfl (fun K hK => ?_)
  go_wp2_with (go_at_call 83; (with_reducible refine (HR _ hr4).mono ?_); rintro e w5 ⟨hg, rfl, hh5, gh5, hm5⟩)
  have hW5 := hW4.ext hm5
  clear c1 t0 t1
  iterate 5 (refine wpT_n rfl rfl (fun K hK => ?_); go_wp2_with fail)
  refine wpT_nil ?_
  go_wp2_with fail
  refine wp_region_T [⟨0, true, []⟩, ⟨1, true, []⟩, ⟨2, true, []⟩, ⟨3, true, []⟩, ⟨4, true, []⟩, ⟨5, true, []⟩, ⟨6, true, []⟩, ⟨7, true, []⟩, ⟨8, true, []⟩, ⟨10, true, []⟩, ⟨11, true, []⟩, ⟨9, false, [10]⟩, ⟨12, true, []⟩, ⟨13, false, []⟩] (by kernel_rfl) (by kernel_rfl) ?_
  have hmF := Mod.drew [] w5
  obtain ⟨xc, hxc⟩ : ∃ xc, xc = w5.drew := ⟨_, rfl⟩
  rw [← hxc] at hmF ⊢
  clear hxc
  have hW6 := hW5.ext hmF
  have hx6 := hW6.bx
  have hr6 := ((hr3.ext hmE).ext hm5).ext hmF
  have hh6 := hh5.ext hmF
  unfold wcl at hx6
  iterate 11 (refine wpT_n rfl rfl (fun K hK => ?_); go_wp2_with fail)
  refine wpT_e rfl rfl (fun K hK => ?_)
  refine wp_store1 (by kernel_rfl) (by rfl) (u := .pointer (some ⟨r, 0, none⟩)) (by rfl) ⟨rfl, rfl⟩ hx6 (by simp) ?_
  intro w7 hm7 hB7
  refine hK _ _ ⟨agains_cons rfl (again_const (fun _ => rfl)) agains_nil, ?_⟩
  clear hK K
  refine wpT_n rfl rfl (fun K hK => ?_)
  go_wp2_with fail
  refine wpT_e0 rfl rfl (fun K hK => ?_)
  refine wp_store1 (by kernel_rfl) (by rfl) (u := .pointer (some ⟨hg, 0, none⟩)) (by rfl) ⟨rfl, rfl⟩ hB7 (by simp) ?_
  intro w8 hm8 hB8
  refine hK _ _ ?_
  clear hK K
  refine wpT_nil ?_
  go_wp2_with fail
  go_ret
  have hm78 : Mod [x] xc w8 := hm7.trans hm8
  have s2 := hW2.d.lt0
  have s2r := hW2.r.lt0
  have z3 := hm3.size
  have zE := hmE.size
  have z5 := hm5.size
  have zF := hmF.size
  have zx := hW2.bx.lt
  have zW := hW2.m.size
  have hnx : r ≠ x := fun e => by omega
  have hgx : hg ≠ x := fun e => by omega
  have hD : ∀ k ∈ (p :: L) ++ (P :: M), k < xa.heap.size := fun k hk => (List.mem_append.1 hk).elim (s2 k) (s2r k)
  have hnew : RegOk W w8 p P z N ((p :: L) ++ (P :: M)) ⟨r, hg, s.toNat, c.toNat⟩ := ⟨hr6.mod hm78 (by simpa using hnx), hh6.mod hm78 (by simpa using hgx), hfc, fun hh => by have := hD _ hh; dsimp only at this; omega, fun hh => by have := hD _ hh; dsimp only at this; omega, by dsimp only; omega, by dsimp only; omega⟩
  have hold : ∀ g, RegOk W xc p P z N ((p :: L) ++ (P :: M)) g → RegOk W w8 p P z N ((p :: L) ++ (P :: M)) g := fun g hg => hg.mod hm78 (by simpa using fun e : g.r = x => Blk.ne hg.a hW6.bx (by decide) e) (by simpa using fun e : g.h = x => Blk.ne hg.b hW6.bx (by decide) e)
  exact ⟨o0, some ⟨r, hg, s.toNat, c.toNat⟩, rfl, ⟨hB8, hW6.d.keep0 hm78 (fun k hk hh => hW6.xd (by have e : k = x := (by simpa using hh); exact e ▸ hk)), hW6.r.keep0 hm78 (fun k hk hh => hW6.xr (by have e : k = x := (by simpa using hh); exact e ▸ hk)), hW6.ap, hW6.xd, hW6.xr, fun g hg => hold g (hW6.g0 g hg), fun g hg => by cases hg; exact hnew, hW6.m.fresh hm78 (by simpa using hW6.xn), hW6.dn, hW6.rn, hW6.xn, hW6.vz, hW6.vN, hW6.uz, hW6.uN⟩, ((((((hm1.ext hmD).ext hm3).ext hmE).ext hm5).ext hmF).weak (by simp)).trans hm78⟩
set_option maxRecDepth 1000000 in
set_option maxHeartbeats 8000000 in
theorem takes1n_any (hs : i64 s) (hc : i64 c) (h : Wld W w x p q P Q z N v v L M o0 o1) (hE : nErr N s c ≠ 0) :
    Calls Try.prog 48 #[.pointer (some ⟨x, 0, none⟩), .int .i64 1, .agg #[.int .i64 s, .int .i64 c]] w (TakeP W w x p q P Q z N v L M) := by
  have NR : ∀ w, Pd w p q v L → Calls Try.prog 31 #[.pointer (some ⟨p, 0, none⟩), .agg #[.int .i64 s, .int .i64 c]] w fun e w' => e = .returned (.tuple #[.pointer none, .int .i64 2]) ∧ Mod [] w w' := fun w hh => (gnew_any p q v L s c w hh hs hc).mono fun e w' hx => by
    rw [h.vN] at hx
    exact hx.elim (fun a => absurd a.1 hE) (fun a => a.2)
  have HR : ∀ w, Pr w P Q v M → Calls Try.prog 83 #[.pointer (some ⟨P, 0, none⟩), .agg #[.int .i64 s, .int .i64 c]] w fun e w' => e = .returned (.tuple #[.pointer none, .int .i64 2]) ∧ Mod [] w w' := fun w hh => (hnew_any P Q v M s c w hh hs hc).mono fun e w' hx => by
    rw [h.vN] at hx
    exact hx.elim (fun a => absurd a.1 hE) (fun a => a.2)
  clear hE hs hc
  unfold TakeP
  go_enter Try.func48, Try.ntmps48
  go_wp2_with (with_reducible refine st_box ?_)
  refine StopOp.go rfl fun K hK => ?_
  refine wp_box (v := .agg #[.int .i64 s, .int .i64 c]) (by rfl) ?_
  intro t w1 ht1 ht2 hm1 hT
  simp only [put_some, List.set_cons_succ, List.set_cons_zero]
  refine hK _ _ ?_
  clear hK K
  have hT1 : Blk w1 t 65 [.int .i64 s, .int .i64 c] := hT
  have hW1 := h.ext hm1
  clear hT
  go_wp2_with fail
  refine wp_region_T [⟨0, true, []⟩, ⟨1, true, []⟩, ⟨2, true, []⟩, ⟨3, true, []⟩, ⟨4, true, []⟩, ⟨5, false, []⟩, ⟨6, true, []⟩, ⟨7, true, []⟩, ⟨8, true, []⟩, ⟨9, true, []⟩, ⟨10, true, []⟩] (by kernel_rfl) (by kernel_rfl) ?_
  have hmD := Mod.drew [] w1
  obtain ⟨xa, hxa⟩ : ∃ xa, xa = w1.drew := ⟨_, rfl⟩
  rw [← hxa] at hmD ⊢
  clear hxa
  have hW2 := hW1.ext hmD
  have hT2 := hT1.ext hmD
  have hd2 := hW2.d
  have c0 := Blk.cell' hW2.bx (i := 0) rfl
  have t0 := Blk.cell' hT2 (i := 0) rfl
  have t1 := Blk.cell' hT2 (i := 1) rfl
  iterate 5 (refine wpT_n rfl rfl (fun K hK => ?_); go_wp2_with fail)
  refine wpT_call rfl rfl (fun K hK => ?_)
  go_wp2_with (go_at_call 31; (with_reducible refine (NR _ hd2).mono ?_); rintro e w3 ⟨rfl, hm3⟩)
  have hW3 := hW2.ext hm3
  have hT3 := hT2.ext hm3
  clear c0 t0 t1
  iterate 5 (refine wpT_n rfl rfl (fun K hK => ?_); go_wp2_with fail)
  refine wpT_nil ?_
  go_wp2_with fail
  refine wp_region_T [⟨0, true, []⟩, ⟨1, true, []⟩, ⟨2, true, []⟩, ⟨3, true, []⟩, ⟨4, true, []⟩, ⟨5, false, []⟩, ⟨6, true, []⟩, ⟨7, true, []⟩, ⟨8, true, []⟩, ⟨9, true, []⟩, ⟨10, true, []⟩] (by kernel_rfl) (by kernel_rfl) ?_
  have hmE := Mod.drew [] w3
  obtain ⟨xb, hxb⟩ : ∃ xb, xb = w3.drew := ⟨_, rfl⟩
  rw [← hxb] at hmE ⊢
  clear hxb
  have hW4 := hW3.ext hmE
  have hT4 := hT3.ext hmE
  have hr4 := hW4.r
  have c1 := Blk.cell' hW4.bx (i := 1) rfl
  have t0 := Blk.cell' hT4 (i := 0) rfl
  have t1 := Blk.cell' hT4 (i := 1) rfl
  iterate 5 (refine wpT_n rfl rfl (fun K hK => ?_); go_wp2_with fail)
  refine wpT_call rfl rfl (fun K hK => ?_)
  go_wp2_with (go_at_call 83; (with_reducible refine (HR _ hr4).mono ?_); rintro e w5 ⟨rfl, hm5⟩)
  have hW5 := hW4.ext hm5
  clear c1 t0 t1
  iterate 5 (refine wpT_n rfl rfl (fun K hK => ?_); go_wp2_with fail)
  refine wpT_nil ?_
  go_wp2_with fail
  go_ret
  exact ⟨o0, o1, rfl, hW5, ((((hm1.ext hmD).ext hm3).ext hmE).ext hm5).weak (by simp)⟩
theorem takes_any (k : Nat) (hk : k = 0 ∨ k = 1) (hs : i64 s) (hc : i64 c) (h : Wld W w x p q P Q z N v v L M o0 o1) :
    Calls Try.prog 48 #[.pointer (some ⟨x, 0, none⟩), .int .i64 (k : Nat), .agg #[.int .i64 s, .int .i64 c]] w (TakeP W w x p q P Q z N v L M) := by
  by_cases hE : nErr N s c = 0
  · rcases hk with rfl | rfl
    · exact takes0y_any hs hc h hE
    · exact takes1y_any hs hc h hE
  · rcases hk with rfl | rfl
    · exact takes0n_any hs hc h hE
    · exact takes1n_any hs hc h hE
end
end Go.Proofs.Ytdmnogmhnhjdgaa
