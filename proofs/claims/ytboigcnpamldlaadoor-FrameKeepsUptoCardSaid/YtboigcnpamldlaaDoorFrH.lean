import Derived.Test.YtboigcnpamldlaaDoorFrG
import Derived.Test.YtboigcnpamldlaaDoorFrE
import Derived.Test.YtboigcnpamldlaaDoorLentC
/-! Frames: held side by side; lent; awake. -/
set_option linter.unusedVariables false
set_option linter.unusedSimpArgs false
set_option maxRecDepth 100000
namespace Go.Proofs.YtboigcnpamldlaaDoor
open Go.RowKit Gw

/-- a frame as it is handed over -/
def Fv.v (f : Fv) (v : Value) : Value := .agg #[.int .u64 (f.e : Nat), .int .u64 (f.s : Nat), v]
set_option maxHeartbeats 1000000 in
theorem sameF_yes (f : Fv) (va vb : Value) (w : World) (ha : Bs w va f.l) (hb : Bs w vb f.l) : Calls Tryd.prog 24 #[f.v va, f.v vb] w fun e w' => e = .returned (.bool true) ∧ Mod [] w w' := by
  obtain ⟨e, s, l⟩ := f
  obtain ⟨aoa, capa, rfl, _, _⟩ := ha.form
  obtain ⟨aob, capb, rfl, _, _⟩ := hb.form
  unfold Fv.v
  dsimp only at ha hb ⊢
  go_enter Tryd.func24, Tryd.ntmps24
  go_wp2_with (with_reducible refine st_box ?_)
  refine StopOp.go rfl fun K hK => ?_
  refine wp_box (v := .agg #[.int .u64 (e : Nat), .int .u64 (s : Nat), .slice aoa l.length capa]) (by rfl) ?_
  intro g w1 hg1 hg2 hm1 hB1
  simp only [put_some, List.set_cons_succ, List.set_cons_zero]
  refine hK _ _ ?_
  clear hK K
  go_wp2_with (with_reducible refine st_box ?_)
  refine StopOp.go rfl fun K hK => ?_
  refine wp_box (v := .agg #[.int .u64 (e : Nat), .int .u64 (s : Nat), .slice aob l.length capb]) (by rfl) ?_
  intro h w2 hh1 hh2 hm2 hB2
  simp only [put_some, List.set_cons_succ, List.set_cons_zero]
  refine hK _ _ ?_
  clear hK K
  have hG : Blk w2 g 25 [.int .u64 (e : Nat), .int .u64 (s : Nat), .slice aoa l.length capa] := Blk.ext hB1 hm2
  have hH : Blk w2 h 25 [.int .u64 (e : Nat), .int .u64 (s : Nat), .slice aob l.length capb] := hB2
  have x0 := hG.cell' (i := 0) rfl
  have x1 := hG.cell' (i := 1) rfl
  have x2 := hG.cell' (i := 2) rfl
  have y0 := hH.cell' (i := 0) rfl
  have y1 := hH.cell' (i := 1) rfl
  have y2 := hH.cell' (i := 2) rfl
  have ha2 := (ha.ext hm1).ext hm2
  have hb2 := (hb.ext hm1).ext hm2
  go_wp2_with (go_at_call 16; refine (same_yes l l _ _ _ ha2 hb2 rfl).mono ?_; rintro e w3 ⟨rfl, hm3⟩)
  go_ret
  exact ⟨rfl, (hm1.ext hm2).ext hm3⟩
set_option maxHeartbeats 1000000 in
theorem lentFr_any (f : Fv) (v : Value) (w : World) (hv : Bs w v f.l) (hl : f.l.length ≤ 140737488355300) :
    Calls Tryd.prog 11 #[f.v v] w fun en w' => ∃ g cap, en = .returned (f.v (.slice (some ⟨g, 0, none⟩) f.l.length cap)) ∧ w.heap.size ≤ g ∧ Lt w' g cap f.l ∧ Mod [] w w' := by
  obtain ⟨e, s, l⟩ := f
  obtain ⟨ao, cap, rfl, _, _⟩ := hv.form
  unfold Fv.v
  dsimp only at hv hl ⊢
  go_enter Tryd.func11, Tryd.ntmps11
  go_wp2_with (with_reducible refine st_box ?_)
  refine StopOp.go rfl fun K hK => ?_
  refine wp_box (v := .agg #[.int .u64 (e : Nat), .int .u64 (s : Nat), .slice ao l.length cap]) (by rfl) ?_
  intro h w1 hh1 hh2 hm1 hB1
  simp only [put_some, List.set_cons_succ, List.set_cons_zero]
  refine hK _ _ ?_
  clear hK K
  go_wp2_with (with_reducible refine st_alloc ?_)
  refine StopOp.go rfl fun K hK => ?_
  refine wp_alloc zero_frame ?_
  intro r w2 hr1 hr2 hm2 hB2
  simp only [put_some, List.set_cons_succ, List.set_cons_zero]
  refine hK _ _ ?_
  clear hK K
  have hH : Blk w2 h 25 [.int .u64 (e : Nat), .int .u64 (s : Nat), .slice ao l.length cap] := Blk.ext hB1 hm2
  have c2 := hH.cell' (i := 2) rfl
  have hv2 := (hv.ext hm1).ext hm2
  go_wp2_with (first
                | (with_reducible refine st_store ?_)
                | (go_at_call 19; refine (lent_any l _ _ hv2 hl).mono ?_; rintro e w3 ⟨g, capg, rfl, hg, hL3, hm3⟩))
  have hH3 := hH.ext hm3
  refine StopOp.go rfl fun K hK => ?_
  refine wp_store1 (by kernel_rfl) (by rfl) (u := .slice (some ⟨g, 0, none⟩) l.length capg) (by rfl) ⟨rfl, rfl⟩ hH3 (by simp) ?_
  intro w4 hm4 hB4
  refine hK _ _ ?_
  clear hK K
  have hH4 : Blk w4 h 25 [.int .u64 (e : Nat), .int .u64 (s : Nat), .slice (some ⟨g, 0, none⟩) l.length capg] := hB4
  have hR4 : Blk w4 r 25 [.int .u64 0, .int .u64 0, .slice none 0 0] := (Blk.ext hB2 hm3).mod hm4 (by simp; omega)
  have x0 := hH4.cell' (i := 0) rfl
  have x1 := hH4.cell' (i := 1) rfl
  have x2 := hH4.cell' (i := 2) rfl
  go_wp2_with (with_reducible refine st_store ?_)
  refine StopOp.go rfl fun K hK => ?_
  refine wp_store (u := .agg #[.int .u64 e, .int .u64 s, .slice (some ⟨g, 0, none⟩) l.length capg]) (by rfl) (by rfl) (by kernel_rfl) hR4 (by simp [Value.cells]) (by simp [Value.cells, Value.oneCell']) ?_
  intro w90 hm90 hB90
  refine hK _ _ ?_
  clear hK K
  have z0 := hB90.cell' (i := 0) rfl
  have z1 := hB90.cell' (i := 1) rfl
  have z2 := hB90.cell' (i := 2) rfl
  go_wp2_with fail
  have s1 := hm1.size
  have s2 := hm2.size
  refine bodyPost_ret (v := .agg #[.int .u64 e, .int .u64 s, .slice (some ⟨g, 0, none⟩) l.length capg]) (by simp [results, Tryd.results11, go_sem, z0, z1, z2]) rfl ⟨g, capg, rfl, by omega, ?_, (((hm1.ext hm2).ext hm3).fresh hm4 (by simp; omega)).fresh hm90 (by simp; omega)⟩
  exact (hL3.mod hm4 (by simp; omega)).mod hm90 (by simp; omega)
set_option maxHeartbeats 1000000 in
theorem keptFr_any (f : Fv) (g cap : Nat) (v : Value) (w : World) (hL : Lt w g cap f.l) (hv : Bs w v f.l) :
    Calls Tryd.prog 14 #[f.v (.slice (some ⟨g, 0, none⟩) f.l.length cap), f.v v] w fun en w' => en = .returned (.bool true) ∧ Mod [] w w' := by
  have SF := fun w ha hb => sameF_yes f (.slice (some ⟨g, 0, none⟩) f.l.length cap) v w ha hb
  have KP := fun w h hv => kept_any g cap f.l v w h hv
  obtain ⟨e, s, l⟩ := f
  obtain ⟨ao, cap', rfl, _, _⟩ := hv.form
  unfold Fv.v at SF ⊢
  dsimp only at hv hL SF KP ⊢
  go_enter Tryd.func14, Tryd.ntmps14
  go_wp2_with (with_reducible refine st_box ?_)
  refine StopOp.go rfl fun K hK => ?_
  refine wp_box (v := .agg #[.int .u64 (e : Nat), .int .u64 (s : Nat), .slice (some ⟨g, 0, none⟩) l.length cap]) (by rfl) ?_
  intro h w1 hh1 hh2 hm1 hB1
  simp only [put_some, List.set_cons_succ, List.set_cons_zero]
  refine hK _ _ ?_
  clear hK K
  go_wp2_with (with_reducible refine st_box ?_)
  refine StopOp.go rfl fun K hK => ?_
  refine wp_box (v := .agg #[.int .u64 (e : Nat), .int .u64 (s : Nat), .slice ao l.length cap']) (by rfl) ?_
  intro r w2 hr1 hr2 hm2 hB2
  simp only [put_some, List.set_cons_succ, List.set_cons_zero]
  refine hK _ _ ?_
  clear hK K
  have hH : Blk w2 h 25 [.int .u64 (e : Nat), .int .u64 (s : Nat), .slice (some ⟨g, 0, none⟩) l.length cap] := Blk.ext hB1 hm2
  have hR : Blk w2 r 25 [.int .u64 (e : Nat), .int .u64 (s : Nat), .slice ao l.length cap'] := hB2
  have x0 := hH.cell' (i := 0) rfl
  have x1 := hH.cell' (i := 1) rfl
  have x2 := hH.cell' (i := 2) rfl
  have y0 := hR.cell' (i := 0) rfl
  have y1 := hR.cell' (i := 1) rfl
  have y2 := hR.cell' (i := 2) rfl
  have hv2 := (hv.ext hm1).ext hm2
  have hL2 := (hL.ext hm1).ext hm2
  have hs2 := hL2.bs
  go_wp2_with (first
                | (go_at_call 24; refine (SF _ hs2 hv2).mono ?_; rintro e w3 ⟨rfl, hm3⟩; have hH3 := hH.ext hm3; have hR3 := hR.ext hm3; have x3 := hH3.cell' (i := 2) rfl; have y3 := hR3.cell' (i := 2) rfl; have hv3 := hv2.ext hm3; have hL3 := hL2.ext hm3)
                | (go_at_call 22; refine (KP _ hL3 hv3).mono ?_; rintro e w4 ⟨rfl, hm4⟩))
  go_ret
  exact ⟨rfl, ((hm1.ext hm2).ext hm3).ext hm4⟩
set_option maxHeartbeats 1000000 in
theorem overFr_any (f : Fv) (g cap : Nat) (w : World) (hL : Lt w g cap f.l) (hl : f.l.length ≤ 140737488355300) :
    Calls Tryd.prog 15 #[f.v (.slice (some ⟨g, 0, none⟩) f.l.length cap)] w fun en w' => en = .returned (.tuple #[]) ∧ Mod [g] w w' := by
  obtain ⟨e, s, l⟩ := f
  unfold Fv.v
  dsimp only at hL hl ⊢
  go_enter Tryd.func15, Tryd.ntmps15
  go_wp2_with (with_reducible refine st_box ?_)
  refine StopOp.go rfl fun K hK => ?_
  refine wp_box (v := .agg #[.int .u64 (e : Nat), .int .u64 (s : Nat), .slice (some ⟨g, 0, none⟩) l.length cap]) (by rfl) ?_
  intro h w1 hh1 hh2 hm1 hB1
  simp only [put_some, List.set_cons_succ, List.set_cons_zero]
  refine hK _ _ ?_
  clear hK K
  have hH : Blk w1 h 25 [.int .u64 (e : Nat), .int .u64 (s : Nat), .slice (some ⟨g, 0, none⟩) l.length cap] := hB1
  have x2 := hH.cell' (i := 2) rfl
  have hL1 := hL.ext hm1
  go_wp2_with (go_at_call 23; refine (over_any g cap l _ hL1 hl).mono ?_; rintro e w2 ⟨rfl, hm2⟩)
  go_end0
  exact ⟨rfl, (hm1.weak (by simp)).trans hm2⟩
def awFr : Fv := ⟨1, 2, [7]⟩
theorem awFr_get : errF awFr.b = 0 ∧ getF awFr.b = awFr ∧ numF awFr.b = 23 := by
  have h := getF_of (e := 1) (s := 2) (l := [7]) (by decide) (by decide) (by decide) []
  rw [List.append_nil] at h
  refine ⟨h.1, ?_, ?_⟩
  · unfold getF; rw [show awFr.b = frame 1 2 [7] from rfl, if_pos h.1]; exact h.2.1
  · unfold numF; rw [show awFr.b = frame 1 2 [7] from rfl, if_pos h.1, h.2.2]; rfl
theorem awFr_cut : errF (awFr.b.take 22) = 4 := by
  have h := getF_of (e := 1) (s := 2) (l := [7]) (by decide) (by decide) (by decide) []
  rw [List.append_nil] at h
  have hl : (frame 1 2 [7]).length = 23 := by rw [frame_len]; rfl
  have hl2 : ((frame 1 2 [7]).take 22).length = 22 := by rw [List.length_take]; omega
  have e0 : nb ((frame 1 2 [7]).take 22) 0 2 = 1 := (nb_take _ _ _ _ (by omega)).trans h.2.2
  show errF ((frame 1 2 [7]).take 22) = 4
  unfold errF
  rw [e0, hl2, if_neg (by omega), if_neg (by omega), if_pos (by omega)]
theorem awFr_row : rowS awFr.b 1 1 0 = [(0, awFr)] ∧ endF (rowS awFr.b 1 1 0) 0 = 23 := by
  obtain ⟨h1, h2, h3⟩ := awFr_get
  have hp : parF awFr.b = awFr := by have := h2; unfold getF at this; rw [if_pos h1] at this; exact this
  have hs : stepF awFr.b 1 1 0 = true := by unfold stepF; rw [List.drop_zero, h1, hp]; rfl
  have hl : awFr.b.length = 23 := by show (frame 1 2 [7]).length = 23; rw [frame_len]; rfl
  have e1 := rowS_yes hs
  rw [List.drop_zero, hp, h3] at e1
  have e2 : rowS awFr.b 1 2 (0 + 23) = [] := by
    show rowS awFr.b 1 2 23 = []
    have := rowS_len (b := awFr.b) (e := 1) 1 2 23 (by omega)
    rw [hl] at this
    exact List.eq_nil_of_length_eq_zero (by omega)
  rw [show (1 + 1 : Nat) = 2 from rfl, e2] at e1
  exact ⟨e1, by rw [e1]; rfl⟩
theorem awFr_put (v : Value) (w : World) (hv : Bs w v [7]) (hT : TabC w) : Calls Tryd.prog 12 #[.agg #[.int .u64 1, .int .u64 2, v]] w fun e w' => ∃ v', e = .returned (.tuple #[v', .int .i64 0]) ∧ Ob w' v' awFr.b ∧ Mod [] w w' :=
  (fput_any 1 2 [7] v w hv (by decide) (by decide) hT).mono fun e w' ⟨v', h1, h2, _, h4⟩ => ⟨v', h1, h2, h4⟩
theorem awFr_get1 (v : Value) (w : World) (hv : Bs w v awFr.b) (hT : TabC w) : Calls Tryd.prog 20 #[v] w fun e w' => ∃ v', e = .returned (.tuple #[.agg #[.int .u64 1, .int .u64 2, v'], .int .i64 23, .int .i64 0]) ∧ Ob w' v' [7] ∧ Mod [] w w' :=
  (fget_any awFr.b v w hv (by have : awFr.b.length = 23 := (frame_len _ _ _); omega) hT).mono fun e w' ⟨v', h1, h2, _, h4⟩ => by
    obtain ⟨g1, g2, g3⟩ := awFr_get
    rw [g2] at h1 h2
    rw [g1, g3] at h1
    exact ⟨v', h1, h2, h4⟩
theorem awFr_get2 (v : Value) (w : World) (hv : Bs w v (awFr.b.take 22)) (hT : TabC w) : Calls Tryd.prog 20 #[v] w fun e w' => ∃ v', e = .returned (.tuple #[.agg #[.int .u64 0, .int .u64 0, v'], .int .i64 0, .int .i64 4]) ∧ Ob w' v' [] ∧ Mod [] w w' :=
  (fget_any (awFr.b.take 22) v w hv (by rw [List.length_take]; omega) hT).mono fun e w' ⟨v', h1, h2, _, h4⟩ => by
    have g1 := awFr_cut
    have g2 : getF (awFr.b.take 22) = fz := if_neg (by rw [g1]; decide)
    have g3 : numF (awFr.b.take 22) = 0 := if_neg (by rw [g1]; decide)
    rw [g2] at h1 h2
    rw [g1, g3] at h1
    exact ⟨v', h1, h2, h4⟩
theorem awFr_scan (v : Value) (w : World) (hv : Bs w v awFr.b) (hT : TabC w) : Calls Tryd.prog 25 #[v, .int .u64 1, .int .u64 1] w fun e w' => ∃ ao cap, e = .returned (.tuple #[.slice ao 1 cap, .int .i64 23]) ∧ Mod [] w w' :=
  (scan_any awFr.b 1 1 v w hv (by have : awFr.b.length = 23 := (frame_len _ _ _); omega) (by decide) (by decide) hT).mono fun e w' ⟨v', L, h1, h2, h3, h4⟩ => by
    obtain ⟨g1, g2⟩ := awFr_row
    rw [g2] at h1
    rw [g1] at h2
    have hl : L.length = 1 := by have := congrArg List.length h2; simpa using this
    obtain ⟨ao, cap, rfl, _, _⟩ := h3.ow.sl.form
    rw [hl] at h1
    exact ⟨ao, cap, h1, h4⟩
set_option maxRecDepth 1000000 in
set_option maxHeartbeats 4000000 in
theorem frawake_any (w : World) (hT : TabC w) : Calls Tryd.prog 10 #[] w fun e w' => e = .returned (.bool true) ∧ Mod [] w w' := by
  have hA : awFr.b.length = 23 := frame_len _ _ _
  have PU := awFr_put
  have G1 := awFr_get1
  have G2 := awFr_get2
  have SC := awFr_scan
  obtain ⟨A, hAA⟩ : ∃ A, A = awFr.b := ⟨_, rfl⟩
  rw [← hAA] at hA PU G1 G2 SC
  clear hAA
  have HA := Lib.hid hA
  clear hA
  go_enter Tryd.func10, Tryd.ntmps10
  go_wp2_with (with_reducible refine st_bslice ?_)
  refine StopOp.go rfl fun K hK => ?_
  refine wp_bslice stB [.int .u8 7] rfl (by decide) (by rfl) (by simp [Value.cells]) ?_
  intro p w1 hp1 hp2 hm1 hB1
  simp only [put_some, List.set_cons_succ, List.set_cons_zero]
  refine hK _ _ ?_
  clear hK K
  have hb1 : Bs w1 (.slice (some ⟨p, 0, none⟩) 1 1) [7] := Bs.of_blk (l := [7]) (rest := []) hB1 (by decide) (by omega)
  have hT1 := hT.ext hm1
  go_wp2_with (first
                | (with_reducible refine st_alloc ?_)
                | (go_at_call 12; refine (PU _ _ hb1 hT1).mono ?_; rintro e w2 ⟨v2, rfl, ho2, hm2⟩; obtain ⟨ao2, cap2, rfl, hcp, _⟩ := Ob.nx ho2 HA.out; have hs2 := ho2.bs; have hT2 := hT1.ext hm2)
                | (go_at_call 20; refine (G1 _ _ hs2 hT2).mono ?_; rintro e w3 ⟨v3, rfl, ho3, hm3⟩; obtain ⟨ao3, cap3, rfl, _, _⟩ := Ob.nx (n := 1) ho3 rfl))
  refine StopOp.go rfl fun K hK => ?_
  refine wp_alloc zero_frame ?_
  intro g w4 hg1 hg2 hm4 hB4
  simp only [put_some, List.set_cons_succ, List.set_cons_zero]
  refine hK _ _ ?_
  clear hK K
  go_wp2_with (with_reducible refine st_store ?_)
  refine StopOp.go rfl fun K hK => ?_
  refine wp_store (u := .agg #[.int .u64 1, .int .u64 2, .slice ao3 1 cap3]) (by rfl) (by rfl) (by kernel_rfl) hB4 (by simp [Value.cells]) (by simp [Value.cells, Value.oneCell']) ?_
  intro w5 hm5 hB5
  refine hK _ _ ?_
  clear hK K
  have hG5 : Blk w5 g 25 [.int .u64 1, .int .u64 2, .slice ao3 1 cap3] := hB5
  have hm25 : Mod [] w2 w5 := (hm3.ext hm4).fresh hm5 (by have := hm3.size; simp; omega)
  have hs5 := hs2.ext hm25
  have hp5 := hs5.pref HA.out.symm (k := 22) (by omega) (by omega)
  have hT5 := hT2.ext hm25
  have hM5 := (hm1.ext hm2).ext hm25
  have y1 : (22 : Int) ≤ cap2 := by omega
  clear hB4 hB5 hm3 hm4 hm5 ho3 hm25
  go_wp2_with (first
                | (with_reducible refine st_alloc ?_)
                | (go_at_call 20; refine (G2 _ _ hp5 hT5).mono ?_; rintro e w6 ⟨v6, rfl, ho6, hm6⟩; obtain ⟨ao6, cap6, rfl, _, _⟩ := Ob.nx (n := 0) ho6 rfl))
  refine StopOp.go rfl fun K hK => ?_
  refine wp_alloc zero_frame ?_
  intro h w7 hh1 hh2 hm7 hB7
  simp only [put_some, List.set_cons_succ, List.set_cons_zero]
  refine hK _ _ ?_
  clear hK K
  go_wp2_with (with_reducible refine st_store ?_)
  refine StopOp.go rfl fun K hK => ?_
  refine wp_store (u := .agg #[.int .u64 0, .int .u64 0, .slice ao6 0 cap6]) (by rfl) (by rfl) (by kernel_rfl) hB7 (by simp [Value.cells]) (by simp [Value.cells, Value.oneCell']) ?_
  intro w8 hm8 hB8
  refine hK _ _ ?_
  clear hK K
  have hm58 : Mod [] w5 w8 := (hm6.ext hm7).fresh hm8 (by have := hm6.size; simp; omega)
  have hs8 := hs5.ext hm58
  have hT8 := hT5.ext hm58
  have hG8 := hG5.ext hm58
  clear hB7 hB8 hm6 hm7 hm8 ho6
  go_wp2_with (go_at_call 25; refine (SC _ _ hs8 hT8).mono ?_; rintro e w9 ⟨ao9, cap9, rfl, hm9⟩; have hG9 := hG8.ext hm9; have x1 := hG9.cell' (i := 1) rfl)
  go_ret
  exact ⟨rfl, (hM5.ext hm58).ext hm9⟩
end Go.Proofs.YtboigcnpamldlaaDoor
