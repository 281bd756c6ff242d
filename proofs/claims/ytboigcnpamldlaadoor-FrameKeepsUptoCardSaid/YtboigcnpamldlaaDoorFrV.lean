import Derived.Test.YtboigcnpamldlaaDoorFrU
/-! FrameKeeps. -/
set_option linter.unusedVariables false
set_option linter.unusedSimpArgs false
set_option maxRecDepth 100000
namespace Go.Proofs.YtboigcnpamldlaaDoor
open Go.RowKit Gw

set_option maxRecDepth 1000000 in
set_option maxHeartbeats 8000000 in
theorem frameKeeps_core (b : List UInt8) (e s : Nat) (v : Value) (W : World) (hb : Bs W v b) (hl : b.length ≤ 1048576) (he : e < 18446744073709551616) (hs : s < 18446744073709551616) (hT : TabC W) :
    Calls Tryd.prog 9 #[v, .int .u64 (e : Nat), .int .u64 (s : Nat)] W fun en w' => en = .returned (.bool true) ∧ Mod [] W w' := by
  obtain ⟨ao, cap, rfl, hc1, hc2⟩ := hb.form
  have AW := fun w h => frawake_any w h
  by_cases h5 : b.length ≤ 5000
  · have y5 : (b.length : Int) ≤ 5000 := by omega
    have CP := fun w v h => copy_any b v w h (by omega)
    have SC := fun w v h hT => scan_any b e s v w h (by omega) hs he hT
    unfold ScanP at SC
    have GE := fun w v h hT => fget_any b v w h (by omega) hT
    have hgok : (getF b).l.length ≤ 32 := by
      unfold getF
      split
      · rename_i h0
        have := (parF_ok h0).1.l
        exact this
      · simp [fz]
    unfold GetF at GE
    have hrl := rowS_len (b := b) (e := e) b.length s 0 (by omega)
    have hok : ∀ L : List Fi, L.map Fi.d = rowS b e s 0 → ∀ x ∈ L, x.f.l.length ≤ 32 := fun L h => fi_ok h
    have hln : ∀ L : List Fi, L.map Fi.d = rowS b e s 0 → L.length = (rowS b e s 0).length := fun L h => by rw [← h, List.length_map]
    obtain ⟨R, hR⟩ : ∃ R, R = rowS b e s 0 := ⟨_, rfl⟩
    rw [← hR] at SC hrl hok hln
    obtain ⟨q0, hq0⟩ : ∃ q, q = endF R 0 := ⟨_, rfl⟩
    rw [← hq0] at SC
    obtain ⟨n, hn⟩ : ∃ n, n = R.length := ⟨_, rfl⟩
    rw [← hn] at hrl hln
    obtain ⟨f, hf⟩ : ∃ f, f = getF b := ⟨_, rfl⟩
    obtain ⟨N, hN⟩ : ∃ f, f = numF b := ⟨_, rfl⟩
    obtain ⟨E, hE⟩ : ∃ f, f = errF b := ⟨_, rfl⟩
    rw [← hf] at hgok
    rw [← hf, ← hN, ← hE] at GE
    have hn1 : n ≤ 1000 := by omega
    have HOK := Lib.hid (And.intro hok hln)
    clear hR hq0 hn hf hN hE hrl hok hln
    obtain ⟨fe, fs, fl⟩ := f
    dsimp only at GE hgok
    go_enter Tryd.func9, Tryd.ntmps9
    go_wp2_with (first
                  | (with_reducible refine st_bslice ?_)
                  | (go_at_call 10; refine (AW _ hT).mono ?_; rintro e w1 ⟨rfl, hm1⟩; have hb1 := hb.ext hm1)
                  | (go_at_call 29; refine (CP _ _ hb1).mono ?_; rintro e w2 ⟨vi, rfl, hoi, hni, hm2⟩; obtain ⟨aoi, capi, rfl, _, _⟩ := hoi.sl.form; have hT2 := (hT.ext hm1).ext hm2; have hsi := Ob.bs hoi)
                  | (go_at_call 25; refine (SC _ _ hsi hT2).mono ?_; rintro e w3 ⟨v3, L1, rfl, hd1, hf1, hm3⟩; obtain ⟨ao3, cap3, rfl, _, _⟩ := hf1.nx (HOK.out.2 L1 hd1); have hT3 := hT2.ext hm3; have hsi3 := hsi.ext hm3)
                  | (go_at_call 25; refine (SC _ _ hsi3 hT3).mono ?_; rintro e w4 ⟨v4, L2, rfl, hd2, hf2, hm4⟩; obtain ⟨ao4, cap4, rfl, _, _⟩ := hf2.nx (HOK.out.2 L2 hd2); have hf14 := hf1.ext hm4; have r14 := hf14.r)
                  | (go_at_call 33; refine ((copyFrs_any L1 (.slice ao3 n cap3) _ r14 (fun x hx => by have := HOK.out.1 L1 hd1 x hx; omega) (by have := HOK.out.2 L1 hd1; omega))).mono ?_; rintro e w5 ⟨v5, L5, rfl, hL5, hf5, hm5⟩; have hl5 : L5.length = n := (by have := congrArg List.length hL5; rw [List.length_map, List.length_map, HOK.out.2 L1 hd1] at this; exact this); obtain ⟨ao5, cap5, rfl, _, _⟩ := hf5.nx hl5; have hf15 := hf14.ext hm5; have hf25 := hf2.ext hm5; have r15 := hf15.r; have r25 := hf25.r)
                  | (go_at_call 28; refine ((sameFrs_yes L1 L2 (.slice ao3 n cap3) (.slice ao4 n cap4) _ r15 r25 (dd_f (hd1.trans hd2.symm)))).mono ?_; rintro e w6 ⟨rfl, hm6⟩))
    have hf16 := hf15.ext hm6
    have hf26 := hf25.ext hm6
    have hf56 := hf5.ext hm6
    have hoi6 : Ob w6 _ b := (((hoi.ext hm3).ext hm4).ext hm5).ext hm6
    refine StopOp.gw rfl fun K hK => ?_
    refine wp_bslice stFrow [.slice ao3 n cap3, .slice ao4 n cap4] rfl (by decide) (by rfl) (by simp [Value.cells]) ?_
    intro q w7 hq1 hq2 hm7 hB7
    simp only [put_some, List.set_cons_succ, List.set_cons_zero]
    refine hK _ _ ?_
    clear hK K
    have hB7' : Blk w7 q 41 [.slice ao3 n cap3, .slice ao4 n cap4] := hB7
    have hf17 := hf16.ext hm7
    have hf27 := hf26.ext hm7
    have hf57 := hf56.ext hm7
    have hoi7 : Ob w7 _ b := hoi6.ext hm7
    have hlt1 : ∀ k ∈ blks (.slice ao3 n cap3), k < w3.heap.size := hf1.ow.lt
    have hltb := hf1.lt
    have hlt2 : ∀ k ∈ blks (.slice ao4 n cap4), k < w4.heap.size := hf2.ow.lt
    have hltb2 := hf2.lt
    have s34 := hm4.size
    have AP := fun w h1 h2 h3 => apart2_any L1 L2 (.slice ao3 n cap3) (.slice ao4 n cap4) q w2.heap.size w3.heap.size w h1 h2 h3 hm3.size hlt1 hltb (by have := HOK.out.2 L1 hd1; omega) (by have := HOK.out.2 L2 hd2; omega) (HOK.out.1 L1 hd1) (HOK.out.1 L2 hd2)
    have hoi2 := Ow.lt hoi
    clear hf1 hf2 hf14 hf15 hf25 hf16 hf26 hf5 hf56 r14 r15 r25 hoi hoi6 hsi hsi3 hT2 hB7
    have hi2 : ∀ k ∈ blks (.slice aoi b.length capi), k < w2.heap.size := hoi2
    go_wp2_with (first
                  | (with_reducible refine st_alloc ?_)
                  | (go_at_call 34; refine (AP _ hB7' hf17 hf27).mono ?_; rintro e w8 ⟨rfl, M, hM8, hM8'⟩; have hT8 : TabC w8 := ((((hT3.ext hm4).ext hm5).ext hm6).ext hm7).mod hM8 (fun hh => by have := (hM8' 0 hh).1; have := hT.1; have := hm1.size; have := hm2.size; omega); have hoi8 : Ob w8 (.slice aoi b.length capi) b := Ow.mod hoi7 hM8 (fun y hy hh => by have := (hM8' y hh).1; have := hi2 y hy; omega); have hsi8 := Ob.bs hoi8)
                  | (go_at_call 25; refine (SC _ _ hsi8 hT8).mono ?_; rintro e w9 ⟨v9, L9, rfl, hd9, hf9, hm9⟩; obtain ⟨ao9, cap9, rfl, _, _⟩ := hf9.nx (HOK.out.2 L9 hd9); have hT9 := hT8.ext hm9; have hsi9 := hsi8.ext hm9)
                  | (go_at_call 20; refine (GE _ _ hsi9 hT9).mono ?_; rintro e w10 ⟨v10, rfl, ho10, hn10, hm10⟩; obtain ⟨ao10, cap10, rfl, _, _⟩ := ho10.sl.form))
    have hf58 : Frs w8 w4.heap.size (.slice ao5 n cap5) L5 := hf57.mod hM8 (fun k hk hh => by
      have h1 := hf57.nw k hk
      rcases (hM8' k hh).2 with h | h | ⟨x, hx, h⟩ | ⟨x, hx, h⟩
      · have := hlt1 k h; omega
      · have := hlt2 k h; omega
      · have := hltb x hx k h; omega
      · have := hltb2 x hx k h; omega) (fun z hz k hk hh => by
      have h1 := (hf57.ob hz).2 k hk
      rcases (hM8' k hh).2 with h | h | ⟨x, hx, h⟩ | ⟨x, hx, h⟩
      · have := hlt1 k h; omega
      · have := hlt2 k h; omega
      · have := hltb x hx k h; omega
      · have := hltb2 x hx k h; omega)
    have hMW8 : Mod [] W w8 := ((((((hm1.ext hm2).ext hm3).ext hm4).ext hm5).ext hm6).ext hm7).fresh hM8 (fun y hy => by have := (hM8' y hy).1; have := hm1.size; have := hm2.size; omega)
    clear hf17 hf27 hf57 hoi7 hB7' hM8 hM8' hlt1 hltb hlt2 hltb2 AP
    refine StopOp.go rfl fun K hK => ?_
    refine wp_alloc zero_frame ?_
    intro g1 w11 hg1 hg2 hm11 hB11
    simp only [put_some, List.set_cons_succ, List.set_cons_zero]
    refine hK _ _ ?_
    clear hK K
    go_wp2_with (with_reducible refine st_store ?_)
    refine StopOp.go rfl fun K hK => ?_
    refine wp_store (u := .agg #[.int .u64 fe, .int .u64 fs, .slice ao10 fl.length cap10]) (by rfl) (by rfl) (by kernel_rfl) hB11 (by simp [Value.cells]) (by simp [Value.cells, Value.oneCell']) ?_
    intro w12 hm12 hB12
    refine hK _ _ ?_
    clear hK K
    have hX12 : Blk w12 g1 25 [.int .u64 fe, .int .u64 fs, .slice ao10 fl.length cap10] := hB12
    have hm1012 : Mod [] w10 w12 := hm11.fresh hm12 (by simpa using hg1)
    have hT12 := (hT9.ext hm10).ext hm1012
    have hsi12 := (hsi9.ext hm10).ext hm1012
    have ho12 : Ob w12 _ fl := ho10.ext hm1012
    go_wp2_with (first
                  | (with_reducible refine st_alloc ?_)
                  | (go_at_call 20; refine (GE _ _ hsi12 hT12).mono ?_; rintro e w13 ⟨v13, rfl, ho13, hn13, hm13⟩; obtain ⟨ao13, cap13, rfl, _, _⟩ := ho13.sl.form))
    refine StopOp.go rfl fun K hK => ?_
    refine wp_alloc zero_frame ?_
    intro g2 w14 hg21 hg22 hm14 hB14
    simp only [put_some, List.set_cons_succ, List.set_cons_zero]
    refine hK _ _ ?_
    clear hK K
    go_wp2_with (with_reducible refine st_store ?_)
    refine StopOp.go rfl fun K hK => ?_
    refine wp_store (u := .agg #[.int .u64 fe, .int .u64 fs, .slice ao13 fl.length cap13]) (by rfl) (by rfl) (by kernel_rfl) hB14 (by simp [Value.cells]) (by simp [Value.cells, Value.oneCell']) ?_
    intro w15 hm15 hB15
    refine hK _ _ ?_
    clear hK K
    have hX15 : Blk w15 g2 25 [.int .u64 fe, .int .u64 fs, .slice ao13 fl.length cap13] := hB15
    have hm1315 : Mod [] w13 w15 := hm14.fresh hm15 (by simpa using hg21)
    have hX15' := (hX12.ext hm13).ext hm1315
    have ho15 : Ob w15 _ fl := (ho12.ext hm13).ext hm1315
    have ho15' : Ob w15 _ fl := ho13.ext hm1315
    have hm815 := ((((hm9.ext hm10).ext hm1012).ext hm13).ext hm1315)
    have hf515 := hf58.ext hm815
    have hf915 := (((hf9.ext hm10).ext hm1012).ext hm13).ext hm1315
    have hoi15 : Ob w15 (.slice aoi b.length capi) b := hoi8.ext hm815
    have x0 := hX15'.cell' (i := 0) rfl
    have x1 := hX15'.cell' (i := 1) rfl
    have x2 := hX15'.cell' (i := 2) rfl
    have z0 := hX15.cell' (i := 0) rfl
    have z1 := hX15.cell' (i := 1) rfl
    have z2 := hX15.cell' (i := 2) rfl
    have hfin : ∀ w16 : World, Mod [] w15 w16 ∨ (∃ M, Mod M w15 w16 ∧ ∀ y ∈ M, w9.heap.size ≤ y) → FrsR w16 (.slice ao9 n cap9) L9 ∧ FrsR w16 (.slice ao5 n cap5) L5 ∧ Bs w16 (.slice aoi b.length capi) b ∧ Bs w16 (.slice ao b.length cap) b ∧ Mod [] W w16 := fun w16 h => by
      have hmw := hMW8.ext hm815
      rcases h with h | ⟨M2, h, h2⟩
      · exact ⟨(hf915.ext h).r, (hf515.ext h).r, Ob.bs (hoi15.ext h), hb.ext (hmw.ext h), hmw.ext h⟩
      · have s89 := hm9.size
        have hmw' : Mod [] W w16 := hmw.fresh h (fun y hy => by have := h2 y hy; have := hMW8.size; omega)
        refine ⟨(hf915.mod h (fun k hk hh => by have := h2 k hh; have := hf9.ow.lt k hk; omega) (fun x hx k hk hh => by have := h2 k hh; have := hf9.lt x hx k hk; omega)).r, (hf515.mod h (fun k hk hh => by have := h2 k hh; have := hf58.ow.lt k hk; omega) (fun x hx k hk hh => by have := h2 k hh; have := hf58.lt x hx k hk; omega)).r, Ob.bs (Ow.mod hoi15 h (fun y hy hh => by have := h2 y hh; have := Ow.lt hoi8 y hy; omega)), hb.ext hmw', hmw'⟩
    have h59 : L9.map Fi.f = L5.map Fi.f := (dd_f (hd9.trans hd1.symm)).trans hL5.symm
    have H59 := Lib.hid h59
    clear h59
    by_cases hE0 : E = 0
    · subst hE0
      go_wp2_with (with_reducible refine st_bslice ?_)
      refine StopOp.gw rfl fun K hK => ?_
      refine wp_bslice stFr [.agg #[.int .u64 fe, .int .u64 fs, .slice ao10 fl.length cap10], .agg #[.int .u64 fe, .int .u64 fs, .slice ao13 fl.length cap13]] rfl (by decide) (by rfl) (by simp [Value.cells]) ?_
      intro r w16 hr1 hr2 hm16 hB16
      simp only [put_some, List.set_cons_succ, List.set_cons_zero]
      refine hK _ _ ?_
      clear hK K
      have hR16 : Blk w16 r 25 [.int .u64 fe, .int .u64 fs, .slice ao10 fl.length cap10, .int .u64 fe, .int .u64 fs, .slice ao13 fl.length cap13] := hB16
      go_wp2_with (with_reducible refine st_bslice ?_)
      refine StopOp.gw rfl fun K hK => ?_
      refine wp_bslice stFrow [.slice (some ⟨r, 0, none⟩) 2 2] rfl (by decide) (by rfl) (by simp [Value.cells]) ?_
      intro q2 w17 hq21 hq22 hm17 hB17
      simp only [put_some, List.set_cons_succ, List.set_cons_zero]
      refine hK _ _ ?_
      clear hK K
      have hQ17 : Blk w17 q2 41 [.slice (some ⟨r, 0, none⟩) 2 2] := hB17
      have hR17 := hR16.ext hm17
      have hm1517 := hm16.ext hm17
      have ho17 : Ob w17 _ fl := ho15.ext hm1517
      have ho17' : Ob w17 _ fl := ho15'.ext hm1517
      have hlt10 : ∀ k ∈ blks (.slice ao10 fl.length cap10), k < w12.heap.size := Ow.lt ho12
      have s9 := hm10.size
      have s10 := hm1012.size
      have s13 := hm13.size
      have s15 := hm1315.size
      have A1 := fun w h1 h2 h3 h4 => apart1_any ⟨fe, fs, fl⟩ (.slice ao10 fl.length cap10) (.slice ao13 fl.length cap13) q2 r w9.heap.size w12.heap.size w h1 h2 h3 h4 hn10 hn13 (by omega) hlt10 hgok (by omega)
      dsimp only at A1
      go_wp2_with (first
                    | (go_at_call 34; refine (A1 _ hQ17 hR17 ho17 ho17').mono ?_; rintro e w18 ⟨rfl, M2, hM18, hM18'⟩; obtain ⟨u1, u2, u3, u4, u5⟩ := hfin w18 (.inr ⟨M2, (hm1517.weak (by simp)).trans hM18, hM18'⟩))
                    | (go_at_call 28; refine ((sameFrs_yes L9 L5 (.slice ao9 n cap9) (.slice ao5 n cap5) _ u1 u2 H59.out)).mono ?_; rintro e w19 ⟨rfl, hm19⟩; have v3 := u3.ext hm19; have v4 := u4.ext hm19)
                    | (go_at_call 16; refine ((same_yes b b _ _ _ v3 v4 rfl)).mono ?_; rintro e w20 ⟨rfl, hm20⟩))
      go_ret
      exact ⟨rfl, (u5.ext hm19).ext hm20⟩
    · have hE1 : (E == 0) = false := by rw [beq_eq_false_iff_ne]; exact hE0
      obtain ⟨u1, u2, u3, u4, u5⟩ := hfin w15 (.inl (Mod.refl _ _))
      clear hE0
      go_wp2_with (first
                    | (go_at_call 28; refine ((sameFrs_yes L9 L5 (.slice ao9 n cap9) (.slice ao5 n cap5) _ u1 u2 H59.out)).mono ?_; rintro e w19 ⟨rfl, hm19⟩; have v3 := u3.ext hm19; have v4 := u4.ext hm19)
                    | (go_at_call 16; refine ((same_yes b b _ _ _ v3 v4 rfl)).mono ?_; rintro e w20 ⟨rfl, hm20⟩))
      go_ret
      exact ⟨rfl, (u5.ext hm19).ext hm20⟩
  · have y5 : (5000 : Int) < b.length := by omega
    go_enter Tryd.func9, Tryd.ntmps9
    go_wp2_with (go_at_call 10; (with_reducible refine (AW _ hT).mono ?_); rintro e w1 ⟨rfl, hm1⟩)
    go_ret
    exact ⟨rfl, hm1⟩
end Go.Proofs.YtboigcnpamldlaaDoor
