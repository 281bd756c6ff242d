import Derived.Test.YtdmnogmhnhjdgaaRgI
/-! RegionNumbers. -/
set_option linter.unusedVariables false
set_option linter.unusedSimpArgs false
set_option maxRecDepth 100000
namespace Go.Proofs.Ytdmnogmhnhjdgaa
open Go.RowKit Gw

theorem stRg : ST Try.prog 80 61 (.pointer none) 1 8 := ⟨Try.underlying80, by kernel_rfl, rfl, by decide⟩
def rn0 : Pv := ⟨dev0 4 64, false, -1, 0⟩
def rn1 : Pv := rn0.arm 0
def rn2 : Pv := rn1.sy
def rn3 : Pv := (wrC rn2 3 0 1 64 [1]).1
theorem rn_w1 : wrA 3 1 64 rn2 0 [1] = (rn3, 60) := by
  unfold wrA
  rw [if_pos (by decide)]
  show wrG 3 64 rn2 0 1 [1] = _
  rw [wrG_no (by decide) (by decide) (by decide +kernel)]
  rfl
theorem rn_w2 : wrA 3 1 64 rn3 0 [] = (rn3, 0) := by
  unfold wrA
  rw [if_pos (by decide)]
  show wrG 3 64 rn3 0 0 [] = _
  rw [wrG_end]
theorem rn_r1 : rdA 0 4 64 rn0 256 1 = (rn0, 2, []) := by
  unfold rdA
  rw [if_neg (by decide)]
theorem rn_r2 : rdA 0 4 64 rn0 256 0 = (rn0, 0, []) := by
  unfold rdA
  rw [if_pos (by decide)]
  show rdG 0 64 rn0 256 256 [] = _
  rw [rdG_end]
theorem rn_n : rn2.off = true ∧ rn2.m.sz = 64 ∧ rn2.m.dur.length = 4 ∧ rn2.n ≤ 10 ∧ rn2.m.row.length ≤ 10 ∧ rn3.m.sz = 64 ∧ rn3.m.dur.length = 4 ∧ rn3.n ≤ 10 ∧ rn3.m.row.length ≤ 10 ∧ rn1.e 0 = 60 ∧ rn1.n ≤ 10 ∧ rn1.m.row.length ≤ 10 := by decide +kernel
set_option maxRecDepth 1000000 in
set_option maxHeartbeats 3000000 in
theorem regionNumbers_core (w : World) : Calls Try.prog 6 #[] w fun e w' => e = .returned (.bool true) ∧ Mod [] w w' := by
  have DV := fun w => device_any 3 0 w ⟨by omega, by omega⟩ ⟨by omega, by omega⟩
  simp only [show nS 3 = 4 from by decide, show szZ 0 = 64 from by decide] at DV
  unfold DevP at DV
  have e0 : (⟨dev0 4 64, false, -1, 0⟩ : Pv) = rn0 := rfl
  rw [e0] at DV
  have NB := fun w p q L h => gnew_bad p q rn0 L 0 0 w h ⟨by omega, by omega⟩ ⟨by omega, by omega⟩ (by decide)
  have NX := fun w p q L h => gnew_ok p q rn0 L 0 4 0 4 64 w h rfl rfl rfl (by omega) (by decide)
  have CO : ∀ w p q, Blk w p 55 (rn0.cells q) → Calls Try.prog 20 #[.pointer (some ⟨p, 0, none⟩)] w fun e w' => e = .returned (.int .i64 0) ∧ w = w' := fun w p q h => pCount_any p q rn0 w h
  have R1 := fun w r p q L h hR => gRead_any r p q 0 4 64 rn0 L 256 1 w h hR rfl (by decide) (by decide) ⟨by omega, by omega⟩ ⟨by omega, by omega⟩
  have R2 := fun w r p q L h hR => gRead_any r p q 0 4 64 rn0 L 256 0 w h hR rfl (by decide) (by decide) ⟨by omega, by omega⟩ ⟨by omega, by omega⟩
  rw [rn_r1] at R1
  rw [rn_r2] at R2
  unfold GRdP at R1 R2
  have AR := fun w p q L h => pArm_any p q rn0 L 0 w h (by omega)
  have f0 : (if rn0.off = true then (60 : Int) else 0) = 0 := rfl
  have f1 : rn0.arm 0 = rn1 := rfl
  rw [f0, f1] at AR
  obtain ⟨a1, a2, a3, a4, a5, a6, a7, a8, a9, a10, a11, a12⟩ := rn_n
  have SY := fun w r p q L hR h => gSync_any r p q 0 4 64 rn1 L w hR h (by omega) (by omega)
  have f2 : rn1.sy = rn2 := rfl
  rw [a10, f2] at SY
  unfold PdP at SY
  have NY := fun w p q L h => gnew_ok p q rn2 L 3 1 3 1 64 w h rfl rfl a2 (by omega) (by rw [a3]; decide)
  have DN := fun w r p q h hb => gDown_any r p q 3 1 64 rn2 w h hb
  rw [a1] at DN
  have W1 := fun w r p q L bw h hR hb h1 h2 => gWrite_any r p q 3 1 64 rn2 L 0 [1] bw w h hR hb a2 (by omega) (by omega) (by omega) ⟨by omega, by omega⟩ h1 h2
  have W2 := fun w r p q L bw h hR hb h1 h2 => gWrite_any r p q 3 1 64 rn3 L 0 [] bw w h hR hb a6 (by omega) (by omega) (by omega) ⟨by omega, by omega⟩ h1 h2
  rw [rn_w1] at W1
  rw [rn_w2] at W2
  unfold GWrP PdP at W1 W2
  dsimp only at R1 R2 W1 W2
  obtain ⟨v0, hv0⟩ : ∃ v, v = rn0 := ⟨_, rfl⟩
  obtain ⟨v1, hv1⟩ : ∃ v, v = rn1 := ⟨_, rfl⟩
  obtain ⟨v2, hv2⟩ : ∃ v, v = rn2 := ⟨_, rfl⟩
  obtain ⟨v3, hv3⟩ : ∃ v, v = rn3 := ⟨_, rfl⟩
  rw [← hv0] at DV NB NX CO R1 R2 AR
  rw [← hv1] at AR SY
  rw [← hv2] at SY NY DN W1
  rw [← hv3] at W1 W2
  have AW := fun w => gawake_any w
  clear a1 a2 a3 a4 a5 a6 a7 a8 a9 a10 a11 a12 hv0 hv1 hv2 hv3 e0 f0 f1 f2
  go_enter Try.func6, Try.ntmps6
  go_wp2_with (with_reducible refine st_box ?_)
  refine StopOp.go rfl fun K hK => ?_
  refine wp_box (v := .agg #[.pointer none, .int .i64 0, .int .i64 0, .int .i64 0]) (by rfl) ?_
  intro g w1 hg1 hg2 hm1 hB1
  simp only [put_some, List.set_cons_succ, List.set_cons_zero]
  refine hK _ _ ?_
  clear hK K
  go_wp2_with (with_reducible refine st_bslice ?_)
  refine StopOp.go rfl fun K hK => ?_
  refine wp_bslice stRg [.pointer none, .pointer (some ⟨g, 0, none⟩)] rfl (by decide) (by rfl) (by simp [Value.cells]) ?_
  intro b w2 hb1 hb2 hm2 hB2
  simp only [put_some, List.set_cons_succ, List.set_cons_zero]
  refine hK _ _ ?_
  clear hK K
  have hN2 : NoRg w2 (.pointer (some ⟨g, 0, none⟩)) := .inr ⟨g, rfl, Blk.ext (show Blk w1 g 79 [.pointer none, .int .i64 0, .int .i64 0, .int .i64 0] from hB1) hm2⟩
  have hm02 := hm1.ext hm2
  clear hB1 hm1 hm2
  go_wp2_with fail
  go_loopw [3, 4, 5, 29] (fun _ _ _ i wr => (∃ j : Nat, j ≤ 2 ∧ i = .int .i64 j) ∧ Mod [] w2 wr) (fun _ _ _ i _ => 2 - (intOf i).toNat)
  case atStart => exact ⟨⟨0, by omega, rfl⟩, Mod.refl _ _⟩
  case round =>
    obtain ⟨⟨j, hj, rfl⟩, hmr⟩ := hrel
    have c0 : wr.cell? ⟨b, 0, none⟩ = some (.pointer none) := (hB2.ext hmr).cell' (i := 0) rfl
    have c1 : wr.cell? ⟨b, 1, none⟩ = some (.pointer (some ⟨g, 0, none⟩)) := (hB2.ext hmr).cell' (i := 1) rfl
    have hN0 : NoRg wr (.pointer none) := .inl rfl
    have hN1 := hN2.ext hmr
    have hs0 : Bs wr (.slice none 0 0) [] := Sl.nil _ _
    obtain rfl | rfl | rfl : j = 0 ∨ j = 1 ∨ j = 2 := by omega
    · skip
      go_wp2_with (first
                    | (go_at_call 37; (with_reducible refine (gRead_no _ 0 0 _ hN0).mono ?_); rintro e w3 ⟨rfl, hm3⟩; have hN3 := NoRg.ext hN0 hm3; have hs3 : Bs w3 (.slice none 0 0) [] := hs0.ext hm3)
                    | (go_at_call 34; (with_reducible refine (gWrite_no _ 0 _ _ _ hN3 hs3).mono ?_); rintro e w4 ⟨rfl, hm4⟩; have hN4 := hN3.ext hm4)
                    | (go_at_call 41; (with_reducible refine (gSync_no _ _ hN4).mono ?_); rintro e w5 ⟨rfl, rfl⟩)
                    | (go_at_call 42; (with_reducible refine (gBytes_no _ _ hN4).mono ?_); rintro e w5 ⟨rfl, rfl⟩)
                    | (go_at_call 43; (with_reducible refine (gSize_no _ _ hN4).mono ?_); rintro e w5 ⟨rfl, rfl⟩)
                    | (go_at_call 44; (with_reducible refine (gCount_no _ _ hN4).mono ?_); rintro e w5 ⟨rfl, rfl⟩)
                    | (go_at_call 45; (with_reducible refine (gDown_no _ _ hN4).mono ?_); rintro e w5 ⟨rfl, rfl⟩))
      go_roundw
      case rel => exact ⟨⟨1, by omega, by go_num⟩, (hmr.ext hm3).ext hm4⟩
      case measure => simp [intOf]
    · skip
      go_wp2_with (first
                    | (go_at_call 37; (with_reducible refine (gRead_no _ 0 0 _ hN1).mono ?_); rintro e w3 ⟨rfl, hm3⟩; have hN3 := NoRg.ext hN1 hm3; have hs3 : Bs w3 (.slice none 0 0) [] := hs0.ext hm3)
                    | (go_at_call 34; (with_reducible refine (gWrite_no _ 0 _ _ _ hN3 hs3).mono ?_); rintro e w4 ⟨rfl, hm4⟩; have hN4 := hN3.ext hm4)
                    | (go_at_call 41; (with_reducible refine (gSync_no _ _ hN4).mono ?_); rintro e w5 ⟨rfl, rfl⟩)
                    | (go_at_call 42; (with_reducible refine (gBytes_no _ _ hN4).mono ?_); rintro e w5 ⟨rfl, rfl⟩)
                    | (go_at_call 43; (with_reducible refine (gSize_no _ _ hN4).mono ?_); rintro e w5 ⟨rfl, rfl⟩)
                    | (go_at_call 44; (with_reducible refine (gCount_no _ _ hN4).mono ?_); rintro e w5 ⟨rfl, rfl⟩)
                    | (go_at_call 45; (with_reducible refine (gDown_no _ _ hN4).mono ?_); rintro e w5 ⟨rfl, rfl⟩))
      go_roundw
      case rel => exact ⟨⟨2, by omega, by go_num⟩, (hmr.ext hm3).ext hm4⟩
      case measure => simp [intOf]
    · have hm0r := hm02.ext hmr
      clear c0 c1 hN0 hN1 hN2 hB2 hmr hm02
      have np : NoPw wr (.pointer none) := .inl rfl
      go_wp2_with (first
                    | (with_reducible refine st_box ?_)
                    | (go_at_call 30; refine (DV _).mono ?_; rintro e w1 ⟨p, q, p', q', L, M, rfl, hP1, _, _, hm1, hg1, _⟩; have np1 : NoPw w1 (.pointer none) := .inl rfl)
                    | (go_at_call 31; refine (gnew_no _ 0 1 _ np1).mono ?_; rintro e w3 ⟨rfl, hm3⟩; have hP3 := hP1.ext hm3))
      refine StopOp.go rfl fun K hK => ?_
      refine wp_box (v := .agg #[.pointer none, .bool false, .int .i64 0, .int .i64 0]) (by rfl) ?_
      intro gd w4 hd1 hd2 hm4 hB4
      simp only [put_some, List.set_cons_succ, List.set_cons_zero]
      refine hK _ _ ?_
      clear hK K
      have np4 : NoPw w4 (.pointer (some ⟨gd, 0, none⟩)) := .inr ⟨gd, rfl, hB4⟩
      have hP4 := hP3.ext hm4
      have hm04 := (hm1.ext hm3).ext hm4
      clear hP1 hP3 np1 np hm1 hm3 hm4
      go_wp2_with (first
                    | (with_reducible refine st_bslice ?_)
                    | (go_at_call 31; (with_reducible refine (gnew_no _ 0 0 _ np4).mono ?_); rintro e w5 ⟨rfl, hm5⟩; have hP5 := hP4.ext hm5)
                    | (go_at_call 31; (with_reducible refine (NB _ _ _ _ hP5).mono ?_); rintro e w6 ⟨rfl, hm6⟩; have hP6 := hP5.ext hm6)
                    | (go_at_call 31; (with_reducible refine (NX _ _ _ _ hP6).mono ?_); rintro e w7 ⟨x, rfl, hX7, hx7, hm7⟩; have hP7 := hP6.ext hm7; have hRx := Rs.new hX7 hP6 hx7; have hb7 := hP7.b)
                    | (go_at_call 20; refine (CO _ _ _ hb7).mono ?_; rintro e w8 ⟨rfl, rfl⟩)
                    | (go_at_call 37; (with_reducible refine (R1 _ _ _ _ _ hP7 hX7).mono ?_); rintro e w8 ⟨u8, rfl, ho8, hn8, hP8, hm8⟩; have hRx8 := hRx.turn (hm8.weak (by simp)) (fun x hx => .inl hx); have hX8 := hRx8.1; obtain ⟨ao8, cap8, rfl, _, _⟩ := Ob.nxR (n := 0) ho8 rfl)
                    | (go_at_call 37; (with_reducible refine (R2 _ _ _ _ _ hP8 hX8).mono ?_); rintro e w9 ⟨u9, rfl, ho9, hn9, hP9, hm9⟩; have hRx9 := hRx8.turn (hm9.weak (by simp)) (fun x hx => .inl hx); obtain ⟨ao9, cap9, rfl, _, _⟩ := Ob.nxR (n := 0) ho9 rfl)
                    | (go_at_call 14; refine (AR _ _ _ _ hP9).mono ?_; rintro e w10 ⟨rfl, hP10, hm10⟩; have hRx10 := hRx9.turn (hm10.weak (by simp)) (fun x hx => .inl hx); have hX10 := hRx10.1)
                    | (go_at_call 41; refine (SY _ _ _ _ _ hX10 hP10).mono ?_; rintro e w11 ⟨rfl, L11, hP11, hm11, hL11⟩)
                    | (go_at_call 31; (with_reducible refine (NY _ _ _ _ hP11).mono ?_); rintro e w12 ⟨y, rfl, hY12, hy12, hm12⟩; have hP12 := hP11.ext hm12; have hRy := Rs.new hY12 hP11 hy12; have hb12 := hP12.b)
                    | (go_at_call 45; refine (DN _ _ _ _ hY12 hb12).mono ?_; rintro e w13 ⟨rfl, rfl⟩))
      refine StopOp.gw rfl fun K hK => ?_
      refine wp_bslice stB [.int .u8 1] rfl (by decide) (by rfl) (by simp [Value.cells]) ?_
      intro h w13 hh1 hh2 hm13 hB13
      simp only [put_some, List.set_cons_succ, List.set_cons_zero]
      refine hK _ _ ?_
      clear hK K
      have hx13 : Ob w13 (.slice (some ⟨h, 0, none⟩) 1 1) [1] := Ob.new4 hB13 rfl (by omega)
      have hs13 := Ob.bs hx13
      have hP13 := hP12.ext hm13
      have hRy13 := hRy.ext hm13
      have hY13 := hRy13.1
      have hn13 : y ∉ p :: L11 := hRy13.2
      have hbB : ∀ x ∈ blks (.slice (some ⟨h, 0, none⟩) 1 1), x < w13.heap.size ∧ x ∉ p :: L11 := fun x hx => by
        have e : x = h := by simpa [blks] using hx
        rw [e]
        exact ⟨hh2, fun hh => by have := hP12.lt0 h hh; omega⟩
      go_wp2_with (first
                    | (go_at_call 34; (with_reducible refine (W1 _ _ _ _ _ _ hP13 hY13 hs13 hn13 hbB).mono ?_); rintro e w14 ⟨rfl, L14, hP14, hm14, hL14⟩; have hRy14 := hRy13.turn hm14 hL14; have hY14 := hRy14.1; have hn14 : (y ∉ p :: L14) := hRy14.2; have hs14 : Bs w14 (.slice none 0 0) [] := Sl.nil _ _; have hb14 : (∀ x ∈ blks (.slice none 0 0), x < w14.heap.size ∧ x ∉ p :: L14) := (fun x hx => by simp [blks] at hx))
                    | (go_at_call 34; (with_reducible refine (W2 _ _ _ _ _ _ hP14 hY14 hs14 hn14 hb14).mono ?_); rintro e w15 ⟨rfl, L15, hP15, hm15, hL15⟩)
                    | (go_at_call 40; refine (AW _).mono ?_; rintro e w16 ⟨rfl, hm16⟩))
      go_ret
      have hgL : ∀ g ∈ p :: L, wr.heap.size ≤ g := hg1
      have s4 := hm04.size
      have m7 : Mod [] w w7 := (((hm0r.ext hm04).ext hm5).ext hm6).ext hm7
      have hgw : ∀ g ∈ p :: L, w.heap.size ≤ g := fun g hg => Nat.le_trans hm0r.size (hg1 g hg)
      have m8 : Mod [] w w8 := m7.fresh hm8 (fun g hg => hgw g (by simp at hg; simp [hg]))
      have m9 : Mod [] w w9 := m8.fresh hm9 (fun g hg => hgw g (by simp at hg; simp [hg]))
      have m10 : Mod [] w w10 := m9.fresh hm10 (fun g hg => hgw g (by simp at hg; simp [hg]))
      have m11 : Mod [] w w11 := m10.fresh hm11 hgw
      have g11 : ∀ g ∈ p :: L11, w.heap.size ≤ g := fun g hg => (List.mem_cons.1 hg).elim (fun e => hgw g (by simp [e])) (fun e => (hL11 g e).elim (fun e => hgw g (by simp [e])) (fun e => Nat.le_trans m10.size e))
      have m13 : Mod [] w w13 := (m11.ext hm12).ext hm13
      have m14 : Mod [] w w14 := m13.fresh hm14 g11
      have g14 : ∀ g ∈ p :: L14, w.heap.size ≤ g := fun g hg => (List.mem_cons.1 hg).elim (fun e => g11 g (by simp [e])) (fun e => (hL14 g e).elim (fun e => g11 g (by simp [e])) (fun e => Nat.le_trans m13.size e))
      exact ⟨rfl, (m14.fresh hm15 g14).ext hm16⟩
end Go.Proofs.Ytdmnogmhnhjdgaa
