import Derived.Test.YtfepggdljhiemaaDoorGWl
/-! WalNumbers. -/
set_option linter.unusedVariables false
set_option linter.unusedSimpArgs false
set_option maxRecDepth 100000
namespace Go.Proofs.YtfepggdljhiemaaDoor
open Go.RowKit Gw

theorem appE_yes {s : Ls} {N : Nat} {l : List UInt8} (h1 : l.length ≤ 32) (h2 : s.t ≠ 18446744073709551615) (h3 : s.u + (22 + l.length) ≤ N) : s.appE N l = 0 := by
  unfold Ls.appE
  rw [if_neg (by omega), if_pos (show s.fits N l.length = true from decide_eq_true ⟨⟨by omega, by omega⟩, h2, by omega⟩)]
theorem appE_full {s : Ls} {N : Nat} {l : List UInt8} (h1 : l.length ≤ 32) (h2 : s.t = 18446744073709551615 ∨ N < s.u + (22 + l.length)) : s.appE N l = 6 := by
  unfold Ls.appE
  rw [if_neg (by omega), if_neg]
  intro hh
  obtain ⟨_, g2, g3⟩ := of_decide_eq_true hh
  omega
theorem appE_long {s : Ls} {N : Nat} {l : List UInt8} (h : 32 < l.length) : s.appE N l = 3 := if_pos h
theorem app_no {s : Ls} {N : Nat} {l : List UInt8} (h : s.appE N l ≠ 0) : s.app N l = s ∧ s.appN N l = 0 := ⟨if_neg h, if_neg h⟩
theorem app_yes {s : Ls} {N : Nat} {l : List UInt8} (h : s.appE N l = 0) : s.app N l = s.put l ∧ s.appN N l = s.t + 1 := ⟨if_pos h, if_pos h⟩
theorem Wg.toB {W w : World} {p q P Q : Nat} {v u : Pv} {L M : List Nat} {l r h c : Nat} {bw : Value} {s : Ls} {O : List (Nat × TypeId × List Value)} (H : Wg W w p q P Q v u L M l r h c bw s O) : Bw W w p q P Q v u L M (wO0 r h p P c) :=
  ⟨H.B.D, H.B.E, H.B.ap, fun x hx => H.B.O x (List.mem_append_left _ (List.mem_cons_of_mem _ hx)), H.B.m, H.B.dn, H.B.rn⟩
theorem Bw.old {W W1 w : World} {p q P Q : Nat} {v u : Pv} {L M : List Nat} {O : List (Nat × TypeId × List Value)} (h : Bw W1 w p q P Q v u L M O) (hm : Mod [] W W1) : Bw W w p q P Q v u L M O :=
  ⟨h.D, h.E, h.ap, fun x hx => ⟨Nat.le_trans hm.size (h.O x hx).1, (h.O x hx).2⟩, hm.ext h.m, fun k hk => Nat.le_trans hm.size (h.dn k hk), fun k hk => Nat.le_trans hm.size (h.rn k hk)⟩
theorem Lg.far {w w' : World} {l r N : Nat} {bw : Value} {s : Ls} {G : List Nat} (h : Lg w l r bw s) (hm : Mod G w w') (hG : ∀ g ∈ G, N ≤ g) (hN : l < N ∧ ∀ b ∈ blks bw, b < N) : Lg w' l r bw s :=
  h.mod hm (fun hh => by have := hG l hh; omega) (fun k hk hh => by have := hG k hh; have := hN.2 k hk; omega)
theorem Lg.old {w : World} {l r : Nat} {bw : Value} {s : Ls} (h : Lg w l r bw s) : l < w.heap.size ∧ ∀ b ∈ blks bw, b < w.heap.size := ⟨h.b.lt, Ow.lt h.o⟩
theorem stLg : ST Tryd.prog 30 22 (.pointer none) 1 8 := ⟨Tryd.underlying30, by kernel_rfl, rfl, by decide⟩
theorem NoLg.ext {w w' : World} {v : Value} (h : NoLg w v) (hm : Mod [] w w') : NoLg w' v := by
  rcases h with rfl | ⟨l, c0, c1, c2, c3, c5, rfl, hb⟩
  · exact .inl rfl
  · exact .inr ⟨l, c0, c1, c2, c3, c5, rfl, hb.ext hm⟩
set_option maxRecDepth 1000000 in
set_option maxHeartbeats 20000000 in
theorem walNumbers_core (W : World) (hT : TabC W) : Calls Tryd.prog 3 #[] W fun e w' => e = .returned (.bool true) ∧ Mod [] W w' := by
  have AW := fun w h => walake_any w h
  obtain ⟨c, hc⟩ : ∃ c, c = 2 := ⟨_, rfl⟩
  have PL : ∀ w, Calls Tryd.prog 18 #[.int .i64 1] w (PlaceP c w) := fun w => by
    have e : cP 1 = c := by rw [hc]; decide
    have := place_any 1 w ⟨by omega, by omega⟩
    rw [e] at this
    exact this
  unfold PlaceP at PL
  obtain ⟨Z33, hZ33⟩ : ∃ Z, Z = zeros 33 := ⟨_, rfl⟩
  obtain ⟨Z32, hZ32⟩ : ∃ Z, Z = zeros 32 := ⟨_, rfl⟩
  obtain ⟨Z30, hZ30⟩ : ∃ Z, Z = zeros 30 := ⟨_, rfl⟩
  have q33 : Z33.length = 33 := by rw [hZ33]; rfl
  have q32 : Z32.length = 32 := by rw [hZ32]; rfl
  have q30 : Z30.length = 30 := by rw [hZ30]; rfl
  have qb : bv ([1] : List UInt8) = [.int .u8 1] := rfl
  obtain ⟨A0, hA0⟩ : ∃ s : Ls, s = ⟨[], 0, 18446744073709551614, 18446744073709551614, 1⟩ := ⟨_, rfl⟩
  obtain ⟨A1, hA1⟩ : ∃ s : Ls, s = A0.put Z32 := ⟨_, rfl⟩
  obtain ⟨B0, hB0⟩ : ∃ s : Ls, s = ⟨[], 0, 1, 1, 1⟩ := ⟨_, rfl⟩
  obtain ⟨B1, hB1⟩ : ∃ s : Ls, s = B0.put Z32 := ⟨_, rfl⟩
  obtain ⟨B2, hB2⟩ : ∃ s : Ls, s = B1.put Z30 := ⟨_, rfl⟩
  obtain ⟨B3, hB3⟩ : ∃ s : Ls, s = B2.put [] := ⟨_, rfl⟩
  have a0u : A0.u = 0 := by rw [hA0]; rfl
  have a0t : A0.t = 18446744073709551614 := by rw [hA0]
  have a1u : A1.u = 54 := by rw [hA1, put_u, a0u, q32]
  have a1t : A1.t = 18446744073709551615 := by rw [hA1]; show A0.t + 1 = _; rw [a0t]
  have b0u : B0.u = 0 := by rw [hB0]; rfl
  have b0t : B0.t = 1 := by rw [hB0]
  have b1u : B1.u = 54 := by rw [hB1, put_u, b0u, q32]
  have b1t : B1.t = 2 := by rw [hB1]; show B0.t + 1 = _; rw [b0t]
  have b2u : B2.u = 106 := by rw [hB2, put_u, b1u, q30]
  have b2t : B2.t = 3 := by rw [hB2]; show B1.t + 1 = _; rw [b1t]
  have b3u : B3.u = 128 := by rw [hB3, put_u, b2u]; rfl
  have lA0 : LsOk A0 (c * 64) := by rw [hA0]; exact ⟨by show 1 < _; omega, by show 18446744073709551614 < _; omega, by show 18446744073709551614 < _; omega, Nat.zero_le _⟩
  have lB0 : LsOk B0 (c * 64) := by rw [hB0]; exact ⟨by show 1 < _; omega, by show 1 < _; omega, by show 1 < _; omega, Nat.zero_le _⟩
  have x1 : A0.appE (c * 64) Z33 = 3 := appE_long (by omega)
  obtain ⟨y1, z1⟩ := app_no (show A0.appE (c * 64) Z33 ≠ 0 by rw [x1]; decide)
  have x2 : A0.appE (c * 64) Z32 = 0 := appE_yes (by omega) (by omega) (by omega)
  obtain ⟨y2, z2⟩ := app_yes x2
  rw [← hA1] at y2
  have lA1 := lA0.app Z32
  rw [y2] at lA1
  have x3 : A1.appE (c * 64) [] = 6 := appE_full (by simp) (.inl a1t)
  obtain ⟨y3, z3⟩ := app_no (show A1.appE (c * 64) [] ≠ 0 by rw [x3]; decide)
  have x4 : B0.appE (c * 64) Z32 = 0 := appE_yes (by omega) (by omega) (by omega)
  obtain ⟨y4, z4⟩ := app_yes x4
  rw [← hB1] at y4
  have lB1 := lB0.app Z32
  rw [y4] at lB1
  have x5 : B1.appE (c * 64) Z30 = 0 := appE_yes (by omega) (by omega) (by omega)
  obtain ⟨y5, z5⟩ := app_yes x5
  rw [← hB2] at y5
  have lB2 := lB1.app Z30
  rw [y5] at lB2
  have x6 : B2.appE (c * 64) [1] = 6 := appE_full (by simp) (.inr (by simp; omega))
  obtain ⟨y6, z6⟩ := app_no (show B2.appE (c * 64) [1] ≠ 0 by rw [x6]; decide)
  have x7 : B2.appE (c * 64) [] = 0 := appE_yes (by simp) (by omega) (by simp; omega)
  obtain ⟨y7, z7⟩ := app_yes x7
  rw [← hB3] at y7
  have lB3 := lB2.app []
  rw [y7] at lB3
  have t1 : A1.fits (c * 64) 0 = false := decide_eq_false (fun h => h.2.1 a1t)
  have t2 : B2.fits (c * 64) 1 = false := decide_eq_false (fun h => by omega)
  have NA := fun {w p q P Q v u L M r h} (B : Bw W w p q P Q v u L M (wO0 r h p P c)) => Wg.newAny B 1 18446744073709551614 (by omega) (by omega)
  have NB := fun {w p q P Q v u L M r h} (B : Bw W w p q P Q v u L M (wO0 r h p P c)) => Wg.newAny B 1 1 (by omega) (by omega)
  rw [← hA0, show ((18446744073709551614 : Nat) : Int) = 18446744073709551614 from rfl, show ((1 : Nat) : Int) = 1 from rfl] at NA
  rw [← hB0, show ((1 : Nat) : Int) = 1 from rfl] at NB
  have P1 := fun {w p q P Q v u L M l r h bw O} (H : Wg W w p q P Q v u L M l r h c bw A0 O) {xv} (hv : Bs w xv Z33) => H.append hT hv lA0 (by omega) (by omega)
  have P2 := fun {w p q P Q v u L M l r h bw O} (H : Wg W w p q P Q v u L M l r h c bw A0 O) {xv} (hv : Bs w xv Z32) => H.append hT hv lA0 (by omega) (by omega)
  have P3 := fun {w p q P Q v u L M l r h bw O} (H : Wg W w p q P Q v u L M l r h c bw A1 O) {xv} (hv : Bs w xv []) => H.append hT hv lA1 (by omega) (by simp)
  have P4 := fun {w p q P Q v u L M l r h bw O} (H : Wg W w p q P Q v u L M l r h c bw B0 O) {xv} (hv : Bs w xv Z32) => H.append hT hv lB0 (by omega) (by omega)
  have P5 := fun {w p q P Q v u L M l r h bw O} (H : Wg W w p q P Q v u L M l r h c bw B1 O) {xv} (hv : Bs w xv Z30) => H.append hT hv lB1 (by omega) (by omega)
  have P6 := fun {w p q P Q v u L M l r h bw O} (H : Wg W w p q P Q v u L M l r h c bw B2 O) {xv} (hv : Bs w xv [1]) => H.append hT hv lB2 (by omega) (by simp)
  have P7 := fun {w p q P Q v u L M l r h bw O} (H : Wg W w p q P Q v u L M l r h c bw B2 O) {xv} (hv : Bs w xv []) => H.append hT hv lB2 (by omega) (by simp)
  unfold WAppP at P1 P2 P3 P4 P5 P6 P7
  rw [x1, y1, z1] at P1
  rw [x2, y2, z2, a0t, show ((18446744073709551614 + 1 : Nat) : Int) = 18446744073709551615 from rfl] at P2
  rw [x3, y3, z3] at P3
  rw [x4, y4, z4] at P4
  rw [x5, y5, z5] at P5
  rw [x6, y6, z6] at P6
  rw [x7, y7, z7] at P7
  have F1 := fun {w l r p bw} (h : Lg w l r bw A1) (hR : Rgn w r p 1 c 64) => lFits_any l r p c bw A1 0 w ⟨by omega, by omega⟩ h hR lA1.n (by omega) lA1.t
  have F2 := fun {w l r p bw} (h : Lg w l r bw B2) (hR : Rgn w r p 1 c 64) => lFits_any l r p c bw B2 1 w ⟨by omega, by omega⟩ h hR lB2.n (by omega) lB2.t
  rw [t1] at F1
  rw [t2] at F2
  have LA := fun {w l r bw} (h : Lg w l r bw A1) => lLast_any l r bw A1 w h
  rw [a1t, show ((18446744073709551615 : Nat) : Int) = 18446744073709551615 from rfl] at LA
  have RO := fun {w l r p bw} (h : Lg w l r bw B3) (hR : Rgn w r p 1 c 64) => lRoom_any l r p c bw B3 w h hR lB3.n (by omega)
  rw [b3u, hc] at RO
  have hro : (((2 * 64 : Nat) : Int) - ((128 : Nat) : Int)) = 0 := by decide
  rw [hro, ← hc] at RO
  have HQ := Lib.hid (And.intro q33 (And.intro q32 (And.intro q30 (And.intro hZ33 (And.intro hZ32 hZ30)))))
  clear q33 q32 q30 hZ33 hZ32 hZ30 hc hA0 hA1 hB0 hB1 hB2 hB3 a0u a0t a1u a1t b0u b0t b1u b1t b2u b2t b3u lA0 lB0 lA1 lB1 lB2 lB3 x1 x2 x3 x4 x5 x6 x7 y1 y2 y3 y4 y5 y6 y7 z1 z2 z3 z4 z5 z6 z7 t1 t2 hro
  go_enter Tryd.func3, Tryd.ntmps3
  go_wp2_with (with_reducible refine st_box ?_)
  refine StopOp.go rfl fun K hK => ?_
  refine wp_box (v := .agg #[.slice none 0 0, .int .i64 0, .int .u64 0, .int .u64 0, .pointer none, .int .u64 0]) (by rfl) ?_
  intro g w1 hg1 hg2 hm1 hX1
  simp only [put_some, List.set_cons_succ, List.set_cons_zero]
  refine hK _ _ ?_
  clear hK K
  go_wp2_with (with_reducible refine st_bslice ?_)
  refine StopOp.go rfl fun K hK => ?_
  refine wp_bslice stLg [.pointer none, .pointer (some ⟨g, 0, none⟩)] rfl (by decide) (by rfl) (by simp [Value.cells]) ?_
  intro b w2 hb1 hb2 hm2 hX2
  simp only [put_some, List.set_cons_succ, List.set_cons_zero]
  refine hK _ _ ?_
  clear hK K
  have hN2 : NoLg w2 (.pointer (some ⟨g, 0, none⟩)) := .inr ⟨g, _, _, _, _, _, rfl, Blk.ext (show Blk w1 g 29 [.slice none 0 0, .int .i64 0, .int .u64 0, .int .u64 0, .pointer none, .int .u64 0] from hX1) hm2⟩
  have hm02 := hm1.ext hm2
  clear hX1 hm1 hm2
  go_wp2_with fail
  go_loopw [3, 4, 5, 37] (fun _ _ _ i wr => (∃ j : Nat, j ≤ 2 ∧ i = .int .i64 j) ∧ Mod [] w2 wr) (fun _ _ _ i _ => 2 - (intOf i).toNat)
  case atStart => exact ⟨⟨0, by omega, rfl⟩, Mod.refl _ _⟩
  case round =>
    obtain ⟨⟨j, hj, rfl⟩, hmr⟩ := hrel
    have c0 : wr.cell? ⟨b, 0, none⟩ = some (.pointer none) := (hX2.ext hmr).cell' (i := 0) rfl
    have c1 : wr.cell? ⟨b, 1, none⟩ = some (.pointer (some ⟨g, 0, none⟩)) := (hX2.ext hmr).cell' (i := 1) rfl
    have hN0 : NoLg wr (.pointer none) := .inl rfl
    have hN1 := hN2.ext hmr
    obtain rfl | rfl | rfl : j = 0 ∨ j = 1 ∨ j = 2 := by omega
    · skip
      go_wp2_with (first
                    | (go_at_call 7; (with_reducible refine (lAppend_no _ _ _ hN0).mono ?_); rintro e w3 ⟨rfl, rfl⟩)
                    | (go_at_call 8; (with_reducible refine (lFlush_no _ _ hN0).mono ?_); rintro e w3 ⟨rfl, rfl⟩)
                    | (go_at_call 9; (with_reducible refine (lReset_no _ _ _ hN0).mono ?_); rintro e w3 ⟨rfl, rfl⟩)
                    | (go_at_call 10; (with_reducible refine (lFits_no _ _ _ hN0).mono ?_); rintro e w3 ⟨rfl, rfl⟩)
                    | (go_at_call 11; (with_reducible refine (lEpoch_no _ _ hN0).mono ?_); rintro e w3 ⟨rfl, rfl⟩)
                    | (go_at_call 12; (with_reducible refine (lLast_no _ _ hN0).mono ?_); rintro e w3 ⟨rfl, rfl⟩)
                    | (go_at_call 13; (with_reducible refine (lDurable_no _ _ hN0).mono ?_); rintro e w3 ⟨rfl, rfl⟩)
                    | (go_at_call 14; (with_reducible refine (lUsed_no _ _ hN0).mono ?_); rintro e w3 ⟨rfl, rfl⟩)
                    | (go_at_call 15; (with_reducible refine (lRoom_no _ _ hN0).mono ?_); rintro e w3 ⟨rfl, rfl⟩))
      go_roundw
      case rel => exact ⟨⟨1, by omega, by go_num⟩, hmr⟩
      case measure => simp [intOf]
    · skip
      go_wp2_with (first
                    | (go_at_call 7; (with_reducible refine (lAppend_no _ _ _ hN1).mono ?_); rintro e w3 ⟨rfl, rfl⟩)
                    | (go_at_call 8; (with_reducible refine (lFlush_no _ _ hN1).mono ?_); rintro e w3 ⟨rfl, rfl⟩)
                    | (go_at_call 9; (with_reducible refine (lReset_no _ _ _ hN1).mono ?_); rintro e w3 ⟨rfl, rfl⟩)
                    | (go_at_call 10; (with_reducible refine (lFits_no _ _ _ hN1).mono ?_); rintro e w3 ⟨rfl, rfl⟩)
                    | (go_at_call 11; (with_reducible refine (lEpoch_no _ _ hN1).mono ?_); rintro e w3 ⟨rfl, rfl⟩)
                    | (go_at_call 12; (with_reducible refine (lLast_no _ _ hN1).mono ?_); rintro e w3 ⟨rfl, rfl⟩)
                    | (go_at_call 13; (with_reducible refine (lDurable_no _ _ hN1).mono ?_); rintro e w3 ⟨rfl, rfl⟩)
                    | (go_at_call 14; (with_reducible refine (lUsed_no _ _ hN1).mono ?_); rintro e w3 ⟨rfl, rfl⟩)
                    | (go_at_call 15; (with_reducible refine (lRoom_no _ _ hN1).mono ?_); rintro e w3 ⟨rfl, rfl⟩))
      go_roundw
      case rel => exact ⟨⟨2, by omega, by go_num⟩, hmr⟩
      case measure => simp [intOf]
    · have hmW := hm02.ext hmr
      have hRn : NoRg wr (.pointer none) := .inl rfl
      clear c0 c1 hN0 hN1 hN2 hX2
      go_wp2_with (first
                    | (with_reducible refine st_box ?_)
                    | (go_at_call 16; (with_reducible refine (lnew_no _ _ _ _ hRn).mono ?_); rintro e w3 ⟨rfl, rfl⟩))
      refine StopOp.go rfl fun K hK => ?_
      refine wp_box (v := .agg #[.pointer none, .int .i64 0, .int .i64 0, .int .i64 0]) (by rfl) ?_
      intro g3 w3 hg31 hg32 hm3 hX3
      simp only [put_some, List.set_cons_succ, List.set_cons_zero]
      refine hK _ _ ?_
      clear hK K
      have hR3 : NoRg w3 (.pointer (some ⟨g3, 0, none⟩)) := .inr ⟨g3, rfl, show Blk w3 g3 47 [.pointer none, .int .i64 0, .int .i64 0, .int .i64 0] from hX3⟩
      go_wp2_with (first
                    | (with_reducible refine st_box ?_)
                    | (go_at_call 16; (with_reducible refine (lnew_no _ _ _ _ hR3).mono ?_); rintro e w4 ⟨rfl, rfl⟩))
      refine StopOp.go rfl fun K hK => ?_
      refine wp_box (v := .agg #[.pointer none, .int .i64 0, .int .i64 0, .int .i64 0]) (by rfl) ?_
      intro g4 w4 hg41 hg42 hm4 hX4
      simp only [put_some, List.set_cons_succ, List.set_cons_zero]
      refine hK _ _ ?_
      clear hK K
      have hR4 : NoRg w4 (.pointer (some ⟨g4, 0, none⟩)) := .inr ⟨g4, rfl, show Blk w4 g4 47 [.pointer none, .int .i64 0, .int .i64 0, .int .i64 0] from hX4⟩
      have hmW4 := (hmW.ext hm3).ext hm4
      go_wp2_with (first
                    | (with_reducible refine st_make ?_)
                    | (go_at_call 17; (with_reducible refine (wscan_no _ _ _ _ hR4).mono ?_); rintro e w5 ⟨rfl, rfl⟩)
                    | (go_at_call 18; (with_reducible refine (PL _).mono ?_); rintro e w5 ⟨r, p, q, L, h, P, Q, M, rfl, B5⟩; have B5' := B5.old hmW4)
                    | (go_at_call 16; (with_reducible refine (NA B5').mono ?_); rintro e w6 ⟨l, rfl, H6, hm6, hl6⟩))
      refine StopOp.go rfl fun K hK => ?_
      refine wp_make (nl := 33) (nc := 33) stB (by rfl) (by rfl) rfl rfl (Nat.le_refl _) (by omega) (by omega) ?_
      intro g7 w7 hg71 hg72 hm7 hX7
      simp only [put_some, List.set_cons_succ, List.set_cons_zero]
      refine hK _ _ ?_
      clear hK K
      have hs7 : Bs w7 (.slice (some ⟨g7, 0, none⟩) 33 33) Z33 := by rw [HQ.out.2.2.2.1]; exact (Ob.made hX7 (by omega)).bs
      have H7 := H6.ext hm7
      go_wp2_with (first
                    | (with_reducible refine st_make ?_)
                    | (go_at_call 7; (with_reducible refine (P1 H7 hs7).mono ?_); rintro e w8 ⟨rfl, bw8, H8, hm8, hn8⟩))
      refine StopOp.go rfl fun K hK => ?_
      refine wp_make (nl := 32) (nc := 32) stB (by rfl) (by rfl) rfl rfl (Nat.le_refl _) (by omega) (by omega) ?_
      intro g9 w9 hg91 hg92 hm9 hX9
      simp only [put_some, List.set_cons_succ, List.set_cons_zero]
      refine hK _ _ ?_
      clear hK K
      have hs9 : Bs w9 (.slice (some ⟨g9, 0, none⟩) 32 32) Z32 := by rw [HQ.out.2.2.2.2.1]; exact (Ob.made hX9 (by omega)).bs
      have H9 := H8.ext hm9
      go_wp2_with (first
                    | (with_reducible refine st_make ?_)
                    | (go_at_call 7; (with_reducible refine (P2 H9 hs9).mono ?_); rintro e wa ⟨rfl, bwa, Ha, hma, hna⟩; have hsa : Bs wa (.slice none 0 0) [] := Sl.nil _ _)
                    | (go_at_call 7; (with_reducible refine (P3 Ha hsa).mono ?_); rintro e wb ⟨rfl, bwb, Hb, hmb, hnb⟩)
                    | (go_at_call 16; (with_reducible refine (NB Hb.toB).mono ?_); rintro e wc ⟨k, rfl, Hc, hmc, hkc⟩))
      have G0 := Hb.lg
      have old := G0.old
      have Gc := G0.ext hmc
      refine StopOp.go rfl fun K hK => ?_
      refine wp_make (nl := 32) (nc := 32) stB (by rfl) (by rfl) rfl rfl (Nat.le_refl _) (by omega) (by omega) ?_
      intro gd wd hgd1 hgd2 hmd hXd
      simp only [put_some, List.set_cons_succ, List.set_cons_zero]
      refine hK _ _ ?_
      clear hK K
      have hsd : Bs wd (.slice (some ⟨gd, 0, none⟩) 32 32) Z32 := by rw [HQ.out.2.2.2.2.1]; exact (Ob.made hXd (by omega)).bs
      have Hd := Hc.ext hmd
      have Gd := Gc.ext hmd
      have zc := hmc.size
      have zd := hmd.size
      go_wp2_with (first
                    | (with_reducible refine st_make ?_)
                    | (go_at_call 7; (with_reducible refine (P4 Hd hsd).mono ?_); rintro e we ⟨rfl, bwe, He, hme, hne⟩))
      have Ge := Gd.far hme (fun y hy => (List.mem_cons.1 hy).elim (fun e => by omega) (fun hy => by simp [blks] at hy)) old
      have oe : ∀ y ∈ k :: blks bwe, wb.heap.size ≤ y := fun y hy => (List.mem_cons.1 hy).elim (fun e => by omega) (fun hy => (hne y hy).elim (fun hy => by simp [blks] at hy) (fun hy => by omega))
      refine StopOp.go rfl fun K hK => ?_
      refine wp_make (nl := 30) (nc := 30) stB (by rfl) (by rfl) rfl rfl (Nat.le_refl _) (by omega) (by omega) ?_
      intro gf wf hgf1 hgf2 hmf hXf
      simp only [put_some, List.set_cons_succ, List.set_cons_zero]
      refine hK _ _ ?_
      clear hK K
      have hsf : Bs wf (.slice (some ⟨gf, 0, none⟩) 30 30) Z30 := by rw [HQ.out.2.2.2.2.2]; exact (Ob.made hXf (by omega)).bs
      have Hf := He.ext hmf
      have Gf := Ge.ext hmf
      have ze := hme.size
      have zf := hmf.size
      go_wp2_with (first
                    | (with_reducible refine st_bslice ?_)
                    | (go_at_call 7; (with_reducible refine (P5 Hf hsf).mono ?_); rintro e wg ⟨rfl, bwg, Hg, hmg, hng⟩; have Lgg := Hg.lg; have Rgg := Hg.rg)
                    | (go_at_call 10; (with_reducible refine (F2 Lgg Rgg).mono ?_); rintro e wh ⟨rfl, hmh⟩))
      have Gg := Gf.far hmg oe old
      have og : ∀ y ∈ k :: blks bwg, wb.heap.size ≤ y := fun y hy => (List.mem_cons.1 hy).elim (fun e => by omega) (fun hy => (hng y hy).elim (fun hy => oe y (List.mem_cons_of_mem _ hy)) (fun hy => by omega))
      refine StopOp.go rfl fun K hK => ?_
      refine wp_bslice stB [.int .u8 1] rfl (by decide) (by rfl) (by simp [Value.cells]) ?_
      intro gi wi hgi1 hgi2 hmi hXi
      simp only [put_some, List.set_cons_succ, List.set_cons_zero]
      refine hK _ _ ?_
      clear hK K
      have hsi : Bs wi (.slice (some ⟨gi, 0, none⟩) 1 1) [1] := (Ob.new4 (l := [1]) (n := 1) (by rw [qb]; exact hXi) rfl (by decide)).bs
      have Hi := (Hg.ext hmh).ext hmi
      have Gi := (Gg.ext hmh).ext hmi
      have zg := hmg.size
      have zh := hmh.size
      have zi := hmi.size
      go_wp2_with (first
                    | (go_at_call 7; (with_reducible refine (P6 Hi hsi).mono ?_); rintro e wj ⟨rfl, bwj, Hj, hmj, hnj⟩; have hsj : Bs wj (.slice none 0 0) [] := Sl.nil _ _; have Gj := Gi.far hmj og old; have zj := hmj.size; have oj : ∀ y ∈ k :: blks bwj, wb.heap.size ≤ y := fun y hy => (List.mem_cons.1 hy).elim (fun e => by omega) (fun hy => (hnj y hy).elim (fun hy => og y (List.mem_cons_of_mem _ hy)) (fun hy => by omega)))
                    | (go_at_call 7; (with_reducible refine (P7 Hj hsj).mono ?_); rintro e wk ⟨rfl, bwk, Hk, hmk, hnk⟩; have Gk := Gj.far hmk oj old; have Rk := Hk.rg)
                    | (go_at_call 10; (with_reducible refine (F1 Gk Rk).mono ?_); rintro e wl ⟨rfl, hml⟩; have Gl := Gk.ext hml; have Hl := Hk.ext hml; have Ll := Hl.lg; have Rl := Hl.rg)
                    | (go_at_call 12; (with_reducible refine (LA Gl).mono ?_); rintro e wm ⟨rfl, rfl⟩)
                    | (go_at_call 15; (with_reducible refine (RO Ll Rl).mono ?_); rintro e wm ⟨rfl, hmm⟩; have Mm := Hl.B.m.ext hmm; have hTm := hT.ext Mm)
                    | (go_at_call 19; (with_reducible refine (AW _ hTm).mono ?_); rintro e wn ⟨rfl, hmn⟩))
      go_ret
      exact ⟨rfl, Mm.ext hmn⟩
end Go.Proofs.YtfepggdljhiemaaDoor
