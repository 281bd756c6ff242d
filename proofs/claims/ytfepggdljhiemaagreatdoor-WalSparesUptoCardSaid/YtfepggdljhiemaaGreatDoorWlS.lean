import Derived.Test.YtfepggdljhiemaaGreatDoorWlI
import Derived.Test.YtfepggdljhiemaaGreatDoorFrU
/-! WalSpares. -/
set_option linter.unusedVariables false
set_option linter.unusedSimpArgs false
set_option maxRecDepth 100000
namespace Go.Proofs.YtfepggdljhiemaaGreatDoor
open Go.RowKit Gw

theorem Lt.lt {w : World} {g cap : Nat} {l : List UInt8} (h : Lt w g cap l) : g < w.heap.size := by
  obtain ⟨r, h1, _⟩ := h
  exact h1.lt
theorem RowsF.cellS {w : World} {b o n cap : Nat} {L : List (Value × List UInt8)} (h : RowsF w (.slice (some ⟨b, o, none⟩) n cap) L) {i : Nat} (hi : i < L.length) : w.cell? ⟨b, o + i, none⟩ = some L[i].1 := by
  obtain ⟨g, o', e, c, _⟩ := h.at hi
  injection e with e
  injection e with e1 e2
  subst e1 e2
  exact c
/-- what a log that took a body looks at stands apart from what is lent -/
theorem Wg.over {W w w3 w4 w5 : World} {p q P Q : Nat} {v u : Pv} {L M : List Nat} {l r h c g : Nat} {bw bw4 : Value} {s s4 : Ls} {O : List (Nat × TypeId × List Value)} (H : Wg W w p q P Q v u L M l r h c bw s O) (hg1 : w.heap.size ≤ g) (hg2 : g < w3.heap.size) (H4 : Wg W w4 p q P Q v u L M l r h c bw4 s4 O) (hn : ∀ k ∈ blks bw4, k ∈ blks bw ∨ w3.heap.size ≤ k) (hm : Mod [g] w4 w5) : Wg W w5 p q P Q v u L M l r h c bw4 s4 O := by
  refine H4.one hm (Nat.le_trans H.B.m.size hg1) (fun hh => by have := H.B.D.lt0 g hh; omega) (fun hh => by have := H.B.E.lt1 g hh; omega) (fun hh => ?_) (fun y hy e => ?_)
  · rcases hn g hh with h1 | h1
    · have := Ow.lt H.o g h1; omega
    · omega
  · have hlt : y.1 < w.heap.size := by
      rcases List.mem_append.1 hy with hy | hy
      · simp only [wO, List.mem_cons, List.not_mem_nil, or_false] at hy
        rcases hy with rfl | rfl | rfl
        · exact H.lg.b.lt
        · exact Rgn.lt H.rg
        · exact Blk.lt H.rh
      · exact (H.B.O y (List.mem_append_right _ hy)).2.2.2.lt
    omega
set_option maxRecDepth 1000000 in
set_option maxHeartbeats 40000000 in
theorem walSpares_core (iv0 : Value) (I : List (Value × List UInt8)) (W : World) (hb : RowsF W iv0 I) (hbl : ∀ y ∈ I, y.2.length ≤ 1048576) (hIl : I.length ≤ 1048576) (hT : TabC W) :
    Calls Tryz.prog 3 #[iv0] W fun e w' => e = .returned (.bool true) ∧ Mod [] W w' := by
  obtain ⟨aob, capb, rfl, _, _⟩ := hb.1.form
  have AW := fun w h => walake_any w h
  obtain ⟨c, hc⟩ : ∃ c, c = 8 := ⟨_, rfl⟩
  have PL : ∀ w, Calls Tryz.prog 5 #[.int .i64 7] w (PlaceP c w) := fun w => by
    have e : cP 7 = c := by rw [hc]; decide
    have := place_any 7 w ⟨by omega, by omega⟩
    rw [e] at this
    exact this
  unfold PlaceP at PL
  have K0 := dvW0 c 5 9 (by omega) (by omega) (by omega) (by omega)
  obtain ⟨m0, hm0⟩ : ∃ m, m = dev0 (c + 1) 64 := ⟨_, rfl⟩
  have hrow0 : m0.row.length ≤ 0 := by rw [hm0]; exact Nat.le_refl _
  rw [← hm0] at K0
  have NW := fun {w p q P Q v u L M r h} (B : Bw W w p q P Q v u L M (wO0 r h p P c)) => Wg.newAny B 5 9 (by omega) (by omega)
  obtain ⟨s0, hs0⟩ : ∃ s : Ls, s = ⟨[], 0, 9, 9, 5⟩ := ⟨_, rfl⟩
  rw [← hs0, show ((5 : Nat) : Int) = 5 from rfl, show ((9 : Nat) : Int) = 9 from rfl] at NW
  rw [← hs0] at K0
  obtain ⟨J, hJ⟩ : ∃ N, N = min I.length 200 := ⟨_, rfl⟩
  have HNJ := Lib.hid hJ
  have hJ2 : J ≤ 200 := by omega
  have ylen : (I.length : Int) ≤ 1048576 := by omega
  have hc1 : 1 ≤ c ∧ c ≤ 1000 := by omega
  have HC := Lib.hid hc
  clear hs0 hJ hc
  go_enter Tryz.func3, Tryz.ntmps3
  go_wp2_with (first
                | (go_at_call 5; refine (PL _).mono ?_; rintro e w1 ⟨r, p, q, L, h, P, Q, M, rfl, B1⟩)
                | (go_at_call 6; refine (NW B1).mono ?_; rintro e w2 ⟨l, rfl, H2, hm2, hl2⟩))
  obtain ⟨du, hdu⟩ : ∃ d, d = dvW c := ⟨_, rfl⟩
  have H3 : Wg W w2 p q P Q (Lv m0 0) du L M l r h c (.slice none 0 0) s0 [] := by rw [hdu, hm0]; exact H2
  clear B1 H2 hm2 hl2 NW PL hdu hm0
  go_loopw [9, 10, 11, 12, 13] (fun iv iw _ _ _ wr => ∃ j : Nat, iw = .int .i64 j ∧ j ≤ J ∧ KiE W p q P Q (Lv m0 0) du L M l r h c 5 9 iv j wr) (fun _ iw _ _ _ _ => J - (intOf iw).toNat)
  case atStart => exact ⟨0, rfl, Nat.zero_le _, s0, _, [], [], InsO.nil, H3, K0, (by intro x hx; cases hx), Nat.le_refl _⟩
  case round =>
    clear H3 K0
    obtain ⟨j, rfl, hj, s, bw, ls, O, hO, H, K, hB, hls⟩ := hrel
    obtain ⟨ai, capi, rfl, hcap, hOw⟩ := H.insF hO
    obtain ⟨m, hmm⟩ : ∃ m, m = ls.length := ⟨_, rfl⟩
    rw [← hmm] at hls hcap hOw ⊢
    have hO : InsO (.slice ai m capi) (ls.map (·.1)) O := by rw [hmm]; exact hO
    have ym : (m : Int) ≤ 200 := by omega
    have hlm : (ls.map (·.2)).length = m := by rw [List.length_map]; exact hmm.symm
    obtain ⟨cb, hcb⟩ : ∃ c, c = decide (j < J) := ⟨_, rfl⟩
    have HB := Lib.hid hcb
    have HM := Lib.hid hmm
    clear hcb hmm
    go_upto_region 7 with fail
    go_cut [51] (fun u wx => u = .bool cb ∧ wr = wx)
    case first =>
      by_cases h1 : j < I.length
      · have y1 : (j : Int) < I.length := by omega
        by_cases h2 : j < 200
        · have y2 : (j : Int) < 200 := by omega
          go_wp2_with fail
          go_meet
          exact ⟨by rw [HB.out, decide_eq_true (show j < J by have := HNJ.out; omega)]; try (simp; omega), rfl⟩
        · have y2 : (200 : Int) ≤ j := by omega
          go_wp2_with fail
          go_meet
          exact ⟨by rw [HB.out, decide_eq_false (show ¬ j < J by have := HNJ.out; omega)]; try (simp; omega), rfl⟩
      · have y1 : (I.length : Int) ≤ j := by omega
        go_wp2_with fail
        go_meet
        exact ⟨by rw [HB.out, decide_eq_false (show ¬ j < J by have := HNJ.out; omega)]; try (simp; omega), rfl⟩
    case rest =>
    obtain ⟨rfl, rfl⟩ := hcut
    cases cb with
    | true =>
      have hlt : j < J := of_decide_eq_true HB.out.symm
      have hjo : j < I.length := by have := HNJ.out; omega
      have y1 : (j : Int) < I.length := by omega
      have hbj := hb.2 _ (List.getElem_mem hjo)
      have hblj := hbl _ (List.getElem_mem hjo)
      obtain ⟨lb, lo, rfl, _, _⟩ := hb.at hjo
      obtain ⟨⟨ub, Bd⟩, hxb⟩ : ∃ x, x = I[j] := ⟨_, rfl⟩
      have z0 : ∀ {w'}, Mod [] W w' → w'.cell? ⟨lb, lo + j, none⟩ = some ub := fun hm => by rw [(hb.ext hm).cellS hjo, ← hxb]
      rw [← hxb] at hbj hblj
      dsimp only at hbj hblj
      obtain ⟨au, capu, rfl, _, _⟩ := hbj.form
      have LE := fun w h => lent_any Bd (.slice au Bd.length capu) w h (by omega)
      have KE := fun {w g cap} h hv => kept_any g cap Bd (.slice au Bd.length capu) w h hv
      have OV := fun {w g cap} h => over_any g cap Bd w h (by omega)
      have AP := fun {w} (H : Wg W w p q P Q (Lv m0 0) du L M l r h c bw s O) {xv} (hv : Bs w xv Bd) => H.append hT hv K.lo hc1.2 (by omega)
      unfold WAppP at AP
      have K1 := K.app Bd
      have hzr := z0 H.B.m
      have hbr := hbj.ext H.B.m
      have hlH := H.lg.b.lt
      have hbH := fun k hk => Ow.lt H.o k hk
      by_cases g : s.appE (c * 64) Bd = 0
      · rw [if_pos g] at K1
        rw [g] at AP
        obtain ⟨s4, hs4⟩ : ∃ x, x = s.app (c * 64) Bd := ⟨_, rfl⟩
        obtain ⟨N4, hN4⟩ : ∃ x, x = s.appN (c * 64) Bd := ⟨_, rfl⟩
        rw [← hs4] at AP K1
        rw [← hN4] at AP
        clear hs4 hN4 g
        go_wp2_with (first
                      | (with_reducible refine st_bslice ?_)
                      | (go_at_call 7; (with_reducible refine (LE _ hbr).mono ?_); rintro e w3 ⟨gl, capl, rfl, hgl, hL3, hm3⟩; have H3 := H.ext hm3; have hs3 := hL3.bs)
                      | (go_at_call 8; (with_reducible refine (AP H3 hs3).mono ?_); rintro e w4 ⟨rfl, bw4, H4, hm4, hn4⟩; have z4 := z0 H4.B.m; have hL4 := hL3.mod hm4 (fun hh => (List.mem_cons.1 hh).elim (fun e => by omega) (fun hh => by have := hbH gl hh; omega)); have hb4 := hbj.ext H4.B.m)
                      | (go_at_call 9; (with_reducible refine (KE hL4 hb4).mono ?_); rintro e w5 ⟨rfl, hm5⟩; have H5 := H4.ext hm5; have hL5 := hL4.ext hm5)
                      | (go_at_call 10; (with_reducible refine (OV hL5).mono ?_); rintro e w6 ⟨rfl, hm6⟩; have H6 := H.over hgl hL3.lt H5 hn4 hm6; have z6 := z0 H6.B.m))
        refine StopOp.go rfl fun K hK => ?_
        refine wp_bslice stRow [.slice au Bd.length capu] rfl (by decide) (by rfl) (by simp [Value.cells]) ?_
        intro gi w7 hgi1 hgi2 hm7 hX7
        simp only [put_some, List.set_cons_succ, List.set_cons_zero]
        refine hK _ _ ?_
        clear hK K
        have H7 := H6.ext hm7
        have hO7 := H7.ins hO
        rw [List.length_map, ← HM.out] at hO7
        have hS7 : Sl w7 1 (.slice (some ⟨gi, 0, none⟩) 1 1) 1 [.slice au Bd.length capu] := (Ow.of_blk (rest := []) (show Blk w7 gi 33 ([.slice au Bd.length capu] ++ []) from hX7) (Nat.le_refl _) (by omega) rfl rfl : Ow w7 33 1 (.slice (some ⟨gi, 0, none⟩) 1 1) 1 [.slice au Bd.length capu]).sl
        go_wp2_with (with_reducible refine st_append ?_)
        refine StopOp.go rfl fun K hK => ?_
        refine wp_append_kp stRow (by rfl) (by rfl) hO7 hS7 (by simp [Value.oneCell']) (by omega) (by omega) (by omega) ?_
        intro v8 w8 ho8 hm8 hn8 hkp
        simp only [put_some, List.set_cons_succ, List.set_cons_zero]
        refine hK _ _ ?_
        clear hK K
        obtain ⟨O8, H8, hO8⟩ := H7.insC (x := (.slice au Bd.length capu, Bd)) hO hm8 (by rw [← HM.out]; exact ho8) hn8
        go_wp2_with fail
        go_roundw
        case rel => exact ⟨j + 1, by go_num, by omega, s4, bw4, ls ++ [(.slice au Bd.length capu, Bd)], O8, hO8, H8, by rw [List.map_append]; exact K1, fun x hx => (List.mem_append.1 hx).elim (hB x) (fun e => by rw [List.mem_singleton.1 e]; exact hbj), by rw [List.length_append]; simp; have := HM.out; omega⟩
        case measure => simp [intOf]; omega
      · rw [if_neg g] at K1
        obtain ⟨s4, hs4⟩ : ∃ x, x = s.app (c * 64) Bd := ⟨_, rfl⟩
        obtain ⟨N4, hN4⟩ : ∃ x, x = s.appN (c * 64) Bd := ⟨_, rfl⟩
        obtain ⟨E, hE⟩ : ∃ E, E = s.appE (c * 64) Bd := ⟨_, rfl⟩
        rw [← hE] at g AP
        rw [← hs4] at AP K1
        rw [← hN4] at AP
        have dg : decide (E = 0) = false := decide_eq_false g
        have dg2 : (E == 0) = false := by simpa using g
        clear hs4 hN4 hE
        go_wp2_with (first
                      | (go_at_call 7; (with_reducible refine (LE _ hbr).mono ?_); rintro e w3 ⟨gl, capl, rfl, hgl, hL3, hm3⟩; have H3 := H.ext hm3; have hs3 := hL3.bs)
                      | (go_at_call 8; (with_reducible refine (AP H3 hs3).mono ?_); rintro e w4 ⟨rfl, bw4, H4, hm4, hn4⟩; have z4 := z0 H4.B.m; have hL4 := hL3.mod hm4 (fun hh => (List.mem_cons.1 hh).elim (fun e => by omega) (fun hh => by have := hbH gl hh; omega)); have hb4 := hbj.ext H4.B.m)
                      | (go_at_call 9; (with_reducible refine (KE hL4 hb4).mono ?_); rintro e w5 ⟨rfl, hm5⟩; have H5 := H4.ext hm5; have hL5 := hL4.ext hm5)
                      | (go_at_call 10; (with_reducible refine (OV hL5).mono ?_); rintro e w6 ⟨rfl, hm6⟩; have H6 := H.over hgl hL3.lt H5 hn4 hm6))
        go_roundw
        case rel => exact ⟨j + 1, by go_num, by omega, s4, bw4, ls, O, hO, H6, K1, hB, by have := HM.out; omega⟩
        case measure => simp [intOf]; omega
    | false =>
      obtain ⟨m2, n2, s2, B2, n3, g1, K2, g3, g4, g5, g6, g7, _⟩ := epoch_end (i := 1) K (by decide) (fun hi => by omega)
      have FL := fun {w} (H : Wg W w p q P Q (Lv m0 0) du L M l r h c bw s O) => H.flush K.lo hc1.2 K.sz K.dur (Nat.zero_le _) (by show m0.row.length ≤ _; omega)
      unfold WFluP at FL
      rw [g1] at FL
      dsimp only at FL
      have hl32 : ∀ x ∈ ls.map (·.2), x.length ≤ 32 := K.rw.l
      have hfl2 : 9 + (ls.map (·.2)).length < 18446744073709551616 := by omega
      have hc8 := HC.out
      obtain ⟨r1, r2, r3⟩ := (K2.scanN (n' := n3)).scan
      obtain ⟨n4, hn4⟩ : ∃ n, n = n3 + chK 64 0 (0 + c * 64) := ⟨_, rfl⟩
      obtain ⟨r4, r5, r6⟩ := (K2.scanN (n' := n4)).scan
      have hBB : B2 = abs m2 64 64 (c * 64) := by
        have := K2.scan.1
        rw [g5] at this
        injection this with _ this
        injection this with _ this
      rw [← hBB, ← hn4] at r1
      rw [← hBB] at r4
      obtain ⟨n5, hn5⟩ : ∃ n, n = n4 + chK 64 0 (0 + c * 64) := ⟨_, rfl⟩
      rw [← hn5] at r4
      have SC := fun {w L bw} (H : Wg W w p q P Q (Lv m2 n2) du L M l r h c bw s2 O) => H.scanY 5 9 hT hc1.2 hc1.1 K2.sz K2.dur (by show n2 ≤ _; omega) (by omega) (by omega) g5
      have SC2 := fun {w L bw} (H : Wg W w p q P Q (Lv m2 n3) du L M l r h c bw s2 O) => H.scanY 5 9 hT hc1.2 hc1.1 K2.sz K2.dur (by show n3 ≤ _; omega) (by omega) (by omega) r1
      have SC3 := fun {w L bw} (H : Wg W w p q P Q (Lv m2 n4) du L M l r h c bw s2 O) => H.scanY 5 9 hT hc1.2 hc1.1 K2.sz K2.dur (by show n4 ≤ _; omega) (by omega) (by omega) r4
      unfold WScY at SC SC2 SC3
      have ML := fun (Kf : List Fi) (hKf : Kf.map Fi.d = rowS B2 5 9 0) => map_s hKf (by omega) hl32 hfl2 g7
      have hRl := rowS_len (b := B2) (e := 5) B2.length 9 0 (by omega)
      have hBl : B2.length ≤ 512 := by rw [hBB, abs_len]; omega
      have hKl : ∀ Kf : List Fi, Kf.map Fi.d = rowS B2 5 9 0 → Kf.length ≤ 10000 := fun Kf h => by
        have := congrArg List.length h
        rw [List.length_map] at this
        omega
      obtain ⟨EN, hEN⟩ : ∃ n, n = endF (rowS B2 5 9 0) 0 := ⟨_, rfl⟩
      rw [← hEN, show ((5 : Nat) : Int) = 5 from rfl, show ((9 : Nat) : Int) = 9 from rfl] at SC SC2 SC3
      have hml : m ≤ ls.length ∧ ls.length ≤ m := by have := HM.out; omega
      clear hEN g1 g3 g4 g5 g6 r1 r2 r3 r4 r5 r6 hn4 hn5 hBB K2 hRl hBl hc8 K
      go_wp2_with (first
                    | (with_reducible refine st_bslice ?_)
                    | (go_at_call 11; (with_reducible refine (FL H).mono ?_); rintro e w5 ⟨rfl, bw5, L5, H5, hm5, _⟩)
                    | (go_at_call 12; (with_reducible refine (SC H5).mono ?_); rintro e w6 ⟨xv, Kf, rfl, hKf, hFr, H6, hm6⟩; obtain ⟨aox, capx, rfl, _, _⟩ := Sl.form hFr.ow.sl)
                    | (go_at_call 12; (with_reducible refine (SC2 H6).mono ?_); rintro e w7 ⟨yv, Kg, rfl, hKg, hGr, H7, hm7⟩; obtain ⟨aoy, capy, rfl, _, _⟩ := Sl.form hGr.ow.sl; have hp5 : ∀ k ∈ [p], k < w5.heap.size := (fun k hk => by have e : k = p := (by simpa using hk); exact e ▸ H5.B.D.b.lt); have hFr7 := hFr.mod hm7 (fun k hk hh => by have := hFr.nw k hk; have := hp5 k hh; omega) (fun x hx k hk hh => by have := (hFr.ob hx).2 k hk; have := hp5 k hh; omega); have R7 := H7.rows hO hB; have ms7 := ML Kf hKf; have FI7 := first_any Kf ls (.slice aox Kf.length capx) (.slice ai m capi) 5 9 w7 hFr7.r R7 (by have := ms7.1; rw [List.length_map] at this; exact this) (fun i hi => by obtain ⟨x, hx1, hx2⟩ := ms7.2 i (by rw [List.length_map]; exact hi); exact ⟨x, hx1, by rw [hx2]; simp⟩) (by omega) (by omega); rw [show ((5 : Nat) : Int) = 5 from rfl, show ((9 : Nat) : Int) = 9 from rfl] at FI7)
                    | (go_at_call 13; (with_reducible refine (FI7).mono ?_); rintro e w8 ⟨rfl, hm8⟩; have hFr8 := hFr7.ext hm8; have hGr8 := hGr.ext hm8; have SF := sameFrs_yes Kf Kg (.slice aox Kf.length capx) (.slice aoy Kg.length capy) w8 hFr8.r hGr8.r (dd_f (hKf.trans hKg.symm)))
                    | (go_at_call 14; (with_reducible refine (SF).mono ?_); rintro e w9 ⟨rfl, hm9⟩; have hFr9 := hFr8.ext hm9; have hGr9 := hGr8.ext hm9; have H9 := (H7.ext hm8).ext hm9))
      refine StopOp.gw rfl fun K hK => ?_
      refine wp_bslice stFrow [.slice aox Kf.length capx, .slice aoy Kg.length capy] rfl (by decide) (by rfl) (by simp [Value.cells]) ?_
      intro qb wa hqb1 hqb2 hma hXa
      simp only [put_some, List.set_cons_succ, List.set_cons_zero]
      refine hK _ _ ?_
      clear hK K
      have hQa : Blk wa qb 40 [.slice aox Kf.length capx, .slice aoy Kg.length capy] := hXa
      have Ha := H9.ext hma
      have AF := apart2_any Kf Kg (.slice aox Kf.length capx) (.slice aoy Kg.length capy) qb w5.heap.size w6.heap.size wa hQa (hFr9.ext hma) (hGr9.ext hma) hm6.size hFr.ow.lt hFr.lt (hKl Kf hKf) (hKl Kg hKg) (fi_ok hKf) (fi_ok hKg)
      go_wp2_with (first
                    | (go_at_call 15; (with_reducible refine (AF).mono ?_); rintro e wb ⟨rfl, G, hGm, hGk⟩; have Hb := H5.far Ha hGm (fun k hk => (hGk k hk).1))
                    | (go_at_call 12; (with_reducible refine (SC3 Hb).mono ?_); rintro e wc ⟨zv, Kh, rfl, hKh, hHr, Hc, hmc⟩; have Rc := Hc.rows hO hB; have msc := ML Kh hKh; have FIc := first_any Kh ls zv (.slice ai m capi) 5 9 wc hHr.r Rc (by have := msc.1; rw [List.length_map] at this; exact this) (fun i hi => by obtain ⟨x, hx1, hx2⟩ := msc.2 i (by rw [List.length_map]; exact hi); exact ⟨x, hx1, by rw [hx2]; simp⟩) (by omega) (by omega); rw [show ((5 : Nat) : Int) = 5 from rfl, show ((9 : Nat) : Int) = 9 from rfl] at FIc)
                    | (go_at_call 13; (with_reducible refine (FIc).mono ?_); rintro e wd ⟨rfl, hmd⟩; have Md := Hc.B.m.ext hmd; have hTd := hT.ext Md)
                    | (go_at_call 16; (with_reducible refine (AW _ hTd).mono ?_); rintro e we ⟨rfl, hme⟩))
      go_ret
      exact ⟨rfl, Md.ext hme⟩
end Go.Proofs.YtfepggdljhiemaaGreatDoor
