import Derived.Test.YtfepggdljhiemaaDoorWlK
/-! WalEpochs. -/
set_option linter.unusedVariables false
set_option linter.unusedSimpArgs false
set_option maxRecDepth 100000
namespace Go.Proofs.YtfepggdljhiemaaDoor
open Go.RowKit Gw

def RowsRW (w : World) (v : Value) (LL : List (Value × List (Value × List UInt8))) : Prop := Sl w 1 v LL.length (LL.map (·.1)) ∧ ∀ x ∈ LL, RowsF w x.1 x.2
theorem RowsRW.cellAt {w : World} {ao : Option Addr} {n cap : Nat} {LL : List (Value × List (Value × List UInt8))} (h : RowsRW w (.slice ao n cap) LL) {i : Nat} (hi : i < LL.length) : ∃ b o, ao = some ⟨b, o, none⟩ ∧ w.cell? ⟨b, o + i, none⟩ = some LL[i].1 := by
  have hne : LL.map (·.1) ≠ [] := fun h0 => by have := congrArg List.length h0; simp at this; rw [this] at hi; simp at hi
  obtain ⟨b, o, c, hv, _, _, hc⟩ := Sl.at h.1 hne
  injection hv with e1 e2 e3
  exact ⟨b, o, e1, hc i _ (by simp [hi])⟩
theorem RowsRW.cell {w : World} {b o n cap : Nat} {LL : List (Value × List (Value × List UInt8))} (h : RowsRW w (.slice (some ⟨b, o, none⟩) n cap) LL) {i : Nat} (hi : i < LL.length) : w.cell? ⟨b, o + i, none⟩ = some LL[i].1 := by
  obtain ⟨g, o', e, c⟩ := RowsRW.cellAt h hi
  injection e with e
  injection e with e1 e2
  subst e1 e2
  exact c
theorem RowsRW.ext {w w' : World} {v : Value} {LL : List (Value × List (Value × List UInt8))} (h : RowsRW w v LL) (hm : Mod [] w w') : RowsRW w' v LL := ⟨Sl.ext h.1 hm, fun x hx => (h.2 x hx).ext hm⟩
set_option maxRecDepth 1000000 in
set_option maxHeartbeats 40000000 in
theorem walEpochs_core (lv : Value) (LL : List (Value × List (Value × List UInt8))) (W : World) (hb : RowsRW W lv LL) (hRl : ∀ x ∈ LL, x.2.length ≤ 1048576 ∧ ∀ y ∈ x.2, y.2.length ≤ 1048576) (hLl : LL.length ≤ 1048576) (hT : TabC W) :
    Calls Tryd.prog 4 #[lv] W fun e w' => e = .returned (.bool true) ∧ Mod [] W w' := by
  obtain ⟨aol, capl, rfl, _, _⟩ := Sl.form hb.1
  have AW := fun w h => walake_any w h
  obtain ⟨c, hc⟩ : ∃ c, c = 8 := ⟨_, rfl⟩
  have PL : ∀ w, Calls Tryd.prog 18 #[.int .i64 7] w (PlaceP c w) := fun w => by
    have e : cP 7 = c := by rw [hc]; decide
    have := place_any 7 w ⟨by omega, by omega⟩
    rw [e] at this
    exact this
  unfold PlaceP at PL
  have K0 := dvW0 c 1 0 (by omega) (by omega) (by omega) (by omega)
  obtain ⟨m0, hm0⟩ : ∃ m, m = dev0 (c + 1) 64 := ⟨_, rfl⟩
  have hrow0 : m0.row.length ≤ 0 := by rw [hm0]; exact Nat.le_refl _
  rw [← hm0] at K0
  have NW := fun {w p q P Q v u L M r h} (B : Bw W w p q P Q v u L M (wO0 r h p P c)) => Wg.newAny B 1 0 (by omega) (by omega)
  obtain ⟨s0, hs0⟩ : ∃ s : Ls, s = ⟨[], 0, 0, 0, 1⟩ := ⟨_, rfl⟩
  rw [← hs0, show ((1 : Nat) : Int) = 1 from rfl, show ((0 : Nat) : Int) = 0 from rfl] at NW
  rw [← hs0] at K0
  obtain ⟨J, hJ⟩ : ∃ N, N = min LL.length 12 := ⟨_, rfl⟩
  have HNJ := Lib.hid hJ
  have hJ2 : J ≤ 12 := by omega
  have ylen : (LL.length : Int) ≤ 1048576 := by omega
  have hc1 : 1 ≤ c ∧ c ≤ 1000 := by omega
  have HC := Lib.hid hc
  clear hs0 hJ hc
  go_enter Tryd.func4, Tryd.ntmps4
  go_wp2_with (first
                | (go_at_call 18; refine (PL _).mono ?_; rintro e w1 ⟨r, p, q, L0, h, P, Q, M, rfl, B1⟩)
                | (go_at_call 16; refine (NW B1).mono ?_; rintro e w2 ⟨l, rfl, H2, hm2, hl2⟩))
  obtain ⟨du, hdu⟩ : ∃ d, d = dvW c := ⟨_, rfl⟩
  have H3 : Wg W w2 p q P Q (Lv m0 0) du L0 M l r h c (.slice none 0 0) s0 [] := by rw [hdu, hm0]; exact H2
  clear B1 H2 hm2 hl2 NW PL hdu
  have HM0 := Lib.hid hm0
  clear hm0
  go_loopw [9, 10, 11, 12, 13, 14, 15, 16, 17] (fun iw _ _ _ _ _ _ _ _ wr => ∃ (i f n : Nat) (m : Dm) (s : Ls) (L : List Nat) (bw : Value), iw = .int .i64 i ∧ i ≤ J ∧ Wg W wr p q P Q (Lv m n) du L M l r h c bw s [] ∧ Kp c (Lv m n) s (i + 1) f [] 0 ∧ n ≤ i * 5000 ∧ m.row.length ≤ i * 1000 ∧ f ≤ i * 200 ∧ (i = 0 → m = m0 ∧ n = 0)) (fun iw _ _ _ _ _ _ _ _ _ => J - (intOf iw).toNat)
  case atStart => exact ⟨0, 0, 0, m0, s0, L0, _, rfl, Nat.zero_le _, H3, K0, Nat.le_refl _, hrow0, Nat.le_refl _, fun _ => ⟨rfl, rfl⟩⟩
  case round =>
    clear H3 K0 hrow0
    obtain ⟨i, f, n, m, s, L, bw, rfl, hi, H, K, hn, hrow, hf, h0⟩ := hrel
    obtain ⟨cb, hcb⟩ : ∃ c, c = decide (i < J) := ⟨_, rfl⟩
    have HB := Lib.hid hcb
    clear hcb
    go_upto_region 6 with fail
    go_cut [46] (fun u wx => u = .bool cb ∧ wr = wx)
    case first =>
      by_cases h1 : i < LL.length
      · have y1 : (i : Int) < LL.length := by omega
        by_cases h2 : i < 12
        · have y2 : (i : Int) < 12 := by omega
          go_wp2_with fail
          go_meet
          exact ⟨by rw [HB.out, decide_eq_true (show i < J by have := HNJ.out; omega)]; try (simp; omega), rfl⟩
        · have y2 : (12 : Int) ≤ i := by omega
          go_wp2_with fail
          go_meet
          exact ⟨by rw [HB.out, decide_eq_false (show ¬ i < J by have := HNJ.out; omega)]; try (simp; omega), rfl⟩
      · have y1 : (LL.length : Int) ≤ i := by omega
        go_wp2_with fail
        go_meet
        exact ⟨by rw [HB.out, decide_eq_false (show ¬ i < J by have := HNJ.out; omega)]; try (simp; omega), rfl⟩
    case rest =>
    obtain ⟨rfl, rfl⟩ := hcut
    cases cb with
    | true =>
      have hlt : i < J := of_decide_eq_true HB.out.symm
      have hio : i < LL.length := by have := HNJ.out; omega
      have yi : (i : Int) < LL.length := by omega
      have yi2 : (i : Int) < 12 := by omega
      have hRi := hb.2 _ (List.getElem_mem hio)
      have hRli := hRl _ (List.getElem_mem hio)
      obtain ⟨ll, lo, rfl, _⟩ := RowsRW.cellAt hb hio
      obtain ⟨⟨xv, I⟩, hxI⟩ : ∃ x, x = LL[i] := ⟨_, rfl⟩
      have zl : ∀ {w'}, Mod [] W w' → w'.cell? ⟨ll, lo + i, none⟩ = some xv := fun hm => by rw [(hb.ext hm).cell hio, ← hxI]
      rw [← hxI] at hRi hRli
      dsimp only at hRi hRli
      obtain ⟨hIl, hbl⟩ := hRli
      obtain ⟨aob, capb, rfl, _, _⟩ := hRi.1.form
      have yI : (I.length : Int) ≤ 1048576 := by omega
      have he1 : i + 1 ≠ 0 := by omega
      have hKt := K.rw.t
      have LA := fun {w bw} (h : Lg w l r bw s) => lLast_any l r bw s w h
      rw [hKt, List.length_nil, Nat.add_zero] at LA
      have G := H.lg
      obtain ⟨e1, hee⟩ : ∃ e, e = i + 1 := ⟨_, rfl⟩
      rw [← hee] at K he1
      have HE := Lib.hid hee
      have yf : (f : Int) ≤ 2400 := by omega
      obtain ⟨J2, hJ2'⟩ : ∃ N, N = min I.length 200 := ⟨_, rfl⟩
      have HNJ2 := Lib.hid hJ2'
      have hJ2b : J2 ≤ 200 := by omega
      clear hJ2' hee HB hxI hKt
      go_wp2_with (go_at_call 12; (with_reducible refine (LA G).mono ?_); rintro e w3 ⟨rfl, rfl⟩)
      go_loopw [11, 12, 13, 14] (fun iv kx _ _ wx => ∃ j : Nat, kx = .int .i64 j ∧ j ≤ J2 ∧ KiE W p q P Q (Lv m n) du L M l r h c e1 f iv j wx) (fun _ kx _ _ _ => J2 - (intOf kx).toNat)
      case atStart => exact ⟨0, rfl, Nat.zero_le _, s, bw, [], [], InsO.nil, H, K, (by intro x hx; cases hx), Nat.le_refl _⟩
      case round =>
        clear H K G LA
        obtain ⟨j, rfl, hj, s1, bw1, ls, O, hO, H, K, hB, hls⟩ := hrel
        obtain ⟨ai, capi, rfl, hcap, hOw⟩ := H.insF hO
        obtain ⟨mm, hmm⟩ : ∃ mm, mm = ls.length := ⟨_, rfl⟩
        rw [← hmm] at hls hcap hOw ⊢
        have hO : InsO (.slice ai mm capi) (ls.map (·.1)) O := by rw [hmm]; exact hO
        have ym : (mm : Int) ≤ 200 := by omega
        have hlm : (ls.map (·.2)).length = mm := by rw [List.length_map]; exact hmm.symm
        obtain ⟨cb, hcb⟩ : ∃ c, c = decide (j < J2) := ⟨_, rfl⟩
        have HB := Lib.hid hcb
        have HM := Lib.hid hmm
        have zlr := zl H.B.m
        clear hcb hmm
        go_upto_region 11 with fail
        go_cut [61] (fun u wx => u = .bool cb ∧ wr = wx)
        case first =>
          by_cases h1 : j < I.length
          · have y1 : (j : Int) < I.length := by omega
            by_cases h2 : j < 200
            · have y2 : (j : Int) < 200 := by omega
              go_wp2_with fail
              go_meet
              exact ⟨by rw [HB.out, decide_eq_true (show j < J2 by have := HNJ2.out; omega)]; try (simp; omega), rfl⟩
            · have y2 : (200 : Int) ≤ j := by omega
              go_wp2_with fail
              go_meet
              exact ⟨by rw [HB.out, decide_eq_false (show ¬ j < J2 by have := HNJ2.out; omega)]; try (simp; omega), rfl⟩
          · have y1 : (I.length : Int) ≤ j := by omega
            go_wp2_with fail
            go_meet
            exact ⟨by rw [HB.out, decide_eq_false (show ¬ j < J2 by have := HNJ2.out; omega)]; try (simp; omega), rfl⟩
        case rest =>
        obtain ⟨rfl, rfl⟩ := hcut
        cases cb with
        | true =>
          have hlt2 : j < J2 := of_decide_eq_true HB.out.symm
          have hjo : j < I.length := by have := HNJ2.out; omega
          have y1 : (j : Int) < I.length := by omega
          have hbj := hRi.2 _ (List.getElem_mem hjo)
          have hblj := hbl _ (List.getElem_mem hjo)
          obtain ⟨lb, lo2, rfl, _, _⟩ := hRi.at hjo
          obtain ⟨⟨ub, Bd⟩, hxb⟩ : ∃ x, x = I[j] := ⟨_, rfl⟩
          have z0 : ∀ {w'}, Mod [] W w' → w'.cell? ⟨lb, lo2 + j, none⟩ = some ub := fun hm => by rw [(hRi.ext hm).cell hjo, ← hxb]
          rw [← hxb] at hbj hblj
          dsimp only at hbj hblj
          obtain ⟨au, capu, rfl, _, _⟩ := hbj.form
          have CB := fun w h => copy_any Bd (.slice au Bd.length capu) w h (by omega)
          have AP := fun {w} (H : Wg W w p q P Q (Lv m n) du L M l r h c bw1 s1 O) {xv} (hv : Bs w xv Bd) => H.append hT hv K.lo hc1.2 (by omega)
          unfold WAppP at AP
          have K1 := K.app Bd
          have hzr := z0 H.B.m
          have hbr := hbj.ext H.B.m
          by_cases g : s1.appE (c * 64) Bd = 0
          · rw [if_pos g] at K1
            rw [g] at AP
            obtain ⟨s4, hs4⟩ : ∃ x, x = s1.app (c * 64) Bd := ⟨_, rfl⟩
            obtain ⟨N4, hN4⟩ : ∃ x, x = s1.appN (c * 64) Bd := ⟨_, rfl⟩
            rw [← hs4] at AP K1
            rw [← hN4] at AP
            clear hs4 hN4 g
            go_wp2_with (first
                          | (with_reducible refine st_bslice ?_)
                          | (go_at_call 20; (with_reducible refine (CB _ hbr).mono ?_); rintro e w3 ⟨u3, rfl, ho3, _, hm3⟩; have H3 := H.ext hm3; have hs3 := ho3.bs)
                          | (go_at_call 7; (with_reducible refine (AP H3 hs3).mono ?_); rintro e w4 ⟨rfl, bw4, H4, hm4, _⟩; have z4 := z0 H4.B.m; have zl4 := zl H4.B.m))
            refine StopOp.go rfl fun K hK => ?_
            refine wp_bslice stRow [.slice au Bd.length capu] rfl (by decide) (by rfl) (by simp [Value.cells]) ?_
            intro gi w5 hgi1 hgi2 hm5 hX5
            simp only [put_some, List.set_cons_succ, List.set_cons_zero]
            refine hK _ _ ?_
            clear hK K
            have H5 := H4.ext hm5
            have hO5 := H5.ins hO
            rw [List.length_map, ← HM.out] at hO5
            have hS5 : Sl w5 1 (.slice (some ⟨gi, 0, none⟩) 1 1) 1 [.slice au Bd.length capu] := (Ow.of_blk (rest := []) (show Blk w5 gi 23 ([.slice au Bd.length capu] ++ []) from hX5) (Nat.le_refl _) (by omega) rfl rfl : Ow w5 23 1 (.slice (some ⟨gi, 0, none⟩) 1 1) 1 [.slice au Bd.length capu]).sl
            go_wp2_with (with_reducible refine st_append ?_)
            refine StopOp.go rfl fun K hK => ?_
            refine wp_append_kp stRow (by rfl) (by rfl) hO5 hS5 (by simp [Value.oneCell']) (by omega) (by omega) (by omega) ?_
            intro v6 w6 ho6 hm6 hn6 hkp
            simp only [put_some, List.set_cons_succ, List.set_cons_zero]
            refine hK _ _ ?_
            clear hK K
            obtain ⟨O6, H6, hO6⟩ := H5.insC (x := (.slice au Bd.length capu, Bd)) hO hm6 (by rw [← HM.out]; exact ho6) hn6
            go_wp2_with fail
            go_roundw
            case rel => exact ⟨j + 1, by go_num, by omega, s4, bw4, ls ++ [(.slice au Bd.length capu, Bd)], O6, hO6, H6, by rw [List.map_append]; exact K1, fun x hx => (List.mem_append.1 hx).elim (hB x) (fun e => by rw [List.mem_singleton.1 e]; exact hbj), by rw [List.length_append]; simp; have := HM.out; omega⟩
            case measure => simp [intOf]; omega
          · rw [if_neg g] at K1
            obtain ⟨s4, hs4⟩ : ∃ x, x = s1.app (c * 64) Bd := ⟨_, rfl⟩
            obtain ⟨N4, hN4⟩ : ∃ x, x = s1.appN (c * 64) Bd := ⟨_, rfl⟩
            obtain ⟨E, hE⟩ : ∃ E, E = s1.appE (c * 64) Bd := ⟨_, rfl⟩
            rw [← hE] at g AP
            rw [← hs4] at AP K1
            rw [← hN4] at AP
            have dg : decide (E = 0) = false := decide_eq_false g
            have dg2 : (E == 0) = false := by simpa using g
            clear hs4 hN4 hE
            go_wp2_with (first
                          | (go_at_call 20; (with_reducible refine (CB _ hbr).mono ?_); rintro e w3 ⟨u3, rfl, ho3, _, hm3⟩; have H3 := H.ext hm3; have hs3 := ho3.bs)
                          | (go_at_call 7; (with_reducible refine (AP H3 hs3).mono ?_); rintro e w4 ⟨rfl, bw4, H4, hm4, _⟩))
            go_roundw
            case rel => exact ⟨j + 1, by go_num, by omega, s4, bw4, ls, O, hO, H4, K1, hB, by have := HM.out; omega⟩
            case measure => simp [intOf]; omega
        | false =>
          obtain ⟨m2, n2, s2, B2, n3, g1, K2, g3, g4, g5, g6, g7, g8⟩ := epoch_end K he1 (fun hi => by rw [(h0 hi).1, HM0.out]; exact ⟨rfl, (h0 hi).2⟩)
          have FL := fun {w} (H : Wg W w p q P Q (Lv m n) du L M l r h c bw1 s1 O) => H.flush K.lo hc1.2 K.sz K.dur (by show n ≤ _; omega) (by show m.row.length ≤ _; omega)
          unfold WFluP at FL
          rw [g1] at FL
          dsimp only at FL
          have EP := fun {w bw} (h : Lg w l r bw s2) => lEpoch_any l r bw s2 w h
          rw [K2.e] at EP
          have hl32 : ∀ x ∈ ls.map (·.2), x.length ≤ 32 := K.rw.l
          have hfl2 : f + (ls.map (·.2)).length < 18446744073709551616 := by omega
          have he1l : e1 < 18446744073709551616 := by have := HE.out; omega
          have hc8 := HC.out
          have SC := fun {w L bw} (H : Wg W w p q P Q (Lv m2 n2) du L M l r h c bw s2 O) => H.scanY e1 f hT hc1.2 hc1.1 K2.sz K2.dur (by show n2 ≤ _; omega) he1l (by omega) g5
          unfold WScY at SC
          have ht2 := K2.rw.t
          rw [hlm] at ht2
          obtain ⟨e2, hee2⟩ : ∃ e, e = (i + 1) + 1 := ⟨_, rfl⟩
          have hee3 : ((e2 : Nat) : Int) = (i : Int) + 2 := by omega
          have RS := fun {w L bw} (H : Wg W w p q P Q (Lv m2 n3) du L M l r h c bw s2 O) => H.reset e2 K2.lo hc1.2
          rw [hee3] at RS
          have K3 := (K2.scanN (n' := n3)).reset (e' := e2) (by omega)
          have hend : ∀ {w' L' bw'}, Wg W w' p q P Q (Lv m2 n3) du L' M l r h c bw' (s2.reset e2) O → ∃ (i' f n : Nat) (m : Dm) (s : Ls) (L : List Nat) (bw : Value), (i' = i + 1 ∧ i' ≤ J) ∧ Wg W w' p q P Q (Lv m n) du L M l r h c bw s [] ∧ Kp c (Lv m n) s (i' + 1) f [] 0 ∧ n ≤ i' * 5000 ∧ m.row.length ≤ i' * 1000 ∧ f ≤ i' * 200 ∧ (i' = 0 → m = m0 ∧ n = 0) := fun {w' L' bw'} H => ⟨i + 1, s2.t, n3, m2, _, L', bw', ⟨rfl, by omega⟩, H.drop, by rw [← hee2]; exact K3, by omega, by omega, by omega, fun h => by omega⟩
          have ML := fun (Kf : List Fi) (hKf : Kf.map Fi.d = rowS B2 e1 f 0) => map_s hKf he1l hl32 hfl2 g7
          have ML0 := fun (Kf : List Fi) (hKf : Kf.map Fi.d = rowS B2 e1 f 0) (hi : i = 0) => (map_d (hKf.trans (g8 hi))).1
          obtain ⟨EN, hEN⟩ : ∃ n, n = endF (rowS B2 e1 f 0) 0 := ⟨_, rfl⟩
          rw [← hEN] at SC
          have hml : mm ≤ ls.length ∧ ls.length ≤ mm := by have := HM.out; omega
          clear hEN g1 g3 g4 g5 g6 g7 g8 K2 K3 hee3 ht2 hc8 hn hrow K
          by_cases hi0 : i = 0
          · have d0 : decide ((i : Int) = 0) = true := decide_eq_true (by omega)
            have d1 : ((i : Int) == 0) = true := by simpa using hi0
            have HI0 := Lib.hid hi0
            clear hi0
            go_wp2_with (first
                          | (go_at_call 8; (with_reducible refine (FL H).mono ?_); rintro e w5 ⟨rfl, bw5, L5, H5, hm5, _⟩; have G5 := H5.lg)
                          | (go_at_call 11; (with_reducible refine (EP G5).mono ?_); rintro e w6 ⟨rfl, rfl⟩)
                          | (go_at_call 17; (with_reducible refine (SC H5).mono ?_); rintro e w6 ⟨xv, Kf, rfl, hKf, hFr, H6, hm6⟩; have G6 := H6.lg; have R6 := H6.rows hO hB; have ms := ML Kf hKf; have FI := first_any Kf ls xv (.slice ai mm capi) e1 f w6 hFr.r R6 (by have := ms.1; rw [List.length_map] at this; exact this) (fun i hi => by obtain ⟨x, hx1, hx2⟩ := ms.2 i (by rw [List.length_map]; exact hi); exact ⟨x, hx1, by rw [hx2]; simp⟩) (by omega) (by omega); have EP6 := G6; have hKl := ML0 Kf hKf HI0.out; rw [hlm] at hKl; obtain ⟨aok, capk, rfl, _, _⟩ := Sl.form hFr.ow.sl; rw [hKl] at FI ⊢)
                          | (go_at_call 11; (with_reducible refine (EP G6).mono ?_); rintro e w7 ⟨rfl, rfl⟩)
                          | (go_at_call 21; (with_reducible refine (FI).mono ?_); rintro e w7 ⟨rfl, hm7⟩; have H7 := H6.ext hm7)
                          | (go_at_call 9; (with_reducible refine (RS H7).mono ?_); rintro e w8 ⟨rfl, H8, hm8⟩))
            go_roundw
            case rel => obtain ⟨i', f', n', m', s', L', bw', ⟨rfl, q2⟩, q3⟩ := hend H8; exact ⟨_, f', n', m', s', L', bw', by go_num, q2, q3⟩
            case measure => simp [intOf]; omega
          · have d0 : decide ((i : Int) = 0) = false := decide_eq_false (by omega)
            have d1 : ((i : Int) == 0) = false := by simpa using hi0
            go_wp2_with (first
                          | (go_at_call 8; (with_reducible refine (FL H).mono ?_); rintro e w5 ⟨rfl, bw5, L5, H5, hm5, _⟩; have G5 := H5.lg)
                          | (go_at_call 11; (with_reducible refine (EP G5).mono ?_); rintro e w6 ⟨rfl, rfl⟩)
                          | (go_at_call 17; (with_reducible refine (SC H5).mono ?_); rintro e w6 ⟨xv, Kf, rfl, hKf, hFr, H6, hm6⟩; have G6 := H6.lg; have R6 := H6.rows hO hB; have ms := ML Kf hKf; have FI := first_any Kf ls xv (.slice ai mm capi) e1 f w6 hFr.r R6 (by have := ms.1; rw [List.length_map] at this; exact this) (fun i hi => by obtain ⟨x, hx1, hx2⟩ := ms.2 i (by rw [List.length_map]; exact hi); exact ⟨x, hx1, by rw [hx2]; simp⟩) (by omega) (by omega))
                          | (go_at_call 11; (with_reducible refine (EP G6).mono ?_); rintro e w7 ⟨rfl, rfl⟩)
                          | (go_at_call 21; (with_reducible refine (FI).mono ?_); rintro e w7 ⟨rfl, hm7⟩; have H7 := H6.ext hm7)
                          | (go_at_call 9; (with_reducible refine (RS H7).mono ?_); rintro e w8 ⟨rfl, H8, hm8⟩))
            go_roundw
            case rel => obtain ⟨i', f', n', m', s', L', bw', ⟨rfl, q2⟩, q3⟩ := hend H8; exact ⟨_, f', n', m', s', L', bw', by go_num, q2, q3⟩
            case measure => simp [intOf]; omega
    | false =>
      have Mr := H.B.m
      have hTr := hT.ext Mr
      go_wp2_with (go_at_call 19; (with_reducible refine (AW _ hTr).mono ?_); rintro e wn ⟨rfl, hmn⟩)
      go_ret
      exact ⟨rfl, Mr.ext hmn⟩
end Go.Proofs.YtfepggdljhiemaaDoor
