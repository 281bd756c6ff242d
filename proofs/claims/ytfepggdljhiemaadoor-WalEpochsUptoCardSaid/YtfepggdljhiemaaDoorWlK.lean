import Derived.Test.YtfepggdljhiemaaDoorWlI
/-! WalKept. -/
set_option linter.unusedVariables false
set_option linter.unusedSimpArgs false
set_option maxRecDepth 100000
namespace Go.Proofs.YtfepggdljhiemaaDoor
open Go.RowKit Gw

def BlW (w : World) (v : Value) (l : List Bool) : Prop := Sl w 1 v l.length (l.map Value.bool)
theorem BlW.cellAt {w : World} {ao : Option Addr} {n cap : Nat} {l : List Bool} (h : BlW w (.slice ao n cap) l) {j : Nat} (hj : j < l.length) : ∃ b o, ao = some ⟨b, o, none⟩ ∧ w.cell? ⟨b, o + j, none⟩ = some (.bool l[j]) := by
  have hne : l.map Value.bool ≠ [] := fun h0 => by have := congrArg List.length h0; simp at this; rw [this] at hj; simp at hj
  obtain ⟨b, o, c, hv, _, _, hc⟩ := Sl.at h hne
  injection hv with e1 e2 e3
  exact ⟨b, o, e1, hc j _ (by simp [hj])⟩
theorem RowsF.cell {w : World} {b o n cap : Nat} {L : List (Value × List UInt8)} (h : RowsF w (.slice (some ⟨b, o, none⟩) n cap) L) {i : Nat} (hi : i < L.length) : w.cell? ⟨b, o + i, none⟩ = some L[i].1 := by
  obtain ⟨g, o', e, c, _⟩ := h.at hi
  injection e with e
  injection e with e1 e2
  subst e1 e2
  exact c
set_option maxRecDepth 1000000 in
set_option maxHeartbeats 40000000 in
theorem walKept_core (ep sq0 : Nat) (iv0 : Value) (I : List (Value × List UInt8)) (gv : Value) (gs : List Bool) (a4 : Int) (fv : Value) (Fl : List (Int × Int)) (W : World) (hep : ep < 18446744073709551616) (hsq0 : sq0 < 18446744073709551616) (hb : RowsF W iv0 I) (hbl : ∀ y ∈ I, y.2.length ≤ 1048576) (hIl : I.length ≤ 1048576)
    (hg : BlW W gv gs) (w4 : i64 a4) (hF : Fs W fv Fl) (hFl : Fl.length ≤ 1048576) (hFo : Fl ≠ [] → ∀ b ∈ blks fv, b < W.heap.size) (hT : TabC W) :
    Calls Tryd.prog 6 #[.int .u64 (ep : Nat), .int .u64 (sq0 : Nat), iv0, gv, .int .i64 a4, fv] W fun e w' => e = .returned (.bool true) ∧ Mod [] W w' := by
  obtain ⟨aob, capb, rfl, _, _⟩ := hb.1.form
  obtain ⟨aog, capg, rfl, _, _⟩ := Sl.form hg
  obtain ⟨aof, capf, rfl, _, _⟩ := hF.form
  have AW := fun w h => walake_any w h
  obtain ⟨c, hc⟩ : ∃ c, c = 8 := ⟨_, rfl⟩
  have PL : ∀ w, Calls Tryd.prog 18 #[.int .i64 7] w (PlaceP c w) := fun w => by
    have e : cP 7 = c := by rw [hc]; decide
    have := place_any 7 w ⟨by omega, by omega⟩
    rw [e] at this
    exact this
  unfold PlaceP at PL
  obtain ⟨f, hf⟩ : ∃ f, f = sq0 % 1099511627776 := ⟨_, rfl⟩
  have hfl : f ≤ 1099511627775 := by omega
  have K0 := dvW0 c ep f (by omega) (by omega) hep (by omega)
  have hdv0 : dvW c = Lv (dev0 (c + 1) 64) 0 := rfl
  rw [← hdv0] at K0
  obtain ⟨dv, hdv⟩ : ∃ d, d = dvW c := ⟨_, rfl⟩
  have hdn : dv.n = 0 ∧ dv.m.row.length = 0 := by rw [hdv]; exact ⟨rfl, rfl⟩
  rw [← hdv] at PL K0
  have NW := fun {w p q P Q v u L M r h} (B : Bw W w p q P Q v u L M (wO0 r h p P c)) => Wg.newAny B ep f (by omega) (by omega)
  obtain ⟨s0, hs0⟩ : ∃ s : Ls, s = ⟨[], 0, f, f, ep⟩ := ⟨_, rfl⟩
  rw [← hs0] at NW K0
  have AR := fun {w p q L} (h : Pd w p q dv L) => pArm_any p q dv L a4 w h w4.2
  have hsz := arm_sz dv a4
  obtain ⟨E0, hE0⟩ : ∃ E : Int, E = if dv.off = true then 60 else 0 := ⟨_, rfl⟩
  rw [← hE0] at AR
  have CF := fun v w h => copyF_any Fl v w h (by omega)
  obtain ⟨J, hJ⟩ : ∃ N, N = min I.length 200 := ⟨_, rfl⟩
  have HN := Lib.hid hJ
  have HC := Lib.hid (And.intro hc hdn)
  have ylen : (I.length : Int) ≤ 1048576 := by omega
  have hJ2 : J ≤ 200 := by omega
  have HF := Lib.hid hf
  have hc1 : 1 ≤ c ∧ c ≤ 1000 := by omega
  clear hJ hE0 hdv0 hdv hs0 hc hdn hf
  go_enter Tryd.func6, Tryd.ntmps6
  go_upto_region 2 with (go_at_call 18; refine (PL _).mono ?_; rintro e w1 ⟨r, p, q, L0, h, P, Q, M, rfl, B1⟩)
  go_cut [1] (fun u wx => u = .int .u64 (f : Nat) ∧ w1 = wx)
  case first =>
    go_wp2_with fail
    go_meet
    exact ⟨by rw [HF.out]; simp [Int.natCast_emod]; try omega, rfl⟩
  case rest =>
  obtain ⟨rfl, rfl⟩ := hcut
  go_wp2_with (first
                | (go_at_call 16; refine (NW B1).mono ?_; rintro e w2 ⟨l, rfl, H2, hm2, hl2⟩; have D2 := H2.B.D)
                | (go_at_call 26; refine (AR D2).mono ?_; rintro e w3 ⟨rfl, hP3, hm3⟩))
  have H3 := H2.rd hP3 hm3
  have K3 := K0.arm a4 hP3.ok
  clear B1 H2 D2 hm2 hl2 hP3 hm3 NW PL K0
  go_loopw [19, 20, 21, 22, 23] (fun iv iw _ _ _ wr => ∃ j : Nat, iw = .int .i64 j ∧ j ≤ J ∧ KiP W p q P Q dv M l r h c ep f iv j wr) (fun _ iw _ _ _ _ => J - (intOf iw).toNat)
  case atStart => exact ⟨0, rfl, Nat.zero_le _, 0, s0, _, L0, _, [], [], InsO.nil, H3, K3, (by intro x hx; cases hx), Nat.le_refl _, (by rw [hsz.2, HC.out.2.1]; exact Nat.zero_le _), (by rw [hsz.1, HC.out.2.2]; exact Nat.zero_le _)⟩
  case round =>
    clear H3 K3 hsz AR
    obtain ⟨j, rfl, hj, k, s, v, L, bw, ls, O, hO, H, K, hB, hls, hvn, hvr⟩ := hrel
    obtain ⟨ai, capi, rfl, hcap, hOw⟩ := H.insF hO
    obtain ⟨m, hmm⟩ : ∃ m, m = ls.length := ⟨_, rfl⟩
    rw [← hmm] at hls hcap hOw ⊢
    have hO : InsO (.slice ai m capi) (ls.map (·.1)) O := by rw [hmm]; exact hO
    have ym : (m : Int) ≤ 200 := by omega
    have yf : (f : Int) ≤ 1099511627775 := by omega
    obtain ⟨cb, hcb⟩ : ∃ c, c = decide (j < J) := ⟨_, rfl⟩
    have HB := Lib.hid hcb
    have HM := Lib.hid hmm
    clear hcb hmm
    have hlm : (ls.map (·.2)).length = m := by rw [List.length_map]; exact HM.out.symm
    go_upto_region 9 with fail
    go_cut [67] (fun u wx => u = .bool cb ∧ wr = wx)
    case first =>
      by_cases h1 : j < I.length
      · have y1 : (j : Int) < I.length := by omega
        by_cases h2 : j < 200
        · have y2 : (j : Int) < 200 := by omega
          go_wp2_with fail
          go_meet
          exact ⟨by rw [HB.out, decide_eq_true (show j < J by have := HN.out; omega)]; try (simp; omega), rfl⟩
        · have y2 : (200 : Int) ≤ j := by omega
          go_wp2_with fail
          go_meet
          exact ⟨by rw [HB.out, decide_eq_false (show ¬ j < J by have := HN.out; omega)]; try (simp; omega), rfl⟩
      · have y1 : (I.length : Int) ≤ j := by omega
        go_wp2_with fail
        go_meet
        exact ⟨by rw [HB.out, decide_eq_false (show ¬ j < J by have := HN.out; omega)]; try (simp; omega), rfl⟩
    case rest =>
    obtain ⟨rfl, rfl⟩ := hcut
    cases cb with
    | true =>
      have hlt : j < J := of_decide_eq_true HB.out.symm
      have hjo : j < I.length := by have := HN.out; omega
      have y1 : (j : Int) < I.length := by omega
      have hbj := hb.2 _ (List.getElem_mem hjo)
      have hblj := hbl _ (List.getElem_mem hjo)
      obtain ⟨lb, lo, rfl, _, _⟩ := hb.at hjo
      obtain ⟨⟨ub, Bd⟩, hxb⟩ : ∃ x, x = I[j] := ⟨_, rfl⟩
      have z0 : ∀ {w'}, Mod [] W w' → w'.cell? ⟨lb, lo + j, none⟩ = some ub := fun hm => by rw [(hb.ext hm).cell hjo, ← hxb]
      rw [← hxb] at hbj hblj
      dsimp only at hbj hblj
      obtain ⟨au, capu, rfl, _, _⟩ := hbj.form
      have CB := fun w h => copy_any Bd (.slice au Bd.length capu) w h (by omega)
      have AP := fun {w} (H : Wg W w p q P Q v dv L M l r h c bw s O) {xv} (hv : Bs w xv Bd) => H.append hT hv K.lo hc1.2 (by omega)
      unfold WAppP at AP
      have K1 := K.app Bd
      have hor := appE_or s (c * 64) Bd
      have hNi : s.appE (c * 64) Bd = 0 → ((s.appN (c * 64) Bd : Nat) : Int) = (f : Int) + ((m : Int) + 1) := fun h0 => by
        rw [(app_yes h0).2, K.rw.t, hlm]
        omega
      obtain ⟨E, hE⟩ : ∃ E, E = s.appE (c * 64) Bd := ⟨_, rfl⟩
      obtain ⟨NI, hNI⟩ : ∃ N : Int, N = ((s.appN (c * 64) Bd : Nat) : Int) := ⟨_, rfl⟩
      rw [← hE, ← hNI] at AP hNi
      rw [← hE] at K1 hor
      obtain ⟨s1, hs1⟩ : ∃ x, x = s.app (c * 64) Bd := ⟨_, rfl⟩
      rw [← hs1] at AP K1
      obtain ⟨LS, hLS⟩ : ∃ x, x = (if E = 0 then ls.map (·.2) ++ [Bd] else ls.map (·.2)) := ⟨_, rfl⟩
      rw [← hLS] at K1
      have hzr := z0 H.B.m
      have hbr := hbj.ext H.B.m
      have HK := Lib.hid (And.intro hE (And.intro hNI hs1))
      clear hE hNI hs1
      go_upto_if 81 with (first | (go_at_call 20; (with_reducible refine (CB _ hbr).mono ?_); rintro e w3 ⟨u3, rfl, ho3, _, hm3⟩; have H3 := H.ext hm3; have hs3 := ho3.bs) | (go_at_call 7; (with_reducible refine (AP H3 hs3).mono ?_); rintro e w4 ⟨rfl, bw4, H4, hm4, _⟩))
      go_cut [19] (fun iv1 wx => ∃ (ls1 : List (Value × List UInt8)) (O1 : List (Nat × TypeId × List Value)), InsO iv1 (ls1.map (·.1)) O1 ∧ Wg W wx p q P Q v dv L M l r h c bw4 s1 O1 ∧ ls1.map (·.2) = LS ∧ (∀ x ∈ ls1, Bs W x.1 x.2) ∧ ls1.length ≤ j + 1)
      case first =>
        by_cases g : E = 0
        · subst g
          obtain rfl : NI = (f : Int) + ((m : Int) + 1) := hNi rfl
          have z4 := z0 H4.B.m
          go_wp2_with (with_reducible refine st_bslice ?_)
          refine StopOp.go rfl fun K hK => ?_
          refine wp_bslice stRow [.slice au Bd.length capu] rfl (by decide) (by rfl) (by simp [Value.cells]) ?_
          intro gi w5 hgi1 hgi2 hm5 hX5
          simp only [put_some, List.set_cons_succ, List.set_cons_zero]
          refine hK _ _ ?_
          clear hK K
          have H5 := H4.ext hm5
          have hO5 := H5.ins hO
          rw [List.length_map, ← HM.out] at hO5
          have hS5 : Sl w5 1 (.slice (some ⟨gi, 0, none⟩) 1 1) 1 [.slice au Bd.length capu] := (Ow.of_blk (rest := []) (show Blk w5 gi 23 ([.slice au Bd.length capu] ++ []) from hX5) (Nat.le_refl _) (by omega) rfl rfl : Ow w5 23 1 (.slice (some ⟨gi, 0, none⟩) 1 1) 1 [.slice au Bd.length capu]).sl
          go_wp2_with (with_reducible refine st_append ?_)
          refine StopOp.go rfl fun K hK => ?_
          refine wp_append_kp stRow (by rfl) (by rfl) hO5 hS5 (by simp [Value.oneCell']) (by omega) (by omega) (by omega) ?_
          intro v6 w6 ho6 hm6 hn6 hkp
          simp only [put_some, List.set_cons_succ, List.set_cons_zero]
          refine hK _ _ ?_
          clear hK K
          obtain ⟨ao6, cap6, rfl, _, _⟩ := Sl.form (Ow.sl ho6)
          obtain ⟨O6, H6, hO6⟩ := H5.insC (x := (.slice au Bd.length capu, Bd)) hO hm6 (by rw [← HM.out]; exact ho6) hn6
          go_wp2_with fail
          go_meet
          exact ⟨_, O6, hO6, H6, by rw [hLS]; simp, fun x hx => (List.mem_append.1 hx).elim (hB x) (fun e => by rw [List.mem_singleton.1 e]; exact hbj), by rw [List.length_append]; simp; have := HM.out; omega⟩
        · have dg : decide (E = 0) = false := decide_eq_false g
          have dg2 : (E == 0) = false := by simpa using g
          go_wp2_with fail
          go_meet
          exact ⟨ls, O, hO, H4, by rw [hLS, if_neg g], hB, by have := HM.out; omega⟩
      case rest =>
      obtain ⟨ls1, O1, hO1, H6, hL1, hB1, hl1⟩ := hcut
      rename World => w6
      obtain ⟨a1, cap1, rfl, hcap1, _⟩ := H6.insF hO1
      have y6 : (ls1.length : Int) ≤ 201 := by omega
      obtain ⟨cc, hcc⟩ : ∃ c, c = (decide (j < gs.length) && gs.getD j false) := ⟨_, rfl⟩
      have HCC := Lib.hid hcc
      clear hcc hNi hor AP CB z0 hzr hbr hO H K
      go_upto_region 16 with fail
      go_cut [105] (fun u wx => u = .bool cc ∧ w6 = wx)
      case first =>
        by_cases h1 : j < gs.length
        · have y1 : (j : Int) < gs.length := by omega
          obtain ⟨gb, go, rfl, c0⟩ := BlW.cellAt (Sl.ext hg H6.B.m) h1
          obtain ⟨bb, hbb⟩ : ∃ b, b = gs[j] := ⟨_, rfl⟩
          rw [← hbb] at c0
          go_wp2_with fail
          go_meet
          exact ⟨by rw [HCC.out, decide_eq_true h1, List.getD_eq_getElem?_getD, List.getElem?_eq_getElem h1, ← hbb]; simp, rfl⟩
        · have y1 : (gs.length : Int) ≤ j := by omega
          go_wp2_with fail
          go_meet
          exact ⟨by rw [HCC.out, decide_eq_false h1]; first | rfl | simp | (simp; omega), rfl⟩
      case rest =>
      obtain ⟨rfl, rfl⟩ := hcut
      cases cc with
      | false =>
        go_wp2_with fail
        go_roundw
        case rel => exact ⟨j + 1, by go_num, by omega, k, s1, v, L, bw4, ls1, O1, hO1, H6, by rw [hL1]; exact K1, hB1, hl1, by omega, by omega⟩
        case measure => simp [intOf]; omega
      | true =>
        have FL := fun {w} (H : Wg W w p q P Q v dv L M l r h c bw4 s1 O1) => H.flush K1.lo hc1.2 K1.sz K1.dur (by omega) (by omega)
        unfold WFluP at FL
        obtain ⟨k2, K2, r1, r2, r3⟩ := K1.fl
        have hsz2 := flG_sz c v s1
        obtain ⟨⟨v2, s2, e2⟩, hR⟩ : ∃ R, R = flG c v s1 := ⟨_, rfl⟩
        rw [← hR] at FL K2 r1 r2 hsz2
        dsimp only at FL K2 r1 r2 hsz2
        have hd2 := K2.rw.d
        have ht2 := K2.rw.t
        have DU := fun {w bw} (h : Lg w l r bw s2) => lDurable_any l r bw s2 w h
        have LA := fun {w bw} (h : Lg w l r bw s2) => lLast_any l r bw s2 w h
        obtain ⟨D2, hD2⟩ : ∃ d, d = s2.d := ⟨_, rfl⟩
        obtain ⟨T2, hT2⟩ : ∃ d, d = s2.t := ⟨_, rfl⟩
        rw [← hD2] at DU hd2
        rw [← hT2] at LA ht2
        have HS := Lib.hid (And.intro hsz2 (And.intro HC.out.1 (And.intro hvn hvr)))
        have hrel2 : e2 = 0 ∧ D2 = T2 ∨ e2 = 60 ∧ ¬ (D2 : Int) = (T2 : Int) := by
          rcases r1 with e | e
          · exact .inl ⟨e, by rw [hd2, ht2, r2.1 e]⟩
          · refine .inr ⟨e, fun h => ?_⟩
            have h2 : k2 = LS.length := by omega
            have := r2.2 h2
            omega
        clear hR hD2 hT2 hsz2 r1 r2 hd2 ht2
        have hend : ∀ {w'} bw' L', Wg W w' p q P Q v2 dv L' M l r h c bw' s2 O1 → KiP W p q P Q dv M l r h c ep f (.slice a1 ls1.length cap1) (j + 1) w' := fun bw' L' H => ⟨k2, s2, v2, L', bw', ls1, O1, hO1, H, by rw [hL1]; exact K2, hB1, hl1, by have := HS.out; omega, by have := HS.out; omega⟩
        clear hO1 K1 K2 hB1 hl1 hL1 hvn hvr
        rcases hrel2 with ⟨rfl, rfl⟩ | ⟨rfl, dn⟩
        · go_wp2_with (first
                        | (go_at_call 8; (with_reducible refine (FL H6).mono ?_); rintro e w7 ⟨rfl, bw7, L7, H7, hm7, _⟩; have G7 := H7.lg)
                        | (go_at_call 13; (with_reducible refine (DU G7).mono ?_); rintro e w8 ⟨rfl, rfl⟩)
                        | (go_at_call 12; (with_reducible refine (LA G7).mono ?_); rintro e w8 ⟨rfl, rfl⟩))
          go_roundw
          case rel => exact ⟨j + 1, by go_num, by omega, hend _ _ H7⟩
          case measure => simp [intOf]; omega
        · have d1 : decide ((D2 : Int) = (T2 : Int)) = false := decide_eq_false dn
          have d2 : ((D2 : Int) == (T2 : Int)) = false := by simpa using dn
          go_wp2_with (first
                        | (go_at_call 8; (with_reducible refine (FL H6).mono ?_); rintro e w7 ⟨rfl, bw7, L7, H7, hm7, _⟩; have G7 := H7.lg)
                        | (go_at_call 13; (with_reducible refine (DU G7).mono ?_); rintro e w8 ⟨rfl, rfl⟩)
                        | (go_at_call 12; (with_reducible refine (LA G7).mono ?_); rintro e w8 ⟨rfl, rfl⟩))
          go_roundw
          case rel => exact ⟨j + 1, by go_num, by omega, hend _ _ H7⟩
          case measure => simp [intOf]; omega
    | false =>
      have hkl := K.rw.k
      rw [hlm] at hkl
      have yk : (k : Int) ≤ m := by omega
      have yc : (m : Int) ≤ capi := by omega
      have hdv := K.rw.d
      have DU := fun {w bw} (h : Lg w l r bw s) => lDurable_any l r bw s w h
      rw [hdv, Int.natCast_add] at DU
      clear hdv
      have G := H.lg
      go_upto_region 20 with fail
      go_cut [24] (fun u wx => u = .int .i64 (k : Nat) ∧ wr = wx)
      case first =>
        go_wp2_with (go_at_call 13; (with_reducible refine (DU G).mono ?_); rintro e w8 ⟨rfl, rfl⟩)
        go_meet
        exact ⟨by try (simp; try omega), rfl⟩
      case rest =>
      obtain ⟨rfl, rfl⟩ := hcut
      have hFr : Fs wr (.slice aof Fl.length capf) Fl := Sl.ext hF H.B.m
      have RE := fun fw w h hF hFL => pRestart_any p q v L Fl fw w h (by omega) hF hFL
      obtain ⟨m4, hm4⟩ : ∃ m, m = v.m.crash Fl := ⟨_, rfl⟩
      have hre : v.re Fl = Lv m4 0 := by rw [hm4]; rfl
      have hrow4 : m4.row.length ≤ 0 := by rw [hm4]; have := (re_sz v Fl).2.2.1; rw [show (v.re Fl).m.row = (v.m.crash Fl).row from rfl] at this; rw [this]; exact Nat.le_refl _
      have hKre := fun hok => K.re Fl hok
      rw [hre] at RE hKre
      have hl32 : ∀ x ∈ ls.map (·.2), x.length ≤ 32 := K.rw.l
      have hfl2 : f + (ls.map (·.2)).length < 18446744073709551616 := by omega
      have hml : m ≤ ls.length ∧ ls.length ≤ m := by have := HM.out; omega
      have dk1 : decide ((m : Int) < (k : Int)) = false := decide_eq_false (by omega)
      have dk2 : decide ((k : Int) > (m : Int)) = false := decide_eq_false (by omega)
      clear hm4 hre DU G
      go_wp2_with (first
                    | (go_at_call 28; (with_reducible refine (CF _ _ hFr).mono ?_); rintro e w3 ⟨fw, rfl, hF3, hf3, hm3⟩; obtain ⟨aow, capw, rfl, _, _⟩ := hF3.form; have H3 := H.ext hm3; have D3 := H3.B.D; have hFL3 : Fl ≠ [] → ∀ y ∈ blks (.slice aow Fl.length capw), y ∉ L := fun _ y hy hh => by have h1 := hf3 y hy; have h2 := H.B.D.lt0 y (List.mem_cons_of_mem _ hh); omega)
                    | (go_at_call 27; (with_reducible refine (RE _ _ D3 hF3 hFL3).mono ?_); rintro e w4 ⟨rfl, hP4⟩; obtain ⟨L4, H4, hm4⟩ := H3.dt hP4; have K4 := hKre H4.B.D.ok; obtain ⟨rs1, rs2, rs3⟩ := K4.scan; have SC4 := H4.scanY ep f hT hc1.2 hc1.1 K4.sz K4.dur (Nat.zero_le _) hep (by omega) rs1; unfold WScY at SC4; obtain ⟨n5, hn5⟩ : ∃ n, n = 0 + chK 64 0 (0 + c * 64) := ⟨_, rfl⟩; rw [← hn5] at SC4; have HN5 := Lib.hid (And.intro hn5 rs2); obtain ⟨EN4, hEN4⟩ : ∃ n, n = endF (rowS (abs m4 64 64 (c * 64)) ep f 0) 0 := ⟨_, rfl⟩; rw [← hEN4] at SC4; clear hn5 hEN4)
                    | (go_at_call 17; (with_reducible refine (SC4).mono ?_); rintro e w5 ⟨xv, Kf, rfl, hKf, hFr5, H5, hm5⟩; have R5 := H5.rows hO hB; have R5k := RowsF.take (k := k) R5 HM.out (by omega) (by omega); have ms := map_s hKf hep (fun x hx => hl32 x (List.mem_of_mem_take hx)) (by rw [List.length_take]; omega) rs3; have FI5 := first_any Kf (ls.take k) xv (.slice ai k capi) ep f w5 hFr5.r R5k (by have := ms.1; rw [List.length_take, List.length_map] at this; rw [List.length_take]; exact this) (fun i hi => by obtain ⟨x, hx1, hx2⟩ := ms.2 i (by rw [List.length_take] at hi; rw [List.length_take, List.length_map]; exact hi); exact ⟨x, hx1, by rw [hx2]; simp⟩) (by rw [List.length_take]; omega) (by rw [List.length_take]; omega))
                    | (go_at_call 21; (with_reducible refine (FI5).mono ?_); rintro e w6 ⟨rfl, hm6⟩; have H6 := H5.ext hm6; have K5 := K4.scanN (n' := n5); obtain ⟨m7, n7, K7, f7, b7, b8, deq, _, b9⟩ := K5.live; have FL7 := H6.flush K5.lo hc1.2 K5.sz K5.dur (by show n5 ≤ _; have := HN5.out; omega) (by show m4.row.length ≤ _; omega); unfold WFluP at FL7; obtain ⟨s7, hs7⟩ : ∃ x, x = (flG c (Lv m4 n5) s).2.1 := ⟨_, rfl⟩; rw [← hs7] at K7 f7; rw [f7] at FL7; dsimp only at FL7; clear hs7 deq)
                    | (go_at_call 8; (with_reducible refine (FL7).mono ?_); rintro e w7 ⟨rfl, bw7, L7, H7, hm7, _⟩; obtain ⟨rt1, rt2, rt3⟩ := K7.scan; have SC7 := H7.scanY ep f hT hc1.2 hc1.1 K7.sz K7.dur (by show n7 ≤ _; have := HN5.out; omega) hep (by omega) rt1; unfold WScY at SC7; rw [List.take_length] at rt3; have fe := (found_end hep hl32 hfl2 rt3).1; have u7 := K7.rw.u; rw [K7.e] at u7; rw [← u7] at fe; have US7 := fun {w bw} (h : Lg w l r bw s7) => lUsed_any l r bw s7 w h (by have := K7.lo.n; omega); have DU7 := fun {w bw} (h : Lg w l r bw s7) => lDurable_any l r bw s7 w h; rw [K7.rw.d, hlm, Int.natCast_add] at DU7; obtain ⟨U7, hU7⟩ : ∃ u, u = s7.u := ⟨_, rfl⟩; obtain ⟨EN, hEN⟩ : ∃ n, n = endF (rowS (abs m7 64 64 (c * 64)) ep f 0) 0 := ⟨_, rfl⟩; rw [← hEN] at SC7 fe; rw [← hU7] at US7 fe; have yfe : (U7 : Int) ≤ (EN : Int) := Int.ofNat_le.2 fe; clear hEN hU7 u7 fe)
                    | (go_at_call 17; (with_reducible refine (SC7).mono ?_); rintro e w8 ⟨xv8, Kf8, rfl, hKf8, hFr8, H8, hm8⟩; have R8 := H8.rows hO hB; have ms8 := map_s hKf8 hep hl32 hfl2 rt3; have FI8 := first_any Kf8 ls xv8 (.slice ai m capi) ep f w8 hFr8.r R8 (by have := ms8.1; rw [List.length_map] at this; exact this) (fun i hi => by obtain ⟨x, hx1, hx2⟩ := ms8.2 i (by rw [List.length_map]; exact hi); exact ⟨x, hx1, by rw [hx2]; simp⟩) (by omega) (by omega); have G8 := H8.lg)
                    | (go_at_call 13; (with_reducible refine (DU7 G8).mono ?_); rintro e w9 ⟨rfl, rfl⟩)
                    | (go_at_call 14; (with_reducible refine (US7 G8).mono ?_); rintro e w9 ⟨rfl, hm9⟩; have FI9 := first_any Kf8 ls xv8 (.slice ai m capi) ep f w9 (FrsR.ext hFr8.r hm9) (R8.ext hm9) (by have := ms8.1; rw [List.length_map] at this; exact this) (fun i hi => by obtain ⟨x, hx1, hx2⟩ := ms8.2 i (by rw [List.length_map]; exact hi); exact ⟨x, hx1, by rw [hx2]; simp⟩) (by omega) (by omega))
                    | (go_at_call 21; (with_reducible refine (FI9).mono ?_); rintro e wa ⟨rfl, hma⟩; have Ma := ((H8.B.m.ext hm9).ext hma); have hTa := hT.ext Ma)
                    | (go_at_call 19; (with_reducible refine (AW _ hTa).mono ?_); rintro e wb ⟨rfl, hmb⟩))
      go_ret
      exact ⟨rfl, Ma.ext hmb⟩
end Go.Proofs.YtfepggdljhiemaaDoor
