import Derived.Test.YtfepggdljhiemaaDoorWlN
/-! WalRoom. -/
set_option linter.unusedVariables false
set_option linter.unusedSimpArgs false
set_option maxRecDepth 100000
namespace Go.Proofs.YtfepggdljhiemaaDoor
open Go.RowKit Gw

def iw (l : List Int) : List Value := l.map (Value.int .i64)
def IsW (w : World) (v : Value) (l : List Int) : Prop := Sl w 1 v l.length (iw l)
theorem IsW.cellAt {w : World} {ao : Option Addr} {n cap : Nat} {l : List Int} (h : IsW w (.slice ao n cap) l) {j : Nat} (hj : j < l.length) : ∃ b o, ao = some ⟨b, o, none⟩ ∧ w.cell? ⟨b, o + j, none⟩ = some (.int .i64 l[j]) := by
  have hne : iw l ≠ [] := fun h0 => by have := congrArg List.length h0; simp [iw] at this; rw [this] at hj; simp at hj
  obtain ⟨b, o, c, hv, _, _, hc⟩ := Sl.at h hne
  injection hv with e1 e2 e3
  exact ⟨b, o, e1, hc j _ (by simp [iw, hj])⟩
set_option maxRecDepth 1000000 in
set_option maxHeartbeats 40000000 in
theorem walRoom_core (a0 : Int) (sq ep : Nat) (zv : Value) (zs : List Int) (W : World) (w0 : i64 a0) (hsq : sq < 18446744073709551616) (hep : ep < 18446744073709551616) (hz : IsW W zv zs) (hzi : ∀ y ∈ zs, i64 y) (hzl : zs.length ≤ 1048576) (hT : TabC W) :
    Calls Tryd.prog 5 #[.int .i64 a0, .int .u64 (sq : Nat), .int .u64 (ep : Nat), zv] W fun e w' => e = .returned (.bool true) ∧ Mod [] W w' := by
  obtain ⟨aoz, capz, rfl, _, _⟩ := Sl.form hz
  have AW := fun w h => walake_any w h
  have PL := fun w => place_any a0 w w0
  have hcc := cP_le a0
  obtain ⟨c, hc⟩ : ∃ c, c = cP a0 := ⟨_, rfl⟩
  rw [← hc] at PL hcc
  unfold PlaceP at PL
  obtain ⟨dv, hdv⟩ : ∃ d, d = dvW c := ⟨_, rfl⟩
  have hdn : dv.n = 0 := by rw [hdv]; rfl
  rw [← hdv] at PL
  have NW := fun {w p q P Q v u L M r h} (B : Bw W w p q P Q v u L M (wO0 r h p P c)) => Wg.newAny B 1 sq (by omega) (by omega)
  rw [show ((1 : Nat) : Int) = 1 from rfl] at NW
  have CN := fun {w r p q} (h : Rgn w r p 1 c 64) (hb : Blk w p 96 (dv.cells q)) => gCount_any r p q 1 c 64 dv w h hb
  rw [hdn, show ((0 : Nat) : Int) = 0 from rfl] at CN
  have BY := fun {w r p} (h : Rgn w r p 1 c 64) => gBytes_any r p 1 c 64 w h (by omega)
  have lo0 : LsOk ⟨[], 0, sq, sq, 1⟩ (c * 64) := ⟨by show 1 < _; omega, hsq, hsq, Nat.zero_le _⟩
  obtain ⟨s0, hs0⟩ : ∃ s : Ls, s = ⟨[], 0, sq, sq, 1⟩ := ⟨_, rfl⟩
  rw [← hs0] at NW lo0
  have HC := Lib.hid hcc
  obtain ⟨N, hN⟩ : ∃ N, N = c * 64 := ⟨_, rfl⟩
  rw [← hN] at BY lo0
  have HN := Lib.hid hN
  clear hc hdv hdn hs0 hcc hN
  go_enter Tryd.func5, Tryd.ntmps5
  go_wp2_with (first
                | (go_at_call 18; refine (PL _).mono ?_; rintro e w1 ⟨r, p, q, L, h, P, Q, M, rfl, B1⟩)
                | (go_at_call 16; refine (NW B1).mono ?_; rintro e w2 ⟨l, rfl, H2, hm2, hl2⟩; have R2 := H2.rg)
                | (go_at_call 22; refine (BY R2).mono ?_; rintro e w3 ⟨rfl, hm3⟩))
  have H3 := H2.ext hm3
  clear H2 R2 B1 hm2 hl2 hm3
  go_loopw [16, 17, 18, 19, 20, 21, 22, 23] (fun i _ _ _ _ _ _ _ wr => ∃ (j : Nat) (s : Ls) (bw : Value), j ≤ zs.length ∧ i = .int .i64 j ∧ LsOk s N ∧ Wg W wr p q P Q dv dv L M l r h c bw s []) (fun i _ _ _ _ _ _ _ _ => zs.length - (intOf i).toNat)
  case atStart => exact ⟨0, s0, _, Nat.zero_le _, rfl, lo0, H3⟩
  case round =>
    clear H3 lo0 NW PL
    obtain ⟨j, s, bw, hj, rfl, lo, Hr⟩ := hrel
    by_cases hlt : j < zs.length
    · by_cases h200 : j < 200
      · have y0 : (j : Int) < zs.length := by omega
        have y1 : (j : Int) < 200 := by omega
        obtain ⟨bz, oz, rfl, z0⟩ := IsW.cellAt (Sl.ext hz Hr.B.m) hlt
        have hz64 := hzi _ (List.getElem_mem hlt)
        have PK := fun w => pick_any zs[j] 35 w hz64.1 hz64.2 (by omega) (by omega)
        have g1 := pick_ge zs[j] 35
        have g2 := pick_lt zs[j] 35 (by omega)
        obtain ⟨K, hK⟩ : ∃ K, K = pick zs[j] 35 := ⟨_, rfl⟩
        rw [← hK] at PK g1 g2
        obtain ⟨z, hzz⟩ : ∃ z, z = zs[j] := ⟨_, rfl⟩
        rw [← hzz] at PK z0
        obtain ⟨n, rfl⟩ := Int.eq_ofNat_of_zero_le g1
        clear hK hzz hz64 g1
        have hn : n ≤ 34 := by omega
        have hN := HN.out
        have hcc := HC.out
        have loc : LsOk s (c * 64) := by rw [← hN]; exact lo
        have RO := fun {w} (h : Lg w l r bw s) (hR : Rgn w r p 1 c 64) => lRoom_any l r p c bw s w h hR loc.n (by omega)
        have LA := fun {w} (h : Lg w l r bw s) => lLast_any l r bw s w h
        have AP := fun {w} (H : Wg W w p q P Q dv dv L M l r h c bw s []) {xv} (hv : Bs w xv (zeros n)) => H.append hT hv loc (by omega) (by simp [zeros]; omega)
        unfold WAppP at AP
        have SZ := fun w => size_any (n : Int) w
        have hzl' : (zeros n).length = n := by simp [zeros]
        have hu := lo.n
        have ht := lo.t
        obtain ⟨U, hU⟩ : ∃ U, U = s.u := ⟨_, rfl⟩
        obtain ⟨T, hT0⟩ : ∃ T, T = s.t := ⟨_, rfl⟩
        rw [← hU, ← hN] at RO
        rw [← hT0] at LA
        rw [← hU] at hu
        rw [← hT0] at ht
        have y5 : (T : Int) ≤ 18446744073709551615 := by omega
        have y6 : (N : Int) ≤ 512 := by omega
        have y7 : (U : Int) ≤ N := by omega
        have y8 : (n : Int) ≤ 34 := by omega
        by_cases k1 : 32 < n
        · skip
          have e0 : s.appE (c * 64) (zeros n) = 3 := appE_long (by omega)
          have d1 : decide ((n : Int) ≤ 32) = false := decide_eq_false (by omega)
          have d2 : decide ((32 : Int) < (n : Int)) = true := decide_eq_true (by omega)
          have d3 : decide ((n : Int) > 32) = true := decide_eq_true (by omega)
          obtain ⟨e1, e2⟩ := app_no (show s.appE (c * 64) (zeros n) ≠ 0 by rw [e0]; decide)
          rw [e0, e1, e2, show ((0 : Nat) : Int) = 0 from rfl] at AP
          have lo1 := loc
          obtain ⟨s1, hs1⟩ : ∃ x, x = s := ⟨_, rfl⟩
          rw [← hs1] at lo1
          have RO1 := fun {w bw} (h : Lg w l r bw s1) (hR : Rgn w r p 1 c 64) => lRoom_any l r p c bw s1 w h hR lo1.n (by omega)
          have LA1 := fun {w bw} (h : Lg w l r bw s1) => lLast_any l r bw s1 w h
          subst hs1
          rw [← hU, ← hN] at RO1
          rw [← hT0] at LA1
          have pt : s1.t = T := hT0.symm
          obtain ⟨T1, hT1⟩ : ∃ T1, T1 = T := ⟨_, rfl⟩
          rw [← hT1] at pt
          have lo2 := lo1.reset hep
          have RS := fun {w bw} (H : Wg W w p q P Q dv dv L M l r h c bw s1 []) => H.reset ep lo1 (by omega)
          have US2 := fun {w bw} (h : Lg w l r bw (s1.reset ep)) => lUsed_any l r bw (s1.reset ep) w h (Nat.zero_le _)
          have RO2 := fun {w bw} (h : Lg w l r bw (s1.reset ep)) (hR : Rgn w r p 1 c 64) => lRoom_any l r p c bw (s1.reset ep) w h hR (Nat.zero_le _) (by omega)
          have LA2 := fun {w bw} (h : Lg w l r bw (s1.reset ep)) => lLast_any l r bw (s1.reset ep) w h
          have DU2 := fun {w bw} (h : Lg w l r bw (s1.reset ep)) => lDurable_any l r bw (s1.reset ep) w h
          have EP2 := fun {w bw} (h : Lg w l r bw (s1.reset ep)) => lEpoch_any l r bw (s1.reset ep) w h
          have q1 : (s1.reset ep).u = 0 := rfl
          have q2 : (s1.reset ep).t = T1 := pt
          have q3 : (s1.reset ep).d = T1 := pt
          have q4 : (s1.reset ep).e = ep := rfl
          rw [q1, show ((0 : Nat) : Int) = 0 from rfl] at US2
          rw [q1, ← hN, show ((N : Int) - ((0 : Nat) : Int)) = (N : Int) by omega] at RO2
          rw [q2] at LA2
          rw [q3] at DU2
          rw [q4] at EP2
          subst hT1
          obtain ⟨s2, hs2⟩ : ∃ x, x = s1.reset ep := ⟨_, rfl⟩
          rw [← hs2] at lo2 RS US2 RO2 LA2 DU2 EP2
          have Lr := Hr.lg
          have Rx0 := Hr.rg
          clear hs2 q1 q2 q3 q4 pt hN hcc hU hT0 hu ht hzl' e0 e1 e2 loc lo
          cases hq : ((j : Int) % 7 == 6) with
          | false =>
            go_wp2_with (first
                          | (with_reducible refine st_make ?_)
                          | (go_at_call 23; (with_reducible refine (PK _).mono ?_); rintro e w1 ⟨rfl, rfl⟩)
                          | (go_at_call 15; (with_reducible refine (RO Lr Rx0).mono ?_); rintro e w1 ⟨rfl, hm1⟩; have H1 := Hr.ext hm1; have L1 := H1.lg)
                          | (go_at_call 12; (with_reducible refine (LA L1).mono ?_); rintro e w2 ⟨rfl, rfl⟩))
            refine StopOp.go rfl fun K hK => ?_
            refine wp_make (nl := n) (nc := n) stB (by rfl) (by rfl) rfl rfl (Nat.le_refl _) (by omega) (by omega) ?_
            intro g3 w3 hg31 hg32 hm3 hX3
            simp only [put_some, List.set_cons_succ, List.set_cons_zero]
            refine hK _ _ ?_
            clear hK K
            have hs3 : Bs w3 (.slice (some ⟨g3, 0, none⟩) n n) (zeros n) := (Ob.made hX3 (by omega)).bs
            have H3 := H1.ext hm3
            go_wp2_with (first
                          | (go_at_call 7; (with_reducible refine (AP H3 hs3).mono ?_); rintro e w4 ⟨rfl, bw4, H4, hm4, _⟩; have L4 := H4.lg; have R4 := H4.rg)
                          | (go_at_call 24; (with_reducible refine (SZ _).mono ?_); rintro e w5 ⟨rfl, rfl⟩)
                          | (go_at_call 15; (with_reducible refine (RO1 L4 R4).mono ?_); rintro e w5 ⟨rfl, hm5⟩; have H5 := H4.ext hm5; have L5 := H5.lg; have R5 := H5.rg)
                          | (go_at_call 12; (with_reducible refine (LA1 L5).mono ?_); rintro e w6 ⟨rfl, rfl⟩))
            go_roundw
            case rel => exact ⟨j + 1, _, _, by omega, by go_num, by rw [HN.out]; exact lo1, H5⟩
            case measure => simp [intOf]; omega
          | true =>
            go_wp2_with (first
                          | (with_reducible refine st_make ?_)
                          | (go_at_call 23; (with_reducible refine (PK _).mono ?_); rintro e w1 ⟨rfl, rfl⟩)
                          | (go_at_call 15; (with_reducible refine (RO Lr Rx0).mono ?_); rintro e w1 ⟨rfl, hm1⟩; have H1 := Hr.ext hm1; have L1 := H1.lg)
                          | (go_at_call 12; (with_reducible refine (LA L1).mono ?_); rintro e w2 ⟨rfl, rfl⟩))
            refine StopOp.go rfl fun K hK => ?_
            refine wp_make (nl := n) (nc := n) stB (by rfl) (by rfl) rfl rfl (Nat.le_refl _) (by omega) (by omega) ?_
            intro g3 w3 hg31 hg32 hm3 hX3
            simp only [put_some, List.set_cons_succ, List.set_cons_zero]
            refine hK _ _ ?_
            clear hK K
            have hs3 : Bs w3 (.slice (some ⟨g3, 0, none⟩) n n) (zeros n) := (Ob.made hX3 (by omega)).bs
            have H3 := H1.ext hm3
            go_wp2_with (first
                          | (go_at_call 7; (with_reducible refine (AP H3 hs3).mono ?_); rintro e w4 ⟨rfl, bw4, H4, hm4, _⟩; have L4 := H4.lg; have R4 := H4.rg)
                          | (go_at_call 24; (with_reducible refine (SZ _).mono ?_); rintro e w5 ⟨rfl, rfl⟩)
                          | (go_at_call 15; (with_reducible refine (RO1 L4 R4).mono ?_); rintro e w5 ⟨rfl, hm5⟩; have H5 := H4.ext hm5; have L5 := H5.lg; have R5 := H5.rg)
                          | (go_at_call 12; (with_reducible refine (LA1 L5).mono ?_); rintro e w6 ⟨rfl, rfl⟩)
                          | (go_at_call 9; (with_reducible refine (RS H5).mono ?_); rintro e w9 ⟨rfl, H9, hm9⟩; have L9 := H9.lg; have R9 := H9.rg)
                          | (go_at_call 14; (with_reducible refine (US2 L9).mono ?_); rintro e wa ⟨rfl, hma⟩; have Ha := H9.ext hma; have La := Ha.lg; have Ra := Ha.rg)
                          | (go_at_call 15; (with_reducible refine (RO2 La Ra).mono ?_); rintro e wb ⟨rfl, hmb⟩; have Hb := Ha.ext hmb; have Lb := Hb.lg; have Rb := Hb.rg; have Db := Hb.B.D.b)
                          | (go_at_call 12; (with_reducible refine (LA2 Lb).mono ?_); rintro e wc ⟨rfl, rfl⟩)
                          | (go_at_call 13; (with_reducible refine (DU2 Lb).mono ?_); rintro e wc ⟨rfl, rfl⟩)
                          | (go_at_call 11; (with_reducible refine (EP2 Lb).mono ?_); rintro e wc ⟨rfl, rfl⟩)
                          | (go_at_call 25; (with_reducible refine (CN Rb Db).mono ?_); rintro e wc ⟨rfl, rfl⟩))
            go_roundw
            case rel => exact ⟨j + 1, _, _, by omega, by go_num, by rw [HN.out]; exact lo2, Hb⟩
            case measure => simp [intOf]; omega
        · by_cases k2 : T = 18446744073709551615
          · skip
            have d1 : decide ((n : Int) ≤ 32) = true := decide_eq_true (by omega)
            have d2 : decide ((32 : Int) < (n : Int)) = false := decide_eq_false (by omega)
            have d3 : decide ((n : Int) > 32) = false := decide_eq_false (by omega)
            have f1 : sizeF (n : Int) = 22 + (n : Int) := if_neg (by omega)
            rw [f1] at SZ
            clear f1
            have e0 : s.appE (c * 64) (zeros n) = 6 := appE_full (by omega) (.inl (by omega))
            have d4 : decide ((T : Int) = 18446744073709551615) = true := decide_eq_true (by omega)
            obtain ⟨e1, e2⟩ := app_no (show s.appE (c * 64) (zeros n) ≠ 0 by rw [e0]; decide)
            rw [e0, e1, e2, show ((0 : Nat) : Int) = 0 from rfl] at AP
            have lo1 := loc
            obtain ⟨s1, hs1⟩ : ∃ x, x = s := ⟨_, rfl⟩
            rw [← hs1] at lo1
            have RO1 := fun {w bw} (h : Lg w l r bw s1) (hR : Rgn w r p 1 c 64) => lRoom_any l r p c bw s1 w h hR lo1.n (by omega)
            have LA1 := fun {w bw} (h : Lg w l r bw s1) => lLast_any l r bw s1 w h
            subst hs1
            rw [← hU, ← hN] at RO1
            rw [← hT0] at LA1
            have pt : s1.t = T := hT0.symm
            obtain ⟨T1, hT1⟩ : ∃ T1, T1 = T := ⟨_, rfl⟩
            rw [← hT1] at pt
            have lo2 := lo1.reset hep
            have RS := fun {w bw} (H : Wg W w p q P Q dv dv L M l r h c bw s1 []) => H.reset ep lo1 (by omega)
            have US2 := fun {w bw} (h : Lg w l r bw (s1.reset ep)) => lUsed_any l r bw (s1.reset ep) w h (Nat.zero_le _)
            have RO2 := fun {w bw} (h : Lg w l r bw (s1.reset ep)) (hR : Rgn w r p 1 c 64) => lRoom_any l r p c bw (s1.reset ep) w h hR (Nat.zero_le _) (by omega)
            have LA2 := fun {w bw} (h : Lg w l r bw (s1.reset ep)) => lLast_any l r bw (s1.reset ep) w h
            have DU2 := fun {w bw} (h : Lg w l r bw (s1.reset ep)) => lDurable_any l r bw (s1.reset ep) w h
            have EP2 := fun {w bw} (h : Lg w l r bw (s1.reset ep)) => lEpoch_any l r bw (s1.reset ep) w h
            have q1 : (s1.reset ep).u = 0 := rfl
            have q2 : (s1.reset ep).t = T1 := pt
            have q3 : (s1.reset ep).d = T1 := pt
            have q4 : (s1.reset ep).e = ep := rfl
            rw [q1, show ((0 : Nat) : Int) = 0 from rfl] at US2
            rw [q1, ← hN, show ((N : Int) - ((0 : Nat) : Int)) = (N : Int) by omega] at RO2
            rw [q2] at LA2
            rw [q3] at DU2
            rw [q4] at EP2
            subst hT1
            obtain ⟨s2, hs2⟩ : ∃ x, x = s1.reset ep := ⟨_, rfl⟩
            rw [← hs2] at lo2 RS US2 RO2 LA2 DU2 EP2
            have Lr := Hr.lg
            have Rx0 := Hr.rg
            clear hs2 q1 q2 q3 q4 pt hN hcc hU hT0 hu ht hzl' e0 e1 e2 loc lo
            cases hq : ((j : Int) % 7 == 6) with
            | false =>
              go_wp2_with (first
                            | (with_reducible refine st_make ?_)
                            | (go_at_call 23; (with_reducible refine (PK _).mono ?_); rintro e w1 ⟨rfl, rfl⟩)
                            | (go_at_call 15; (with_reducible refine (RO Lr Rx0).mono ?_); rintro e w1 ⟨rfl, hm1⟩; have H1 := Hr.ext hm1; have L1 := H1.lg)
                            | (go_at_call 12; (with_reducible refine (LA L1).mono ?_); rintro e w2 ⟨rfl, rfl⟩))
              refine StopOp.go rfl fun K hK => ?_
              refine wp_make (nl := n) (nc := n) stB (by rfl) (by rfl) rfl rfl (Nat.le_refl _) (by omega) (by omega) ?_
              intro g3 w3 hg31 hg32 hm3 hX3
              simp only [put_some, List.set_cons_succ, List.set_cons_zero]
              refine hK _ _ ?_
              clear hK K
              have hs3 : Bs w3 (.slice (some ⟨g3, 0, none⟩) n n) (zeros n) := (Ob.made hX3 (by omega)).bs
              have H3 := H1.ext hm3
              go_wp2_with (first
                            | (go_at_call 7; (with_reducible refine (AP H3 hs3).mono ?_); rintro e w4 ⟨rfl, bw4, H4, hm4, _⟩; have L4 := H4.lg; have R4 := H4.rg)
                            | (go_at_call 24; (with_reducible refine (SZ _).mono ?_); rintro e w5 ⟨rfl, rfl⟩)
                            | (go_at_call 15; (with_reducible refine (RO1 L4 R4).mono ?_); rintro e w5 ⟨rfl, hm5⟩; have H5 := H4.ext hm5; have L5 := H5.lg; have R5 := H5.rg)
                            | (go_at_call 12; (with_reducible refine (LA1 L5).mono ?_); rintro e w6 ⟨rfl, rfl⟩))
              go_roundw
              case rel => exact ⟨j + 1, _, _, by omega, by go_num, by rw [HN.out]; exact lo1, H5⟩
              case measure => simp [intOf]; omega
            | true =>
              go_wp2_with (first
                            | (with_reducible refine st_make ?_)
                            | (go_at_call 23; (with_reducible refine (PK _).mono ?_); rintro e w1 ⟨rfl, rfl⟩)
                            | (go_at_call 15; (with_reducible refine (RO Lr Rx0).mono ?_); rintro e w1 ⟨rfl, hm1⟩; have H1 := Hr.ext hm1; have L1 := H1.lg)
                            | (go_at_call 12; (with_reducible refine (LA L1).mono ?_); rintro e w2 ⟨rfl, rfl⟩))
              refine StopOp.go rfl fun K hK => ?_
              refine wp_make (nl := n) (nc := n) stB (by rfl) (by rfl) rfl rfl (Nat.le_refl _) (by omega) (by omega) ?_
              intro g3 w3 hg31 hg32 hm3 hX3
              simp only [put_some, List.set_cons_succ, List.set_cons_zero]
              refine hK _ _ ?_
              clear hK K
              have hs3 : Bs w3 (.slice (some ⟨g3, 0, none⟩) n n) (zeros n) := (Ob.made hX3 (by omega)).bs
              have H3 := H1.ext hm3
              go_wp2_with (first
                            | (go_at_call 7; (with_reducible refine (AP H3 hs3).mono ?_); rintro e w4 ⟨rfl, bw4, H4, hm4, _⟩; have L4 := H4.lg; have R4 := H4.rg)
                            | (go_at_call 24; (with_reducible refine (SZ _).mono ?_); rintro e w5 ⟨rfl, rfl⟩)
                            | (go_at_call 15; (with_reducible refine (RO1 L4 R4).mono ?_); rintro e w5 ⟨rfl, hm5⟩; have H5 := H4.ext hm5; have L5 := H5.lg; have R5 := H5.rg)
                            | (go_at_call 12; (with_reducible refine (LA1 L5).mono ?_); rintro e w6 ⟨rfl, rfl⟩)
                            | (go_at_call 9; (with_reducible refine (RS H5).mono ?_); rintro e w9 ⟨rfl, H9, hm9⟩; have L9 := H9.lg; have R9 := H9.rg)
                            | (go_at_call 14; (with_reducible refine (US2 L9).mono ?_); rintro e wa ⟨rfl, hma⟩; have Ha := H9.ext hma; have La := Ha.lg; have Ra := Ha.rg)
                            | (go_at_call 15; (with_reducible refine (RO2 La Ra).mono ?_); rintro e wb ⟨rfl, hmb⟩; have Hb := Ha.ext hmb; have Lb := Hb.lg; have Rb := Hb.rg; have Db := Hb.B.D.b)
                            | (go_at_call 12; (with_reducible refine (LA2 Lb).mono ?_); rintro e wc ⟨rfl, rfl⟩)
                            | (go_at_call 13; (with_reducible refine (DU2 Lb).mono ?_); rintro e wc ⟨rfl, rfl⟩)
                            | (go_at_call 11; (with_reducible refine (EP2 Lb).mono ?_); rintro e wc ⟨rfl, rfl⟩)
                            | (go_at_call 25; (with_reducible refine (CN Rb Db).mono ?_); rintro e wc ⟨rfl, rfl⟩))
              go_roundw
              case rel => exact ⟨j + 1, _, _, by omega, by go_num, by rw [HN.out]; exact lo2, Hb⟩
              case measure => simp [intOf]; omega
          · by_cases k3 : N < U + (22 + n)
            · skip
              have d1 : decide ((n : Int) ≤ 32) = true := decide_eq_true (by omega)
              have d2 : decide ((32 : Int) < (n : Int)) = false := decide_eq_false (by omega)
              have d3 : decide ((n : Int) > 32) = false := decide_eq_false (by omega)
              have f1 : sizeF (n : Int) = 22 + (n : Int) := if_neg (by omega)
              rw [f1] at SZ
              clear f1
              have e0 : s.appE (c * 64) (zeros n) = 6 := appE_full (by omega) (.inr (by omega))
              have d4 : decide ((T : Int) = 18446744073709551615) = false := decide_eq_false (by omega)
              have d5 : decide (22 + (n : Int) ≤ (N : Int) - (U : Int)) = false := decide_eq_false (by omega)
              obtain ⟨e1, e2⟩ := app_no (show s.appE (c * 64) (zeros n) ≠ 0 by rw [e0]; decide)
              rw [e0, e1, e2, show ((0 : Nat) : Int) = 0 from rfl] at AP
              have lo1 := loc
              obtain ⟨s1, hs1⟩ : ∃ x, x = s := ⟨_, rfl⟩
              rw [← hs1] at lo1
              have RO1 := fun {w bw} (h : Lg w l r bw s1) (hR : Rgn w r p 1 c 64) => lRoom_any l r p c bw s1 w h hR lo1.n (by omega)
              have LA1 := fun {w bw} (h : Lg w l r bw s1) => lLast_any l r bw s1 w h
              subst hs1
              rw [← hU, ← hN] at RO1
              rw [← hT0] at LA1
              have pt : s1.t = T := hT0.symm
              obtain ⟨T1, hT1⟩ : ∃ T1, T1 = T := ⟨_, rfl⟩
              rw [← hT1] at pt
              have lo2 := lo1.reset hep
              have RS := fun {w bw} (H : Wg W w p q P Q dv dv L M l r h c bw s1 []) => H.reset ep lo1 (by omega)
              have US2 := fun {w bw} (h : Lg w l r bw (s1.reset ep)) => lUsed_any l r bw (s1.reset ep) w h (Nat.zero_le _)
              have RO2 := fun {w bw} (h : Lg w l r bw (s1.reset ep)) (hR : Rgn w r p 1 c 64) => lRoom_any l r p c bw (s1.reset ep) w h hR (Nat.zero_le _) (by omega)
              have LA2 := fun {w bw} (h : Lg w l r bw (s1.reset ep)) => lLast_any l r bw (s1.reset ep) w h
              have DU2 := fun {w bw} (h : Lg w l r bw (s1.reset ep)) => lDurable_any l r bw (s1.reset ep) w h
              have EP2 := fun {w bw} (h : Lg w l r bw (s1.reset ep)) => lEpoch_any l r bw (s1.reset ep) w h
              have q1 : (s1.reset ep).u = 0 := rfl
              have q2 : (s1.reset ep).t = T1 := pt
              have q3 : (s1.reset ep).d = T1 := pt
              have q4 : (s1.reset ep).e = ep := rfl
              rw [q1, show ((0 : Nat) : Int) = 0 from rfl] at US2
              rw [q1, ← hN, show ((N : Int) - ((0 : Nat) : Int)) = (N : Int) by omega] at RO2
              rw [q2] at LA2
              rw [q3] at DU2
              rw [q4] at EP2
              subst hT1
              obtain ⟨s2, hs2⟩ : ∃ x, x = s1.reset ep := ⟨_, rfl⟩
              rw [← hs2] at lo2 RS US2 RO2 LA2 DU2 EP2
              have Lr := Hr.lg
              have Rx0 := Hr.rg
              clear hs2 q1 q2 q3 q4 pt hN hcc hU hT0 hu ht hzl' e0 e1 e2 loc lo
              cases hq : ((j : Int) % 7 == 6) with
              | false =>
                go_wp2_with (first
                              | (with_reducible refine st_make ?_)
                              | (go_at_call 23; (with_reducible refine (PK _).mono ?_); rintro e w1 ⟨rfl, rfl⟩)
                              | (go_at_call 15; (with_reducible refine (RO Lr Rx0).mono ?_); rintro e w1 ⟨rfl, hm1⟩; have H1 := Hr.ext hm1; have L1 := H1.lg)
                              | (go_at_call 12; (with_reducible refine (LA L1).mono ?_); rintro e w2 ⟨rfl, rfl⟩))
                refine StopOp.go rfl fun K hK => ?_
                refine wp_make (nl := n) (nc := n) stB (by rfl) (by rfl) rfl rfl (Nat.le_refl _) (by omega) (by omega) ?_
                intro g3 w3 hg31 hg32 hm3 hX3
                simp only [put_some, List.set_cons_succ, List.set_cons_zero]
                refine hK _ _ ?_
                clear hK K
                have hs3 : Bs w3 (.slice (some ⟨g3, 0, none⟩) n n) (zeros n) := (Ob.made hX3 (by omega)).bs
                have H3 := H1.ext hm3
                go_wp2_with (first
                              | (go_at_call 7; (with_reducible refine (AP H3 hs3).mono ?_); rintro e w4 ⟨rfl, bw4, H4, hm4, _⟩; have L4 := H4.lg; have R4 := H4.rg)
                              | (go_at_call 24; (with_reducible refine (SZ _).mono ?_); rintro e w5 ⟨rfl, rfl⟩)
                              | (go_at_call 15; (with_reducible refine (RO1 L4 R4).mono ?_); rintro e w5 ⟨rfl, hm5⟩; have H5 := H4.ext hm5; have L5 := H5.lg; have R5 := H5.rg)
                              | (go_at_call 12; (with_reducible refine (LA1 L5).mono ?_); rintro e w6 ⟨rfl, rfl⟩))
                go_roundw
                case rel => exact ⟨j + 1, _, _, by omega, by go_num, by rw [HN.out]; exact lo1, H5⟩
                case measure => simp [intOf]; omega
              | true =>
                go_wp2_with (first
                              | (with_reducible refine st_make ?_)
                              | (go_at_call 23; (with_reducible refine (PK _).mono ?_); rintro e w1 ⟨rfl, rfl⟩)
                              | (go_at_call 15; (with_reducible refine (RO Lr Rx0).mono ?_); rintro e w1 ⟨rfl, hm1⟩; have H1 := Hr.ext hm1; have L1 := H1.lg)
                              | (go_at_call 12; (with_reducible refine (LA L1).mono ?_); rintro e w2 ⟨rfl, rfl⟩))
                refine StopOp.go rfl fun K hK => ?_
                refine wp_make (nl := n) (nc := n) stB (by rfl) (by rfl) rfl rfl (Nat.le_refl _) (by omega) (by omega) ?_
                intro g3 w3 hg31 hg32 hm3 hX3
                simp only [put_some, List.set_cons_succ, List.set_cons_zero]
                refine hK _ _ ?_
                clear hK K
                have hs3 : Bs w3 (.slice (some ⟨g3, 0, none⟩) n n) (zeros n) := (Ob.made hX3 (by omega)).bs
                have H3 := H1.ext hm3
                go_wp2_with (first
                              | (go_at_call 7; (with_reducible refine (AP H3 hs3).mono ?_); rintro e w4 ⟨rfl, bw4, H4, hm4, _⟩; have L4 := H4.lg; have R4 := H4.rg)
                              | (go_at_call 24; (with_reducible refine (SZ _).mono ?_); rintro e w5 ⟨rfl, rfl⟩)
                              | (go_at_call 15; (with_reducible refine (RO1 L4 R4).mono ?_); rintro e w5 ⟨rfl, hm5⟩; have H5 := H4.ext hm5; have L5 := H5.lg; have R5 := H5.rg)
                              | (go_at_call 12; (with_reducible refine (LA1 L5).mono ?_); rintro e w6 ⟨rfl, rfl⟩)
                              | (go_at_call 9; (with_reducible refine (RS H5).mono ?_); rintro e w9 ⟨rfl, H9, hm9⟩; have L9 := H9.lg; have R9 := H9.rg)
                              | (go_at_call 14; (with_reducible refine (US2 L9).mono ?_); rintro e wa ⟨rfl, hma⟩; have Ha := H9.ext hma; have La := Ha.lg; have Ra := Ha.rg)
                              | (go_at_call 15; (with_reducible refine (RO2 La Ra).mono ?_); rintro e wb ⟨rfl, hmb⟩; have Hb := Ha.ext hmb; have Lb := Hb.lg; have Rb := Hb.rg; have Db := Hb.B.D.b)
                              | (go_at_call 12; (with_reducible refine (LA2 Lb).mono ?_); rintro e wc ⟨rfl, rfl⟩)
                              | (go_at_call 13; (with_reducible refine (DU2 Lb).mono ?_); rintro e wc ⟨rfl, rfl⟩)
                              | (go_at_call 11; (with_reducible refine (EP2 Lb).mono ?_); rintro e wc ⟨rfl, rfl⟩)
                              | (go_at_call 25; (with_reducible refine (CN Rb Db).mono ?_); rintro e wc ⟨rfl, rfl⟩))
                go_roundw
                case rel => exact ⟨j + 1, _, _, by omega, by go_num, by rw [HN.out]; exact lo2, Hb⟩
                case measure => simp [intOf]; omega
            · skip
              have d1 : decide ((n : Int) ≤ 32) = true := decide_eq_true (by omega)
              have d2 : decide ((32 : Int) < (n : Int)) = false := decide_eq_false (by omega)
              have d3 : decide ((n : Int) > 32) = false := decide_eq_false (by omega)
              have f1 : sizeF (n : Int) = 22 + (n : Int) := if_neg (by omega)
              rw [f1] at SZ
              clear f1
              have e0 : s.appE (c * 64) (zeros n) = 0 := appE_yes (by omega) (by omega) (by omega)
              have d4 : decide ((T : Int) = 18446744073709551615) = false := decide_eq_false (by omega)
              have d5 : decide (22 + (n : Int) ≤ (N : Int) - (U : Int)) = true := decide_eq_true (by omega)
              have y9 : (T : Int) ≤ 18446744073709551614 := by omega
              obtain ⟨e1, e2⟩ := app_yes e0
              have lo1 := loc.app (zeros n)
              rw [e1] at lo1
              rw [e0, e1, e2, ← hT0, Int.natCast_add, show ((1 : Nat) : Int) = 1 from rfl] at AP
              have pu := put_u s (zeros n)
              have pt : (s.put (zeros n)).t = T + 1 := by rw [hT0]; rfl
              obtain ⟨s1, hs1⟩ : ∃ x, x = s.put (zeros n) := ⟨_, rfl⟩
              rw [← hs1] at AP lo1 pu pt
              rw [← hU, hzl'] at pu
              have RO1 := fun {w bw} (h : Lg w l r bw s1) (hR : Rgn w r p 1 c 64) => lRoom_any l r p c bw s1 w h hR lo1.n (by omega)
              have US1 := fun {w bw} (h : Lg w l r bw s1) => lUsed_any l r bw s1 w h (by omega)
              have LA1 := fun {w bw} (h : Lg w l r bw s1) => lLast_any l r bw s1 w h
              rw [pu, ← hN, show ((N : Int) - ((U + (22 + n) : Nat) : Int)) = (N : Int) - (U : Int) - 22 - (n : Int) by omega] at RO1
              rw [pu, show (((U + (22 + n) : Nat) : Int)) = (N : Int) - ((N : Int) - (U : Int) - 22 - (n : Int)) by omega] at US1
              rw [pt] at LA1
              obtain ⟨T1, hT1⟩ : ∃ T1, T1 = T + 1 := ⟨_, rfl⟩
              rw [← hT1] at LA1 pt
              have lo2 := lo1.reset hep
              have RS := fun {w bw} (H : Wg W w p q P Q dv dv L M l r h c bw s1 []) => H.reset ep lo1 (by omega)
              have US2 := fun {w bw} (h : Lg w l r bw (s1.reset ep)) => lUsed_any l r bw (s1.reset ep) w h (Nat.zero_le _)
              have RO2 := fun {w bw} (h : Lg w l r bw (s1.reset ep)) (hR : Rgn w r p 1 c 64) => lRoom_any l r p c bw (s1.reset ep) w h hR (Nat.zero_le _) (by omega)
              have LA2 := fun {w bw} (h : Lg w l r bw (s1.reset ep)) => lLast_any l r bw (s1.reset ep) w h
              have DU2 := fun {w bw} (h : Lg w l r bw (s1.reset ep)) => lDurable_any l r bw (s1.reset ep) w h
              have EP2 := fun {w bw} (h : Lg w l r bw (s1.reset ep)) => lEpoch_any l r bw (s1.reset ep) w h
              have q1 : (s1.reset ep).u = 0 := rfl
              have q2 : (s1.reset ep).t = T1 := pt
              have q3 : (s1.reset ep).d = T1 := pt
              have q4 : (s1.reset ep).e = ep := rfl
              rw [q1, show ((0 : Nat) : Int) = 0 from rfl] at US2
              rw [q1, ← hN, show ((N : Int) - ((0 : Nat) : Int)) = (N : Int) by omega] at RO2
              rw [q2] at LA2
              rw [q3] at DU2
              rw [q4] at EP2
              clear hT1
              obtain ⟨s2, hs2⟩ : ∃ x, x = s1.reset ep := ⟨_, rfl⟩
              rw [← hs2] at lo2 RS US2 RO2 LA2 DU2 EP2
              have Lr := Hr.lg
              have Rx0 := Hr.rg
              clear hs2 q1 q2 q3 q4 pt hN hcc hU hT0 hu ht hzl' e0 e1 e2 loc lo pu hs1
              cases hq : ((j : Int) % 7 == 6) with
              | false =>
                go_wp2_with (first
                              | (with_reducible refine st_make ?_)
                              | (go_at_call 23; (with_reducible refine (PK _).mono ?_); rintro e w1 ⟨rfl, rfl⟩)
                              | (go_at_call 15; (with_reducible refine (RO Lr Rx0).mono ?_); rintro e w1 ⟨rfl, hm1⟩; have H1 := Hr.ext hm1; have L1 := H1.lg)
                              | (go_at_call 12; (with_reducible refine (LA L1).mono ?_); rintro e w2 ⟨rfl, rfl⟩))
                refine StopOp.go rfl fun K hK => ?_
                refine wp_make (nl := n) (nc := n) stB (by rfl) (by rfl) rfl rfl (Nat.le_refl _) (by omega) (by omega) ?_
                intro g3 w3 hg31 hg32 hm3 hX3
                simp only [put_some, List.set_cons_succ, List.set_cons_zero]
                refine hK _ _ ?_
                clear hK K
                have hs3 : Bs w3 (.slice (some ⟨g3, 0, none⟩) n n) (zeros n) := (Ob.made hX3 (by omega)).bs
                have H3 := H1.ext hm3
                go_wp2_with (first
                              | (go_at_call 7; (with_reducible refine (AP H3 hs3).mono ?_); rintro e w4 ⟨rfl, bw4, H4, hm4, _⟩; have L4 := H4.lg; have R4 := H4.rg)
                              | (go_at_call 24; (with_reducible refine (SZ _).mono ?_); rintro e w5 ⟨rfl, rfl⟩)
                              | (go_at_call 15; (with_reducible refine (RO1 L4 R4).mono ?_); rintro e w5 ⟨rfl, hm5⟩; have H5 := H4.ext hm5; have L5 := H5.lg; have R5 := H5.rg)
                              | (go_at_call 14; (with_reducible refine (US1 L5).mono ?_); rintro e w6 ⟨rfl, hm6⟩; have H6 := H5.ext hm6; have L6 := H6.lg; have R6 := H6.rg)
                              | (go_at_call 15; (with_reducible refine (RO1 L6 R6).mono ?_); rintro e w7 ⟨rfl, hm7⟩; have H7 := H6.ext hm7; have L7 := H7.lg))
                go_roundw
                case rel => exact ⟨j + 1, _, _, by omega, by go_num, by rw [HN.out]; exact lo1, H7⟩
                case measure => simp [intOf]; omega
              | true =>
                go_wp2_with (first
                              | (with_reducible refine st_make ?_)
                              | (go_at_call 23; (with_reducible refine (PK _).mono ?_); rintro e w1 ⟨rfl, rfl⟩)
                              | (go_at_call 15; (with_reducible refine (RO Lr Rx0).mono ?_); rintro e w1 ⟨rfl, hm1⟩; have H1 := Hr.ext hm1; have L1 := H1.lg)
                              | (go_at_call 12; (with_reducible refine (LA L1).mono ?_); rintro e w2 ⟨rfl, rfl⟩))
                refine StopOp.go rfl fun K hK => ?_
                refine wp_make (nl := n) (nc := n) stB (by rfl) (by rfl) rfl rfl (Nat.le_refl _) (by omega) (by omega) ?_
                intro g3 w3 hg31 hg32 hm3 hX3
                simp only [put_some, List.set_cons_succ, List.set_cons_zero]
                refine hK _ _ ?_
                clear hK K
                have hs3 : Bs w3 (.slice (some ⟨g3, 0, none⟩) n n) (zeros n) := (Ob.made hX3 (by omega)).bs
                have H3 := H1.ext hm3
                go_wp2_with (first
                              | (go_at_call 7; (with_reducible refine (AP H3 hs3).mono ?_); rintro e w4 ⟨rfl, bw4, H4, hm4, _⟩; have L4 := H4.lg; have R4 := H4.rg)
                              | (go_at_call 24; (with_reducible refine (SZ _).mono ?_); rintro e w5 ⟨rfl, rfl⟩)
                              | (go_at_call 15; (with_reducible refine (RO1 L4 R4).mono ?_); rintro e w5 ⟨rfl, hm5⟩; have H5 := H4.ext hm5; have L5 := H5.lg; have R5 := H5.rg)
                              | (go_at_call 14; (with_reducible refine (US1 L5).mono ?_); rintro e w6 ⟨rfl, hm6⟩; have H6 := H5.ext hm6; have L6 := H6.lg; have R6 := H6.rg)
                              | (go_at_call 15; (with_reducible refine (RO1 L6 R6).mono ?_); rintro e w7 ⟨rfl, hm7⟩; have H7 := H6.ext hm7; have L7 := H7.lg)
                              | (go_at_call 12; (with_reducible refine (LA1 L7).mono ?_); rintro e w8 ⟨rfl, rfl⟩)
                              | (go_at_call 9; (with_reducible refine (RS H7).mono ?_); rintro e w9 ⟨rfl, H9, hm9⟩; have L9 := H9.lg; have R9 := H9.rg)
                              | (go_at_call 14; (with_reducible refine (US2 L9).mono ?_); rintro e wa ⟨rfl, hma⟩; have Ha := H9.ext hma; have La := Ha.lg; have Ra := Ha.rg)
                              | (go_at_call 15; (with_reducible refine (RO2 La Ra).mono ?_); rintro e wb ⟨rfl, hmb⟩; have Hb := Ha.ext hmb; have Lb := Hb.lg; have Rb := Hb.rg; have Db := Hb.B.D.b)
                              | (go_at_call 12; (with_reducible refine (LA2 Lb).mono ?_); rintro e wc ⟨rfl, rfl⟩)
                              | (go_at_call 13; (with_reducible refine (DU2 Lb).mono ?_); rintro e wc ⟨rfl, rfl⟩)
                              | (go_at_call 11; (with_reducible refine (EP2 Lb).mono ?_); rintro e wc ⟨rfl, rfl⟩)
                              | (go_at_call 25; (with_reducible refine (CN Rb Db).mono ?_); rintro e wc ⟨rfl, rfl⟩))
                go_roundw
                case rel => exact ⟨j + 1, _, _, by omega, by go_num, by rw [HN.out]; exact lo2, Hb⟩
                case measure => simp [intOf]; omega
      · have d2 : decide ((j : Int) < 200) = false := decide_eq_false (by omega)
        have y0 : (j : Int) < zs.length := by omega
        have Mr := Hr.B.m
        have hTr := hT.ext Mr
        go_wp2_with (go_at_call 19; (with_reducible refine (AW _ hTr).mono ?_); rintro e wn ⟨rfl, hmn⟩)
        go_ret
        exact ⟨rfl, Mr.ext hmn⟩
    · obtain rfl : j = zs.length := by omega
      have Mr := Hr.B.m
      have hTr := hT.ext Mr
      go_wp2_with (go_at_call 19; (with_reducible refine (AW _ hTr).mono ?_); rintro e wn ⟨rfl, hmn⟩)
      go_ret
      exact ⟨rfl, Mr.ext hmn⟩
end Go.Proofs.YtfepggdljhiemaaDoor
