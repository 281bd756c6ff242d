import Derived.Test.YtboigcnpamldlaaDoorFrI
import Derived.Test.YtboigcnpamldlaaDoorApartB
/-! Lists of frames, read; FrameAgain. -/
set_option linter.unusedVariables false
set_option linter.unusedSimpArgs false
set_option maxRecDepth 100000
namespace Go.Proofs.YtboigcnpamldlaaDoor
open Go.RowKit Gw

theorem frs_cells (rest : List Value) : ∀ (L : List Fi) (i : Nat) (hi : i < L.length), (L.flatMap Fi.cells ++ rest)[i * 3]? = some (.int .u64 (L[i].f.e : Nat)) ∧ (L.flatMap Fi.cells ++ rest)[i * 3 + 1]? = some (.int .u64 (L[i].f.s : Nat)) ∧ (L.flatMap Fi.cells ++ rest)[i * 3 + 2]? = some L[i].v
  | [], i, hi => absurd hi (by simp)
  | x :: L, 0, _ => ⟨rfl, rfl, rfl⟩
  | x :: L, i + 1, hi => by
    have h := frs_cells rest L i (by simpa using hi)
    have e : ∀ k, ((x :: L).flatMap Fi.cells ++ rest)[(i + 1) * 3 + k]? = (L.flatMap Fi.cells ++ rest)[i * 3 + k]? := fun k => by
      rw [show (i + 1) * 3 + k = (i * 3 + k) + 3 by omega]
      rfl
    refine ⟨(e 0).trans h.1, (e 1).trans h.2.1, (e 2).trans h.2.2⟩
theorem Frs.at3 {w : World} {base n cap : Nat} {ao : Option Addr} {L : List Fi} (h : Frs w base (.slice ao n cap) L) {i : Nat} (hi : i < L.length) :
    ∃ g t cs, ao = some ⟨g, 0, none⟩ ∧ Blk w g t cs ∧ w.cell? ⟨g, i * 3, none⟩ = some (.int .u64 (L[i].f.e : Nat)) ∧ w.cell? ⟨g, i * 3 + 1, none⟩ = some (.int .u64 (L[i].f.s : Nat)) ∧ w.cell? ⟨g, i * 3 + 2, none⟩ = some L[i].v ∧ Bs w L[i].v L[i].f.l := by
  rcases Ow.blk h.ow with ⟨h1, h2, _⟩ | ⟨g, c, rest, h1, hB, _⟩
  · omega
  · injection h1 with e1 e2 e3
    obtain ⟨c0, c1, c2⟩ := frs_cells rest L i hi
    exact ⟨g, _, _, e1, hB, hB.cell' c0, hB.cell' c1, hB.cell' c2, (h.ob (List.getElem_mem hi)).1.bs⟩
theorem Frs.nx {w : World} {base n : Nat} {v : Value} {L : List Fi} (h : Frs w base v L) (hl : L.length = n) : ∃ ao cap, v = .slice ao n cap ∧ n ≤ cap ∧ cap ≤ 9223372036854775807 := hl ▸ h.ow.sl.form
theorem frs_d {L : List Fi} {R : List (Nat × Fv)} (h : L.map Fi.d = R) {i : Nat} (hi : i < L.length) : ∃ hR : i < R.length, L[i].f = R[i].2 := by
  subst h
  exact ⟨by simpa using hi, by simp [Fi.d]⟩
theorem step_take {b : List UInt8} {c e s p : Nat} (h : stepF (b.take c) e s p = true) : stepF b e s p = true ∧ parF ((b.take c).drop p) = parF (b.drop p) ∧ numF ((b.take c).drop p) = numF (b.drop p) := by
  obtain ⟨h1, h2, h3, h4⟩ := stepF_parts h
  have e0 : (b.take c).drop p = (b.drop p).take (c - p) := List.drop_take
  rw [e0] at h2 h3 h4 ⊢
  obtain ⟨g1, g2, g3, _⟩ := errF_of_take h2
  rw [g2] at h3 h4
  refine ⟨?_, g2, ?_⟩
  · unfold stepF
    rw [g1, h3, h4]
    simp [h1]
  · unfold numF
    rw [if_pos h2, if_pos g1, g3]
theorem rowS_pre {b : List UInt8} {c e : Nat} : ∀ (k s p : Nat), b.length ≤ p + k → rowS (b.take c) e s p <+: rowS b e s p
  | 0, s, p, h => by
    cases h1 : stepF (b.take c) e s p with
    | false => rw [rowS_no h1]; exact List.nil_prefix
    | true => have h2 := step_num (step_take h1).1; omega
  | k + 1, s, p, h => by
    cases h1 : stepF (b.take c) e s p with
    | false => rw [rowS_no h1]; exact List.nil_prefix
    | true =>
      obtain ⟨g1, g2, g3⟩ := step_take h1
      have g4 := step_num g1
      rw [rowS_yes h1, rowS_yes g1, g2, g3]
      obtain ⟨t, ht⟩ := rowS_pre (b := b) (c := c) (e := e) k (s + 1) (p + numF (b.drop p)) (by omega)
      exact ⟨t, by rw [List.cons_append, ht]⟩
theorem endF_ge : ∀ (L : List (Nat × Fv)) (p : Nat), p ≤ endF L p
  | [], p => Nat.le_refl _
  | x :: L, p => by rw [endF_cons]; have := endF_ge L (p + (22 + x.2.l.length)); omega
theorem endF_pre {L M : List (Nat × Fv)} (h : L <+: M) (p : Nat) : endF L p ≤ endF M p := by
  obtain ⟨t, rfl⟩ := h
  rw [endF_app]
  exact endF_ge _ _
set_option maxRecDepth 1000000 in
set_option maxHeartbeats 8000000 in
theorem frameAgain_0 (b : List UInt8) (v : Value) (e s : Nat) (c : Int) (W : World) (hb : Bs W v b) (hl : b.length ≤ 1048576) (he : e < 18446744073709551616) (hs : s < 18446744073709551616) (hc1 : -9223372036854775808 ≤ c) (hc2 : c ≤ 9223372036854775807) (hT : TabC W) (hE : errF b = 0) :
    Calls Tryd.prog 7 #[v, .agg #[.int .u64 e, .int .u64 s], .int .i64 c] W fun e w' => e = .returned (.bool true) ∧ Mod [] W w' := by
  have AW := fun w h => frawake_any w h
  have GE := fun w v h hT => fget_any b v w h (by omega) hT
  have hnum := numF_le b
  have hpf := parF_ok hE
  have hg : getF b = parF b := if_pos hE
  have hfp := frame_par hE
  have hN : numF b = 22 + nb b 0 2 := if_pos hE
  unfold GetF at GE
  rw [hg, hE] at GE
  rw [← hN] at hfp
  unfold Fv.b at hfp
  obtain ⟨⟨p1, p2, p3⟩, _⟩ := hpf
  have PU := fun w v h hT => fput_any (parF b).e (parF b).s (parF b).l v w h p1 p2 hT
  unfold PutF at PU
  rw [if_neg (by omega), if_neg (by omega), hfp] at PU
  have hN2 : numF b ≤ b.length := hnum.1
  clear hnum hfp hN hg hE
  obtain ⟨f, hf⟩ : ∃ f, f = parF b := ⟨_, rfl⟩
  obtain ⟨N, hN⟩ : ∃ f, f = numF b := ⟨_, rfl⟩
  rw [← hf, ← hN] at GE
  rw [← hf, ← hN] at PU
  rw [← hN] at hN2
  rw [← hf] at p3
  clear hf hN
  obtain ⟨fe, fs, fl⟩ := f
  dsimp only at GE PU p3
  have y1 : (N : Int) ≤ b.length := by omega
  clear p1 p2
  have pg := pick_ge c ((b.length : Int) + 1)
  have pl := pick_lt c ((b.length : Int) + 1) (by omega)
  have PK := fun w => pick_any c ((b.length : Int) + 1) w hc1 hc2 (by omega) (by omega)
  obtain ⟨K, hK⟩ : ∃ K : Nat, (K : Int) = pick c ((b.length : Int) + 1) := ⟨_, Int.toNat_of_nonneg pg⟩
  rw [← hK] at pg pl PK
  clear hK pg
  have S1 := fun w v h hT => scan_any b e s v w h (by omega) hs he hT
  have S2 := fun w v h hT => scan_any (b.take K) e s v w h (by rw [List.length_take]; omega) hs he hT
  unfold ScanP at S1 S2
  have hpre := rowS_pre (b := b) (c := K) (e := e) b.length s 0 (by omega)
  have hk1 := endF_le (b := b) (e := e) b.length s 0 (by omega) (by omega)
  have hk2 := endF_pre hpre 0
  have hn2 := hpre.length_le
  have hn1 := rowS_len (b := b) (e := e) b.length s 0 (by omega)
  obtain ⟨R1, hR1⟩ : ∃ R, R = rowS b e s 0 := ⟨_, rfl⟩
  obtain ⟨R2, hR2⟩ : ∃ R, R = rowS (b.take K) e s 0 := ⟨_, rfl⟩
  rw [← hR1] at S1 hpre hk1 hk2 hn2 hn1
  have hat : ∀ i (h : i < R1.length), R1[i].2.e = e ∧ R1[i].2.s = s + i + 1 ∧ R1[i].2.ok := by subst hR1; exact rowS_at (b := b) (e := e) b.length s 0 (by omega)
  rw [← hR2] at S2 hpre hk2 hn2
  clear hR1 hR2
  obtain ⟨k1, hk1'⟩ : ∃ k, k = endF R1 0 := ⟨_, rfl⟩
  obtain ⟨k2, hk2'⟩ : ∃ k, k = endF R2 0 := ⟨_, rfl⟩
  rw [← hk1'] at S1 hk1 hk2
  rw [← hk2'] at S2 hk2
  clear hk1' hk2'
  obtain ⟨n1, hn1'⟩ : ∃ k, k = R1.length := ⟨_, rfl⟩
  obtain ⟨n2, hn2'⟩ : ∃ k, k = R2.length := ⟨_, rfl⟩
  rw [← hn1'] at hn1 hn2
  rw [← hn2'] at hn2
  have HN1 := Lib.hid hn1'
  have HN2 := Lib.hid hn2'
  have HAT := Lib.hid hat
  have HPRE := Lib.hid hpre
  clear hn1' hn2' hat hpre
  have z1 : (n2 : Int) ≤ n1 := by omega
  have z2 : (k2 : Int) ≤ k1 := by omega
  have z3 : (k1 : Int) ≤ b.length := by omega
  have z4 : (n1 : Int) ≤ 1048576 := by omega
  clear hn1 hn2 hk1 hk2
  obtain ⟨ao, cap, rfl, hcap, _⟩ := hb.form
  have y9 : (K : Int) ≤ cap := by omega
  go_enter Tryd.func7, Tryd.ntmps7
  go_wp2_with (with_reducible refine st_box ?_)
  refine StopOp.go rfl fun K hK => ?_
  refine wp_box (v := .agg #[.int .u64 (e : Nat), .int .u64 (s : Nat)]) (by rfl) ?_
  intro q w1 hq1 hq2 hm1 hB1
  simp only [put_some, List.set_cons_succ, List.set_cons_zero]
  refine hK _ _ ?_
  clear hK K
  have hQ1 : Blk w1 q 58 [.int .u64 (e : Nat), .int .u64 (s : Nat)] := hB1
  have hT1 := hT.ext hm1
  go_wp2_with (go_at_call 10; (with_reducible refine (AW _ hT1).mono ?_); rintro e w2 ⟨rfl, hm2⟩)
  have hQ2 := (hQ1.ext hm2).ext (Mod.drew [] _)
  have hm02 := (hm1.ext hm2).ext (Mod.drew [] _)
  refine wp_region_T [⟨0, true, []⟩, ⟨1, true, []⟩, ⟨2, true, []⟩, ⟨3, true, []⟩, ⟨4, true, []⟩, ⟨5, true, []⟩] (by kernel_rfl) (by kernel_rfl) ?_
  obtain ⟨w3, hw3⟩ : ∃ x, x = w2.drew := ⟨_, rfl⟩
  rw [← hw3] at hQ2 hm02 ⊢
  clear hw3
  have q0 := hQ2.cell' (i := 0) rfl
  have q1 := hQ2.cell' (i := 1) rfl
  iterate 6 (refine wpT_n rfl rfl (fun K hK => ?_); go_wp2_with fail)
  refine wpT_nil ?_
  have hb3 := hb.ext hm02
  have hT3 := hT.ext hm02
  clear hQ1 hB1 hT1
  go_wp2_with (first
                | (with_reducible refine st_alloc ?_)
                | (go_at_call 20; refine (GE _ _ hb3 hT3).mono ?_; rintro e w4 ⟨v4, rfl, ho4, hn4, hm4⟩; obtain ⟨ao4, cap4, rfl, _, _⟩ := Ob.nx ho4 rfl))
  refine StopOp.go rfl fun K hK => ?_
  refine wp_alloc zero_frame ?_
  intro g w5 hg1 hg2 hm5 hB5
  simp only [put_some, List.set_cons_succ, List.set_cons_zero]
  refine hK _ _ ?_
  clear hK K
  go_wp2_with (with_reducible refine st_store ?_)
  refine StopOp.go rfl fun K hK => ?_
  refine wp_store (u := .agg #[.int .u64 fe, .int .u64 fs, .slice ao4 fl.length cap4]) (by rfl) (by rfl) (by kernel_rfl) hB5 (by simp [Value.cells]) (by simp [Value.cells, Value.oneCell']) ?_
  intro w6 hm6 hB6
  refine hK _ _ ?_
  clear hK K
  have hG6 : Blk w6 g 25 [.int .u64 fe, .int .u64 fs, .slice ao4 fl.length cap4] := hB6
  have hm46 : Mod [] w4 w6 := hm5.fresh hm6 (by simpa using hg1)
  have hb6 := (hb3.ext hm4).ext hm46
  have hM6 := (hm02.ext hm4).ext hm46
  have hT6 := hT.ext hM6
  have ho6 := (ho4.ext hm46).bs
  have x0 := hG6.cell' (i := 0) rfl
  have x1 := hG6.cell' (i := 1) rfl
  have x2 := hG6.cell' (i := 2) rfl
  clear hB5 hB6 hm5 hm6 hm4 hm46 ho4 hn4
  have hp6 := hb6.pref rfl (k := N) (by omega) (by omega)
  have y8 : (N : Int) ≤ cap := by omega
  go_wp2_with (first
                | (go_at_call 12; refine (PU _ _ ho6 hT6).mono ?_; rintro e w7 ⟨v7, rfl, ho7, hn7, hm7⟩; obtain ⟨ao7, cap7, rfl, _, _⟩ := Ob.nx ho7 (n := N) (List.length_take_of_le hN2); have hp7 := hp6.ext hm7; have hb7 := ho7.bs)
                | (go_at_call 16; refine (same_yes (b.take N) (b.take N) _ _ _ hb7 hp7 rfl).mono ?_; rintro e w7' ⟨rfl, hm7'⟩; have hb77 := (hb6.ext hm7).ext hm7'; have hT77 := (hT6.ext hm7).ext hm7' )
                | (go_at_call 25; (with_reducible refine (S1 _ _ hb77 hT77).mono ?_); rintro e w8 ⟨v8, L1, rfl, hL1, hF1, hm8⟩; obtain ⟨ao8, cap8, rfl, _, _⟩ := hF1.nx (n := n1) (by rw [HN1.out, ← hL1, List.length_map]); have hb8 := hb77.ext hm8; have hT8 := hT77.ext hm8; have hp8 := hb8.pref rfl (k := K) (by omega) (by omega))
                | (go_at_call 32; (with_reducible refine (PK _).mono ?_); rintro e w8' ⟨rfl, rfl⟩)
                | (go_at_call 25; (with_reducible refine (S2 _ _ hp8 hT8).mono ?_); rintro e w9 ⟨v9, L2, rfl, hL2, hF2, hm9⟩; obtain ⟨ao9, cap9, rfl, _, _⟩ := hF2.nx (n := n2) (by rw [HN2.out, ← hL2, List.length_map])))
  have hF1' := hF1.ext hm9
  have hM9 := (((hM6.ext hm7).ext hm7').ext hm8).ext hm9
  have HL1 := Lib.hid hL1
  have HL2 := Lib.hid hL2
  clear hF1 hm8 hm9 hL1 hL2 hb8 hT8 hp8
  have dd1 : decide (n1 < n2) = false := decide_eq_false (by omega)
  have dd2 : decide (k1 < k2) = false := decide_eq_false (by omega)
  have dd3 : decide (b.length < k1) = false := decide_eq_false (by omega)
  simp only [dd1, dd2, dd3, Bool.or_false]
  clear dd1 dd2 dd3
  go_loopw [18] (fun i wr => ∃ j : Nat, j ≤ n1 ∧ i = .int .i64 j ∧ Mod [] w9 wr) (fun i _ => n1 - (intOf i).toNat)
  case atStart => exact ⟨0, Nat.zero_le _, rfl, Mod.refl _ _⟩
  case round =>
    clear z1 z2 z3
    obtain ⟨j, hj, rfl, hmr⟩ := hrel
    by_cases hlt : j < n1
    · have j1 : j < L1.length := by have := HN1.out; rw [← HL1.out, List.length_map] at this; omega
      obtain ⟨jR, hf1⟩ := frs_d HL1.out j1
      obtain ⟨t1, t2, t3⟩ := HAT.out j jR
      rw [← hf1] at t1 t2 t3
      have hFr := hF1'.ext (hmr.ext (Mod.drew [] _))
      obtain ⟨p, tp, cp, rfl, hBp, c0, c1, c2, hbs⟩ := hFr.at3 j1
      rw [t1] at c0
      rw [t2] at c1
      have t4 : (s : Int) + j + 1 < 18446744073709551616 := by have := t3.s; omega
      have t5 : (j : Int) < n1 := by omega
      by_cases hlt2 : j < n2
      · have j2 : j < L2.length := by have := HN2.out; rw [← HL2.out, List.length_map] at this; omega
        obtain ⟨jR2, hf2⟩ := frs_d HL2.out j2
        have hsame : L2[j].f = L1[j].f := by
          rw [hf1, hf2]
          obtain ⟨t, ht⟩ := HPRE.out
          have : R1[j]? = R2[j]? := by rw [← ht, List.getElem?_append_left jR2]
          rw [List.getElem?_eq_getElem jR, List.getElem?_eq_getElem jR2] at this
          rw [Option.some.inj this]
        have hFr2 := hF2.ext (hmr.ext (Mod.drew [] _))
        obtain ⟨p2, tp2, cp2, rfl, hBp2, d0, d1, d2, hbs2⟩ := hFr2.at3 j2
        rw [hsame, t1] at d0
        rw [hsame, t2] at d1
        rw [hsame] at hbs2
        have t6 : (j : Int) < n2 := by omega
        have hmr' := hmr.ext (Mod.drew [] wr)
        obtain ⟨f, hf⟩ : ∃ f, f = L1[j].f := ⟨_, rfl⟩
        obtain ⟨u1, hu1⟩ : ∃ f, f = L1[j].v := ⟨_, rfl⟩
        obtain ⟨u2, hu2⟩ : ∃ f, f = L2[j].v := ⟨_, rfl⟩
        rw [← hf] at hbs hbs2 t1 t2
        rw [← hu1] at c2 hbs
        rw [← hu2] at d2 hbs2
        have SF := fun w h1 h2 => sameF_yes f u1 u2 w h1 h2
        unfold Fv.v at SF
        rw [t1, t2] at SF
        have e1 : (((s + j + 1 : Nat)) : Int) = (s : Int) + (j : Nat) + 1 := by omega
        rw [e1] at SF c1 d1
        clear hf hu1 hu2 hsame hf1 hf2 t1 t2 t3 hFr hFr2 e1
        go_wp2_with fail
        refine wp_region_T [⟨0, true, []⟩, ⟨1, true, []⟩, ⟨2, true, []⟩, ⟨3, true, []⟩, ⟨4, true, []⟩, ⟨5, true, []⟩, ⟨6, true, []⟩, ⟨7, true, []⟩, ⟨8, true, []⟩, ⟨9, true, []⟩, ⟨10, true, []⟩, ⟨11, true, []⟩, ⟨12, true, []⟩, ⟨13, true, []⟩, ⟨14, true, []⟩, ⟨15, true, []⟩, ⟨16, true, []⟩, ⟨17, true, []⟩, ⟨18, true, []⟩, ⟨19, true, []⟩, ⟨20, true, []⟩, ⟨21, true, []⟩, ⟨22, true, []⟩, ⟨23, true, []⟩, ⟨24, true, []⟩, ⟨25, true, []⟩, ⟨26, true, []⟩, ⟨27, true, []⟩, ⟨28, true, []⟩, ⟨29, true, []⟩, ⟨30, true, []⟩, ⟨31, true, []⟩, ⟨32, true, []⟩, ⟨33, true, []⟩, ⟨34, false, []⟩, ⟨35, true, []⟩, ⟨36, true, []⟩, ⟨37, true, []⟩] (by kernel_rfl) (by kernel_rfl) ?_
        obtain ⟨w0, hw0⟩ : ∃ x, x = wr.drew := ⟨_, rfl⟩
        rw [← hw0] at c0 c1 c2 d0 d1 d2 hbs hbs2 hmr' hBp hBp2 ⊢
        clear hw0
        have hdd : decide (j < n2) = true := decide_eq_true hlt2
        iterate 8 (refine wpT_n rfl rfl (fun K hK => ?_); go_wp2_with fail)
        iterate 11 (refine wpT_gq (gi := 7) rfl rfl rfl rfl rfl (fun K hK => ?_); go_wp2_with fail)
        iterate 2 (refine wpT_n rfl rfl (fun K hK => ?_); go_wp2_with fail)
        iterate 5 (refine wpT_gq (gi := 20) rfl rfl rfl rfl rfl (fun K hK => ?_); go_wp2_with fail)
        iterate 8 (refine wpT_gq (gi := 25) rfl rfl rfl rfl rfl (fun K hK => ?_); go_wp2_with fail)
        refine wpT_gcall (gi := 25) rfl rfl rfl rfl (fun K hK => ?_)
        go_wp2_with (go_at_call 24; refine (SF _ hbs hbs2).mono ?_; rintro e w3 ⟨rfl, hm3⟩)
        refine wpT_gq (gi := 25) rfl rfl rfl rfl rfl (fun K hK => ?_)
        go_wp2_with fail
        refine wpT_gq (gi := 20) rfl rfl rfl rfl rfl (fun K hK => ?_)
        go_wp2_with fail
        refine wpT_n rfl rfl (fun K hK => ?_)
        go_wp2_with fail
        refine wpT_nil ?_
        go_wp2_with fail
        go_roundw
        case rel => exact ⟨j + 1, by omega, by go_num, hmr'.ext hm3⟩
        case measure => simp [intOf]; omega
      · have t6 : (n2 : Int) ≤ j := by omega
        have hmr' := hmr.ext (Mod.drew [] wr)
        have e1 : (((s + j + 1 : Nat)) : Int) = (s : Int) + (j : Nat) + 1 := by omega
        rw [e1] at c1
        clear hf1 t1 t2 t3 hFr e1 hbs
        go_wp2_with fail
        refine wp_region_T [⟨0, true, []⟩, ⟨1, true, []⟩, ⟨2, true, []⟩, ⟨3, true, []⟩, ⟨4, true, []⟩, ⟨5, true, []⟩, ⟨6, true, []⟩, ⟨7, true, []⟩, ⟨8, true, []⟩, ⟨9, true, []⟩, ⟨10, true, []⟩, ⟨11, true, []⟩, ⟨12, true, []⟩, ⟨13, true, []⟩, ⟨14, true, []⟩, ⟨15, true, []⟩, ⟨16, true, []⟩, ⟨17, true, []⟩, ⟨18, true, []⟩, ⟨19, true, []⟩, ⟨20, true, []⟩, ⟨21, true, []⟩, ⟨22, true, []⟩, ⟨23, true, []⟩, ⟨24, true, []⟩, ⟨25, true, []⟩, ⟨26, true, []⟩, ⟨27, true, []⟩, ⟨28, true, []⟩, ⟨29, true, []⟩, ⟨30, true, []⟩, ⟨31, true, []⟩, ⟨32, true, []⟩, ⟨33, true, []⟩, ⟨34, false, []⟩, ⟨35, true, []⟩, ⟨36, true, []⟩, ⟨37, true, []⟩] (by kernel_rfl) (by kernel_rfl) ?_
        obtain ⟨w0, hw0⟩ : ∃ x, x = wr.drew := ⟨_, rfl⟩
        rw [← hw0] at c0 c1 hmr' ⊢
        clear hw0 c2 hBp
        have hdd : decide (j < n2) = false := decide_eq_false hlt2
        iterate 8 (refine wpT_n rfl rfl (fun K hK => ?_); go_wp2_with fail)
        iterate 11 (refine wpT_gq (gi := 7) rfl rfl rfl rfl rfl (fun K hK => ?_); go_wp2_with fail)
        iterate 2 (refine wpT_n rfl rfl (fun K hK => ?_); go_wp2_with fail)
        iterate 5 (refine wpT_gq (gi := 20) rfl rfl rfl rfl rfl (fun K hK => ?_); go_wp2_with fail)
        iterate 10 (refine wpT_gk (gi := 25) rfl rfl rfl rfl rfl rfl (fun K hK => ?_); go_wp2_with fail)
        refine wpT_gq (gi := 20) rfl rfl rfl rfl rfl (fun K hK => ?_)
        go_wp2_with fail
        refine wpT_n rfl rfl (fun K hK => ?_)
        go_wp2_with fail
        refine wpT_nil ?_
        go_wp2_with fail
        go_roundw
        case rel => exact ⟨j + 1, by omega, by go_num, hmr'⟩
        case measure => simp [intOf]; omega
    · obtain rfl : j = n1 := by omega
      go_wp2_with fail
      go_ret
      exact ⟨rfl, hM9.ext hmr⟩
set_option maxRecDepth 1000000 in
set_option maxHeartbeats 8000000 in
theorem frameAgain_1 (b : List UInt8) (v : Value) (e s : Nat) (c : Int) (W : World) (hb : Bs W v b) (hl : b.length ≤ 1048576) (he : e < 18446744073709551616) (hs : s < 18446744073709551616) (hc1 : -9223372036854775808 ≤ c) (hc2 : c ≤ 9223372036854775807) (hT : TabC W) (hE : errF b ≠ 0) :
    Calls Tryd.prog 7 #[v, .agg #[.int .u64 e, .int .u64 s], .int .i64 c] W fun e w' => e = .returned (.bool true) ∧ Mod [] W w' := by
  have AW := fun w h => frawake_any w h
  have GE := fun w v h hT => fget_any b v w h (by omega) hT
  have hg : getF b = fz := if_neg hE
  have hN : numF b = 0 := if_neg hE
  unfold GetF at GE
  rw [hg, hN] at GE
  unfold fz at GE
  dsimp only at GE
  have SZ := fun w va vb h1 h2 => sameF_yes fz va vb w h1 h2
  unfold fz Fv.v at SZ
  dsimp only at SZ
  clear hg hN
  obtain ⟨E, hEE⟩ : ∃ E, E = errF b := ⟨_, rfl⟩
  rw [← hEE] at GE hE
  clear hEE
  have pg := pick_ge c ((b.length : Int) + 1)
  have pl := pick_lt c ((b.length : Int) + 1) (by omega)
  have PK := fun w => pick_any c ((b.length : Int) + 1) w hc1 hc2 (by omega) (by omega)
  obtain ⟨K, hK⟩ : ∃ K : Nat, (K : Int) = pick c ((b.length : Int) + 1) := ⟨_, Int.toNat_of_nonneg pg⟩
  rw [← hK] at pg pl PK
  clear hK pg
  have S1 := fun w v h hT => scan_any b e s v w h (by omega) hs he hT
  have S2 := fun w v h hT => scan_any (b.take K) e s v w h (by rw [List.length_take]; omega) hs he hT
  unfold ScanP at S1 S2
  have hpre := rowS_pre (b := b) (c := K) (e := e) b.length s 0 (by omega)
  have hk1 := endF_le (b := b) (e := e) b.length s 0 (by omega) (by omega)
  have hk2 := endF_pre hpre 0
  have hn2 := hpre.length_le
  have hn1 := rowS_len (b := b) (e := e) b.length s 0 (by omega)
  obtain ⟨R1, hR1⟩ : ∃ R, R = rowS b e s 0 := ⟨_, rfl⟩
  obtain ⟨R2, hR2⟩ : ∃ R, R = rowS (b.take K) e s 0 := ⟨_, rfl⟩
  rw [← hR1] at S1 hpre hk1 hk2 hn2 hn1
  have hat : ∀ i (h : i < R1.length), R1[i].2.e = e ∧ R1[i].2.s = s + i + 1 ∧ R1[i].2.ok := by subst hR1; exact rowS_at (b := b) (e := e) b.length s 0 (by omega)
  rw [← hR2] at S2 hpre hk2 hn2
  clear hR1 hR2
  obtain ⟨k1, hk1'⟩ : ∃ k, k = endF R1 0 := ⟨_, rfl⟩
  obtain ⟨k2, hk2'⟩ : ∃ k, k = endF R2 0 := ⟨_, rfl⟩
  rw [← hk1'] at S1 hk1 hk2
  rw [← hk2'] at S2 hk2
  clear hk1' hk2'
  obtain ⟨n1, hn1'⟩ : ∃ k, k = R1.length := ⟨_, rfl⟩
  obtain ⟨n2, hn2'⟩ : ∃ k, k = R2.length := ⟨_, rfl⟩
  rw [← hn1'] at hn1 hn2
  rw [← hn2'] at hn2
  have HN1 := Lib.hid hn1'
  have HN2 := Lib.hid hn2'
  have HAT := Lib.hid hat
  have HPRE := Lib.hid hpre
  clear hn1' hn2' hat hpre
  have z1 : (n2 : Int) ≤ n1 := by omega
  have z2 : (k2 : Int) ≤ k1 := by omega
  have z3 : (k1 : Int) ≤ b.length := by omega
  have z4 : (n1 : Int) ≤ 1048576 := by omega
  clear hn1 hn2 hk1 hk2
  obtain ⟨ao, cap, rfl, hcap, _⟩ := hb.form
  have y9 : (K : Int) ≤ cap := by omega
  go_enter Tryd.func7, Tryd.ntmps7
  go_wp2_with (with_reducible refine st_box ?_)
  refine StopOp.go rfl fun K hK => ?_
  refine wp_box (v := .agg #[.int .u64 (e : Nat), .int .u64 (s : Nat)]) (by rfl) ?_
  intro q w1 hq1 hq2 hm1 hB1
  simp only [put_some, List.set_cons_succ, List.set_cons_zero]
  refine hK _ _ ?_
  clear hK K
  have hQ1 : Blk w1 q 58 [.int .u64 (e : Nat), .int .u64 (s : Nat)] := hB1
  have hT1 := hT.ext hm1
  go_wp2_with (go_at_call 10; (with_reducible refine (AW _ hT1).mono ?_); rintro e w2 ⟨rfl, hm2⟩)
  have hQ2 := (hQ1.ext hm2).ext (Mod.drew [] _)
  have hm02 := (hm1.ext hm2).ext (Mod.drew [] _)
  refine wp_region_T [⟨0, true, []⟩, ⟨1, true, []⟩, ⟨2, true, []⟩, ⟨3, true, []⟩, ⟨4, true, []⟩, ⟨5, true, []⟩] (by kernel_rfl) (by kernel_rfl) ?_
  obtain ⟨w3, hw3⟩ : ∃ x, x = w2.drew := ⟨_, rfl⟩
  rw [← hw3] at hQ2 hm02 ⊢
  clear hw3
  have q0 := hQ2.cell' (i := 0) rfl
  have q1 := hQ2.cell' (i := 1) rfl
  iterate 6 (refine wpT_n rfl rfl (fun K hK => ?_); go_wp2_with fail)
  refine wpT_nil ?_
  have hb3 := hb.ext hm02
  have hT3 := hT.ext hm02
  clear hQ1 hB1 hT1
  go_wp2_with (first
                | (with_reducible refine st_alloc ?_)
                | (go_at_call 20; refine (GE _ _ hb3 hT3).mono ?_; rintro e w4 ⟨v4, rfl, ho4, hn4, hm4⟩; obtain ⟨ao4, cap4, rfl, _, _⟩ := Ob.nx ho4 (n := 0) rfl))
  refine StopOp.go rfl fun K hK => ?_
  refine wp_alloc zero_frame ?_
  intro g w5 hg1 hg2 hm5 hB5
  simp only [put_some, List.set_cons_succ, List.set_cons_zero]
  refine hK _ _ ?_
  clear hK K
  go_wp2_with (with_reducible refine st_store ?_)
  refine StopOp.go rfl fun K hK => ?_
  refine wp_store (u := .agg #[.int .u64 0, .int .u64 0, .slice ao4 0 cap4]) (by rfl) (by rfl) (by kernel_rfl) hB5 (by simp [Value.cells]) (by simp [Value.cells, Value.oneCell']) ?_
  intro w6 hm6 hB6
  refine hK _ _ ?_
  clear hK K
  have hG6 : Blk w6 g 25 [.int .u64 0, .int .u64 0, .slice ao4 0 cap4] := hB6
  have hm46 : Mod [] w4 w6 := hm5.fresh hm6 (by simpa using hg1)
  have hb6 := (hb3.ext hm4).ext hm46
  have hM6 := (hm02.ext hm4).ext hm46
  have hT6 := hT.ext hM6
  have ho6 := (ho4.ext hm46).bs
  have x0 := hG6.cell' (i := 0) rfl
  have x1 := hG6.cell' (i := 1) rfl
  have x2 := hG6.cell' (i := 2) rfl
  clear hB5 hB6 hm5 hm6 hm4 hm46 ho4 hn4
  have hz6 := (Ob.nil w6).bs
  go_wp2_with (first
                | (go_at_call 24; refine (SZ _ _ _ ho6 hz6).mono ?_; rintro e w7 ⟨rfl, hm7⟩; have hb77 := hb6.ext hm7; have hT77 := hT6.ext hm7)
                | (go_at_call 25; (with_reducible refine (S1 _ _ hb77 hT77).mono ?_); rintro e w8 ⟨v8, L1, rfl, hL1, hF1, hm8⟩; obtain ⟨ao8, cap8, rfl, _, _⟩ := hF1.nx (n := n1) (by rw [HN1.out, ← hL1, List.length_map]); have hb8 := hb77.ext hm8; have hT8 := hT77.ext hm8; have hp8 := hb8.pref rfl (k := K) (by omega) (by omega))
                | (go_at_call 32; (with_reducible refine (PK _).mono ?_); rintro e w8' ⟨rfl, rfl⟩)
                | (go_at_call 25; (with_reducible refine (S2 _ _ hp8 hT8).mono ?_); rintro e w9 ⟨v9, L2, rfl, hL2, hF2, hm9⟩; obtain ⟨ao9, cap9, rfl, _, _⟩ := hF2.nx (n := n2) (by rw [HN2.out, ← hL2, List.length_map])))
  have hF1' := hF1.ext hm9
  have hM9 := ((hM6.ext hm7).ext hm8).ext hm9
  have HL1 := Lib.hid hL1
  have HL2 := Lib.hid hL2
  clear hF1 hm8 hm9 hL1 hL2 hb8 hT8 hp8
  have dd1 : decide (n1 < n2) = false := decide_eq_false (by omega)
  have dd2 : decide (k1 < k2) = false := decide_eq_false (by omega)
  have dd3 : decide (b.length < k1) = false := decide_eq_false (by omega)
  simp only [dd1, dd2, dd3, Bool.or_false]
  clear dd1 dd2 dd3
  go_loopw [18] (fun i wr => ∃ j : Nat, j ≤ n1 ∧ i = .int .i64 j ∧ Mod [] w9 wr) (fun i _ => n1 - (intOf i).toNat)
  case atStart => exact ⟨0, Nat.zero_le _, rfl, Mod.refl _ _⟩
  case round =>
    clear z1 z2 z3
    obtain ⟨j, hj, rfl, hmr⟩ := hrel
    by_cases hlt : j < n1
    · have j1 : j < L1.length := by have := HN1.out; rw [← HL1.out, List.length_map] at this; omega
      obtain ⟨jR, hf1⟩ := frs_d HL1.out j1
      obtain ⟨t1, t2, t3⟩ := HAT.out j jR
      rw [← hf1] at t1 t2 t3
      have hFr := hF1'.ext (hmr.ext (Mod.drew [] _))
      obtain ⟨p, tp, cp, rfl, hBp, c0, c1, c2, hbs⟩ := hFr.at3 j1
      rw [t1] at c0
      rw [t2] at c1
      have t4 : (s : Int) + j + 1 < 18446744073709551616 := by have := t3.s; omega
      have t5 : (j : Int) < n1 := by omega
      by_cases hlt2 : j < n2
      · have j2 : j < L2.length := by have := HN2.out; rw [← HL2.out, List.length_map] at this; omega
        obtain ⟨jR2, hf2⟩ := frs_d HL2.out j2
        have hsame : L2[j].f = L1[j].f := by
          rw [hf1, hf2]
          obtain ⟨t, ht⟩ := HPRE.out
          have : R1[j]? = R2[j]? := by rw [← ht, List.getElem?_append_left jR2]
          rw [List.getElem?_eq_getElem jR, List.getElem?_eq_getElem jR2] at this
          rw [Option.some.inj this]
        have hFr2 := hF2.ext (hmr.ext (Mod.drew [] _))
        obtain ⟨p2, tp2, cp2, rfl, hBp2, d0, d1, d2, hbs2⟩ := hFr2.at3 j2
        rw [hsame, t1] at d0
        rw [hsame, t2] at d1
        rw [hsame] at hbs2
        have t6 : (j : Int) < n2 := by omega
        have hmr' := hmr.ext (Mod.drew [] wr)
        obtain ⟨f, hf⟩ : ∃ f, f = L1[j].f := ⟨_, rfl⟩
        obtain ⟨u1, hu1⟩ : ∃ f, f = L1[j].v := ⟨_, rfl⟩
        obtain ⟨u2, hu2⟩ : ∃ f, f = L2[j].v := ⟨_, rfl⟩
        rw [← hf] at hbs hbs2 t1 t2
        rw [← hu1] at c2 hbs
        rw [← hu2] at d2 hbs2
        have SF := fun w h1 h2 => sameF_yes f u1 u2 w h1 h2
        unfold Fv.v at SF
        rw [t1, t2] at SF
        have e1 : (((s + j + 1 : Nat)) : Int) = (s : Int) + (j : Nat) + 1 := by omega
        rw [e1] at SF c1 d1
        clear hf hu1 hu2 hsame hf1 hf2 t1 t2 t3 hFr hFr2 e1
        go_wp2_with fail
        refine wp_region_T [⟨0, true, []⟩, ⟨1, true, []⟩, ⟨2, true, []⟩, ⟨3, true, []⟩, ⟨4, true, []⟩, ⟨5, true, []⟩, ⟨6, true, []⟩, ⟨7, true, []⟩, ⟨8, true, []⟩, ⟨9, true, []⟩, ⟨10, true, []⟩, ⟨11, true, []⟩, ⟨12, true, []⟩, ⟨13, true, []⟩, ⟨14, true, []⟩, ⟨15, true, []⟩, ⟨16, true, []⟩, ⟨17, true, []⟩, ⟨18, true, []⟩, ⟨19, true, []⟩, ⟨20, true, []⟩, ⟨21, true, []⟩, ⟨22, true, []⟩, ⟨23, true, []⟩, ⟨24, true, []⟩, ⟨25, true, []⟩, ⟨26, true, []⟩, ⟨27, true, []⟩, ⟨28, true, []⟩, ⟨29, true, []⟩, ⟨30, true, []⟩, ⟨31, true, []⟩, ⟨32, true, []⟩, ⟨33, true, []⟩, ⟨34, false, []⟩, ⟨35, true, []⟩, ⟨36, true, []⟩, ⟨37, true, []⟩] (by kernel_rfl) (by kernel_rfl) ?_
        obtain ⟨w0, hw0⟩ : ∃ x, x = wr.drew := ⟨_, rfl⟩
        rw [← hw0] at c0 c1 c2 d0 d1 d2 hbs hbs2 hmr' hBp hBp2 ⊢
        clear hw0
        have hdd : decide (j < n2) = true := decide_eq_true hlt2
        iterate 8 (refine wpT_n rfl rfl (fun K hK => ?_); go_wp2_with fail)
        iterate 11 (refine wpT_gq (gi := 7) rfl rfl rfl rfl rfl (fun K hK => ?_); go_wp2_with fail)
        iterate 2 (refine wpT_n rfl rfl (fun K hK => ?_); go_wp2_with fail)
        iterate 5 (refine wpT_gq (gi := 20) rfl rfl rfl rfl rfl (fun K hK => ?_); go_wp2_with fail)
        iterate 8 (refine wpT_gq (gi := 25) rfl rfl rfl rfl rfl (fun K hK => ?_); go_wp2_with fail)
        refine wpT_gcall (gi := 25) rfl rfl rfl rfl (fun K hK => ?_)
        go_wp2_with (go_at_call 24; refine (SF _ hbs hbs2).mono ?_; rintro e w3 ⟨rfl, hm3⟩)
        refine wpT_gq (gi := 25) rfl rfl rfl rfl rfl (fun K hK => ?_)
        go_wp2_with fail
        refine wpT_gq (gi := 20) rfl rfl rfl rfl rfl (fun K hK => ?_)
        go_wp2_with fail
        refine wpT_n rfl rfl (fun K hK => ?_)
        go_wp2_with fail
        refine wpT_nil ?_
        go_wp2_with fail
        go_roundw
        case rel => exact ⟨j + 1, by omega, by go_num, hmr'.ext hm3⟩
        case measure => simp [intOf]; omega
      · have t6 : (n2 : Int) ≤ j := by omega
        have hmr' := hmr.ext (Mod.drew [] wr)
        have e1 : (((s + j + 1 : Nat)) : Int) = (s : Int) + (j : Nat) + 1 := by omega
        rw [e1] at c1
        clear hf1 t1 t2 t3 hFr e1 hbs
        go_wp2_with fail
        refine wp_region_T [⟨0, true, []⟩, ⟨1, true, []⟩, ⟨2, true, []⟩, ⟨3, true, []⟩, ⟨4, true, []⟩, ⟨5, true, []⟩, ⟨6, true, []⟩, ⟨7, true, []⟩, ⟨8, true, []⟩, ⟨9, true, []⟩, ⟨10, true, []⟩, ⟨11, true, []⟩, ⟨12, true, []⟩, ⟨13, true, []⟩, ⟨14, true, []⟩, ⟨15, true, []⟩, ⟨16, true, []⟩, ⟨17, true, []⟩, ⟨18, true, []⟩, ⟨19, true, []⟩, ⟨20, true, []⟩, ⟨21, true, []⟩, ⟨22, true, []⟩, ⟨23, true, []⟩, ⟨24, true, []⟩, ⟨25, true, []⟩, ⟨26, true, []⟩, ⟨27, true, []⟩, ⟨28, true, []⟩, ⟨29, true, []⟩, ⟨30, true, []⟩, ⟨31, true, []⟩, ⟨32, true, []⟩, ⟨33, true, []⟩, ⟨34, false, []⟩, ⟨35, true, []⟩, ⟨36, true, []⟩, ⟨37, true, []⟩] (by kernel_rfl) (by kernel_rfl) ?_
        obtain ⟨w0, hw0⟩ : ∃ x, x = wr.drew := ⟨_, rfl⟩
        rw [← hw0] at c0 c1 hmr' ⊢
        clear hw0 c2 hBp
        have hdd : decide (j < n2) = false := decide_eq_false hlt2
        iterate 8 (refine wpT_n rfl rfl (fun K hK => ?_); go_wp2_with fail)
        iterate 11 (refine wpT_gq (gi := 7) rfl rfl rfl rfl rfl (fun K hK => ?_); go_wp2_with fail)
        iterate 2 (refine wpT_n rfl rfl (fun K hK => ?_); go_wp2_with fail)
        iterate 5 (refine wpT_gq (gi := 20) rfl rfl rfl rfl rfl (fun K hK => ?_); go_wp2_with fail)
        iterate 10 (refine wpT_gk (gi := 25) rfl rfl rfl rfl rfl rfl (fun K hK => ?_); go_wp2_with fail)
        refine wpT_gq (gi := 20) rfl rfl rfl rfl rfl (fun K hK => ?_)
        go_wp2_with fail
        refine wpT_n rfl rfl (fun K hK => ?_)
        go_wp2_with fail
        refine wpT_nil ?_
        go_wp2_with fail
        go_roundw
        case rel => exact ⟨j + 1, by omega, by go_num, hmr'⟩
        case measure => simp [intOf]; omega
    · obtain rfl : j = n1 := by omega
      go_wp2_with fail
      go_ret
      exact ⟨rfl, hM9.ext hmr⟩
theorem frameAgain_core (b : List UInt8) (v : Value) (e s : Nat) (c : Int) (W : World) (hb : Bs W v b) (hl : b.length ≤ 1048576) (he : e < 18446744073709551616) (hs : s < 18446744073709551616) (hc1 : -9223372036854775808 ≤ c) (hc2 : c ≤ 9223372036854775807) (hT : TabC W) :
    Calls Tryd.prog 7 #[v, .agg #[.int .u64 e, .int .u64 s], .int .i64 c] W fun e w' => e = .returned (.bool true) ∧ Mod [] W w' := by
  by_cases hE : errF b = 0
  · exact frameAgain_0 b v e s c W hb hl he hs hc1 hc2 hT hE
  · exact frameAgain_1 b v e s c W hb hl he hs hc1 hc2 hT hE
end Go.Proofs.YtboigcnpamldlaaDoor
