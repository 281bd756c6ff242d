import Derived.Test.YtdmnogmhnhjdgaaRgM
import Derived.Test.YtdmnogmhnhjdgaaRowJ
/-! RegionSpares. -/
set_option linter.unusedVariables false
set_option linter.unusedSimpArgs false
set_option maxRecDepth 100000
namespace Go.Proofs.Ytdmnogmhnhjdgaa
open Go.RowKit Gw

theorem ab_dev0 (n z i : Nat) : ab (dev0 n z) z i = 0 := by
  unfold ab dev0 Dm.read
  simp only [List.reverse_nil, List.find?_nil]
  rw [List.getD_eq_getElem?_getD, List.getD_eq_getElem?_getD, List.getElem?_replicate]
  split
  · unfold zeros
    rw [Option.getD_some, List.getElem?_replicate]
    split <;> rfl
  · rfl
theorem rdA_lv (f c z : Nat) (m : Dm) (n a k g : Nat) (hok : m.ok) (hsz : m.sz = z) (hfc : f + c ≤ m.dur.length) (h : a + k ≤ c * z) (hg : f * z + a = g) :
    rdA f c z (Lv m n) a k = (Lv m (n + chK z a (a + k)), 0, abs m z g k) := by
  unfold rdA hold
  rw [if_pos (by rw [decide_eq_true_eq]; omega), Int.toNat_natCast, Int.toNat_natCast, rdG_lv f c z m hok hsz hfc (a + k) h _ a n [] rfl (by omega), hg, Nat.add_sub_cancel_left]
  rfl
theorem wrA_lv (f c z : Nat) (m : Dm) (n a : Nat) (b : List UInt8) (hok : m.ok) (hsz : m.sz = z) (hfc : f + c ≤ m.dur.length) (h : a + b.length ≤ c * z) :
    ∃ m' n', wrA f c z (Lv m n) a b = (Lv m' n', 0) ∧ WrL f z m n a (a + b.length) b m' n' := by
  unfold wrA hold
  rw [if_pos (by rw [decide_eq_true_eq]; omega), Int.toNat_natCast]
  exact wrG_lv f c z (a + b.length) h _ a n m b rfl (by omega) hok hsz hfc (by omega)
/-- two regions that are one, and one behind them -/
structure Sp (W w : World) (p q r s o : Nat) (m : Dm) (n : Nat) (L : List Nat) : Prop where
  d : Ps W w p q (Lv m n) L
  r : Rs w r p 1 3 64 L
  s : Rs w s p 1 3 64 L
  o : Rs w o p 4 2 64 L
section
variable {W w w' : World} {p q r s o : Nat} {m m' : Dm} {n n' : Nat} {L L' G : List Nat}
theorem Sp.ext (h : Sp W w p q r s o m n L) (hm : Mod [] w w') : Sp W w' p q r s o m n L := ⟨h.d.ext hm, h.r.ext hm, h.s.ext hm, h.o.ext hm⟩
theorem Sp.turn (h : Sp W w p q r s o m n L) (hd : Pd w' p q (Lv m' n') L') (hm : Mod (p :: L) w w') (hL : ∀ k ∈ L', k ∈ L ∨ w.heap.size ≤ k) : Sp W w' p q r s o m' n' L' :=
  ⟨h.d.turn hd hm hL, h.r.turn hm hL, h.s.turn hm hL, h.o.turn hm hL⟩
theorem Sp.keep (h : Sp W w p q r s o m n L) (hm : Mod G w w') (hG : ∀ g ∈ G, W.heap.size ≤ g ∧ g ∉ p :: L ∧ g ≠ r ∧ g ≠ s ∧ g ≠ o) : Sp W w' p q r s o m n L :=
  ⟨⟨h.d.d.keep0 hm (fun k hk hh => (hG k hh).2.1 hk), h.d.m.fresh hm (fun g hg => (hG g hg).1), h.d.p1, h.d.l1⟩,
    ⟨h.r.1.mod hm (fun hh => (hG r hh).2.2.1 rfl), h.r.2⟩, ⟨h.s.1.mod hm (fun hh => (hG s hh).2.2.2.1 rfl), h.s.2⟩, ⟨h.o.1.mod hm (fun hh => (hG o hh).2.2.2.2 rfl), h.o.2⟩⟩
end
structure Sm (m : Dm) (n j : Nat) : Prop where
  ok : m.ok
  sz : m.sz = 64
  len : m.dur.length = 6
  n : n ≤ 8 * j
  row : m.row.length ≤ 8 * j
  z : ∀ i, 256 ≤ i → ab m 64 i = 0
theorem Sm.zero : Sm (dev0 6 64) 0 0 := ⟨dev0_ok 6 64 (by omega) (by omega) (.inl rfl), rfl, rfl, by omega, by simp [dev0], fun i _ => ab_dev0 6 64 i⟩
theorem Sm.put {m m' : Dm} {n n' j a : Nat} {b : List UInt8} (h : Sm m n j) (hw : WrL 1 64 m n a (a + b.length) b m' n') (hab : a + b.length ≤ 192) : Sm m' n' (j + 1) := by
  have h1 := chK_le (a := a) (e := a + b.length)
  have h2 := hw.n2
  have h3 := hw.row
  have h4 := h.n
  have h5 := h.row
  refine ⟨hw.ok, hw.sz, by rw [hw.dur]; exact h.len, by omega, by omega, fun i hi => ?_⟩
  rw [hw.ab, if_neg (by omega)]
  exact h.z i hi
theorem abs_zero {m : Dm} {g k : Nat} (h : ∀ i, g ≤ i → ab m 64 i = 0) : abs m 64 g k = zeros k := by
  refine List.ext_getElem (by simp [abs_len, zeros]) fun j h1 h2 => ?_
  rw [abs_get, h _ (by omega)]
  simp [zeros]
theorem abs_sub (m : Dm) (z g N A K : Nat) (h : A + K ≤ N) : ((abs m z g N).drop A).take K = abs m z (g + A) K := by
  have e : N = A + (K + (N - A - K)) := by omega
  rw [e, abs_add, abs_add, List.drop_append_of_le_length (by rw [abs_len]; omega), List.drop_of_length_le (by rw [abs_len]; omega), List.nil_append, List.take_append_of_le_length (by rw [abs_len]; omega), List.take_of_length_le (by rw [abs_len]; omega)]
theorem pt_cells {w : World} {b o j : Nat} {x0 x1 : Value} (h : w.rangeAt b (o + j * 2) [x0, x1]) : w.cell? ⟨b, o + j * 2, none⟩ = some x0 ∧ w.cell? ⟨b, o + j * 2 + 1, none⟩ = some x1 := ⟨h 0 _ rfl, h 1 _ rfl⟩
set_option maxRecDepth 1000000 in
set_option maxHeartbeats 16000000 in
theorem regionSpares_core (pv : Value) (os : List Pt) (at_ n_ : Int) (W : World) (hs : Pts W pv os) (wa : i64 at_) (wn : i64 n_) :
    Calls Try.prog 5 #[pv, .int .i64 at_, .int .i64 n_] W fun e w' => e = .returned (.bool true) ∧ Mod [] W w' := by
  obtain ⟨hs1, hs2⟩ := hs
  obtain ⟨aos, caps, rfl, hcs, hcs2⟩ := hs1.form
  have DV := fun w => device_any 5 0 w ⟨by omega, by omega⟩ ⟨by omega, by omega⟩
  simp only [show nS 5 = 6 from by decide, show szZ 0 = 64 from by decide] at DV
  unfold DevP at DV
  have e0 : (⟨dev0 6 64, false, -1, 0⟩ : Pv) = Lv (dev0 6 64) 0 := rfl
  rw [e0] at DV
  have NR := fun w p q L h => gnew_ok p q (Lv (dev0 6 64) 0) L 1 3 1 3 64 w h rfl rfl rfl (by omega) (by decide)
  have NO := fun w p q L h => gnew_ok p q (Lv (dev0 6 64) 0) L 4 2 4 2 64 w h rfl rfl rfl (by omega) (by decide)
  have AW := fun w => gawake_any w
  have hS0 := Sm.zero
  obtain ⟨m0, hm0⟩ : ∃ m, m = dev0 6 64 := ⟨_, rfl⟩
  rw [← hm0] at DV NR NO hS0
  clear hm0 e0
  obtain ⟨N, hN⟩ : ∃ N, N = min os.length 200 := ⟨_, rfl⟩
  have HN := Lib.hid hN
  clear hN
  go_enter Try.func5, Try.ntmps5
  go_wp2_with (first
                | (go_at_call 30; refine (DV _).mono ?_; rintro e w1 ⟨p, q, p', q', L, M, rfl, hP1, _, _, hm1, hg1, _⟩)
                | (go_at_call 31; (with_reducible refine (NR _ _ _ _ hP1).mono ?_); rintro e w2 ⟨r, rfl, hr2, gr2, hm2⟩; have hP2 := hP1.ext hm2)
                | (go_at_call 31; (with_reducible refine (NR _ _ _ _ hP2).mono ?_); rintro e w3 ⟨s, rfl, hs3, gs3, hm3⟩; have hP3 := hP2.ext hm3)
                | (go_at_call 31; (with_reducible refine (NO _ _ _ _ hP3).mono ?_); rintro e w4 ⟨o, rfl, ho4, go4, hm4⟩))
  have hSp4 : Sp W w4 p q r s o m0 0 L := ⟨⟨hP3.ext hm4, ((hm1.ext hm2).ext hm3).ext hm4, hg1 p List.mem_cons_self, fun k hk => hg1 k (List.mem_cons_of_mem _ hk)⟩, ((Rs.new hr2 hP1 gr2).ext hm3).ext hm4, (Rs.new hs3 hP2 gs3).ext hm4, Rs.new ho4 hP3 go4⟩
  clear hP1 hP2 hP3 hr2 hs3 ho4 gr2 gs3 go4 hm1 hm2 hm3 hm4 hg1 DV NR NO
  go_loopw [16, 17, 18, 19] (fun iv _ _ _ wr => ∃ (j : Nat) (m : Dm) (n : Nat) (L : List Nat), iv = .int .i64 j ∧ j ≤ N ∧ Sp W wr p q r s o m n L ∧ Sm m n j) (fun iv _ _ _ _ => N - (intOf iv).toNat)
  case atStart => exact ⟨0, m0, 0, L, rfl, Nat.zero_le _, hSp4, hS0⟩
  case round =>
    clear hSp4 hS0
    obtain ⟨j, m, n, L, rfl, hj, hSp, hSm⟩ := hrel
    obtain ⟨c, hc⟩ : ∃ c, c = decide (j < N) := ⟨_, rfl⟩
    have HC := Lib.hid hc
    clear hc
    go_upto_region 8 with fail
    go_cut [75] (fun u wx => u = .bool c ∧ wr = wx)
    case first =>
      by_cases h1 : j < os.length
      · have y1 : (j : Int) < os.length := by omega
        by_cases h2 : j < 200
        · have y2 : (j : Int) < 200 := by omega
          go_wp2_with fail
          go_meet
          exact ⟨by rw [HC.out, decide_eq_true (show j < N by have := HN.out; omega)]; try (simp; omega), rfl⟩
        · have y2 : (200 : Int) ≤ j := by omega
          go_wp2_with fail
          go_meet
          exact ⟨by rw [HC.out, decide_eq_false (show ¬ j < N by have := HN.out; omega)]; try (simp; omega), rfl⟩
      · have y1 : (os.length : Int) ≤ j := by omega
        go_wp2_with fail
        go_meet
        exact ⟨by rw [HC.out, decide_eq_false (show ¬ j < N by have := HN.out; omega)]; try (simp; omega), rfl⟩
    case rest =>
    obtain ⟨rfl, rfl⟩ := hcut
    cases c with
    | true =>
      have hlt : j < N := of_decide_eq_true HC.out.symm
      have hjo : j < os.length := by have := HN.out; omega
      have hj2 : j < 200 := by have := HN.out; omega
      have y1 : (j : Int) < os.length := by omega
      have y2 : (j : Int) < 200 := by omega
      clear HC
      obtain ⟨b, o', rfl, hcr⟩ := Pts.elem (Sl.ext hs1 hSp.d.m) hjo
      have hop := hs2 _ (List.getElem_mem hjo)
      obtain ⟨op, hop'⟩ : ∃ op, op = os[j] := ⟨_, rfl⟩
      rw [← hop'] at hcr hop
      clear hop'
      have FT := fun w h => fits_any op 192 w h (by omega)
      have hA1 := op.at_le 192
      have hB1 := op.by_le 192
      obtain ⟨A, hA⟩ : ∃ A, A = op.at 192 := ⟨_, rfl⟩
      obtain ⟨B, hB⟩ : ∃ A, A = op.by 192 := ⟨_, rfl⟩
      rw [← hA] at hA1 hB1
      rw [← hB] at hB1
      simp only [← hA, ← hB] at FT
      clear hA hB
      have hAB : A + B.length ≤ 192 := by omega
      obtain ⟨m', n', hw, hWL⟩ := wrA_lv 1 3 64 m n A B hSm.ok hSm.sz (by rw [hSm.len]; omega) (by omega)
      have hSm' := hSm.put hWL hAB
      have q1 := hSm.n
      have q2 := hSm.row
      have WR := fun w L bw h hR hb h1 h2 => gWrite_any r p q 1 3 64 (Lv m n) L A B bw w h hR hb hSm.sz (by show 1 + 3 ≤ m.dur.length; rw [hSm.len]; omega) (by show n + 2 * (3 * 64) ≤ 1000000; omega) (by show m.row.length + 3 * 64 ≤ 1000000; omega) ⟨by omega, by omega⟩ h1 h2
      rw [hw] at WR
      unfold GWrP PdP at WR
      dsimp only at WR
      have LB := fun w v h => lent_any B v w h (by omega)
      have KB := fun w g cap v h hv => kept_any g cap B v w h hv
      have OB := fun w g cap h => over_any g cap B w h (by omega)
      have HS := Lib.hid hSm'
      clear hw hWL hSm' hSm q1 q2 hA1 hB1 hAB
      have hopr : OkPt wr op := hop.ext hSp.d.m
      have hou := hop.1
      clear hop
      obtain ⟨P, u, l⟩ := op
      obtain ⟨aou, capu, hue, _, _⟩ := hou.form
      dsimp only at hue
      subst hue
      obtain ⟨c0, c1⟩ := pt_cells hcr
      clear hcr
      dsimp only at FT hou
      go_wp2_with (first
                    | (go_at_call 32; refine (FT _ hopr).mono ?_; rintro e w1 ⟨u1, rfl, hu1, hm1⟩; have hbW := hu1 W hou; obtain ⟨ao1, cap1, rfl, _, _⟩ := hbW.form; have hSp1 := hSp.ext hm1; have hb1 := hbW.ext hSp1.d.m)
                    | (go_at_call 33; refine (LB _ _ hb1).mono ?_; rintro e w2 ⟨g, capg, rfl, hg, hL2, hm2⟩; have hSp2 := hSp1.ext hm2; have hd2 := hSp2.d.d; have hr2 := hSp2.r.1; have hrn2 : (r ∉ p :: L) := hSp2.r.2; have hgL : (g ∉ p :: L) := (fun hh => by have := hSp1.d.d.lt0 g hh; omega); have hg2 : (g < w2.heap.size) := (by obtain ⟨_, hh, _⟩ := hL2; exact hh.lt); have hgb : (∀ x ∈ blks (.slice (some ⟨g, 0, none⟩) B.length capg), x < w2.heap.size ∧ x ∉ p :: L) := (fun x hx => by have e : x = g := (by simpa [blks] using hx); rw [e]; exact ⟨hg2, hgL⟩))
                    | (go_at_call 34; refine (WR _ _ _ hd2 hr2 hL2.bs hrn2 hgb).mono ?_; rintro e w3 ⟨rfl, L3, hP3, hm3, hL3⟩; have hSp3 := hSp2.turn hP3 hm3 hL3; have hLt3 := hL2.mod hm3 hgL; have hb3 := hbW.ext hSp3.d.m)
                    | (go_at_call 35; refine (KB _ _ _ _ hLt3 hb3).mono ?_; rintro e w4 ⟨rfl, hm4⟩; have hSp4 := hSp3.ext hm4; have hLt4 := hLt3.ext hm4)
                    | (go_at_call 36; refine (OB _ _ _ hLt4).mono ?_; rintro e w5 ⟨rfl, hm5⟩))
      have hW1 := hSp1.d.m.size
      have hSp5 : Sp W w5 p q r s o m' n' L3 := hSp4.keep hm5 (fun k hk => by
        have e : k = g := by simpa using hk
        rw [e]
        refine ⟨by omega, fun hh => ?_, fun e => ?_, fun e => ?_, fun e => ?_⟩
        · rcases List.mem_cons.1 hh with h | h
          · exact hgL (by simp [h])
          · exact (hL3 g h).elim (fun h => hgL (by simp [h])) (fun h => by omega)
        · have := Rgn.lt hSp1.r.1; omega
        · have := Rgn.lt hSp1.s.1; omega
        · have := Rgn.lt hSp1.o.1; omega)
      go_roundw
      case rel => exact ⟨j + 1, m', n', L3, by go_num, by omega, hSp5, HS.out⟩
      case measure => simp [intOf]; omega
    | false =>
      have hj2 : j ≤ 200 := by have := HN.out; omega
      clear HC
      have q1 := hSm.n
      have q2 := hSm.row
      obtain ⟨A, hA⟩ := Int.eq_ofNat_of_zero_le (pick_ge at_ 193)
      have hA2 : A ≤ 192 := by have := pick_lt at_ 193 (by omega); omega
      have PA := fun w => pick_any at_ 193 w wa.1 wa.2 (by omega) (by omega)
      rw [hA] at PA
      obtain ⟨Kn, hK⟩ := Int.eq_ofNat_of_zero_le (pick_ge n_ (193 - (A : Int)))
      have hK2 : A + Kn ≤ 192 := by have := pick_lt n_ (193 - (A : Int)) (by omega); omega
      have PK := fun w => pick_any n_ (193 - (A : Int)) w wn.1 wn.2 (by omega) (by omega)
      rw [hK] at PK
      clear hA hK
      have k1 := chK_le (a := A) (e := A + Kn)
      have k2 := chK_le (a := 0) (e := 0 + 192)
      have RA := fun r n w L (hn : n ≤ 2000) h hR => gRead_any r p q 1 3 64 (Lv m n) L A Kn w h hR hSm.sz (by show 1 + 3 ≤ m.dur.length; rw [hSm.len]; omega) (by show n + 3 * 64 ≤ 1000000; omega) ⟨by omega, by omega⟩ ⟨by omega, by omega⟩
      have RB := fun r n w L (hn : n ≤ 2000) h hR => gRead_any r p q 1 3 64 (Lv m n) L 0 192 w h hR hSm.sz (by show 1 + 3 ≤ m.dur.length; rw [hSm.len]; omega) (by show n + 3 * 64 ≤ 1000000; omega) ⟨by omega, by omega⟩ ⟨by omega, by omega⟩
      have RC := fun r n w L (hn : n ≤ 2000) h hR => gRead_any r p q 4 2 64 (Lv m n) L 0 128 w h hR hSm.sz (by show 4 + 2 ≤ m.dur.length; rw [hSm.len]; omega) (by show n + 2 * 64 ≤ 1000000; omega) ⟨by omega, by omega⟩ ⟨by omega, by omega⟩
      have eA := fun n => rdA_lv 1 3 64 m n A Kn (64 + A) hSm.ok hSm.sz (by rw [hSm.len]; omega) (by omega) (by omega)
      have eB : ∀ n, rdA 1 3 64 (Lv m n) 0 192 = (Lv m (n + chK 64 0 (0 + 192)), 0, abs m 64 64 192) := fun n => rdA_lv 1 3 64 m n 0 192 64 hSm.ok hSm.sz (by rw [hSm.len]; omega) (by omega) (by omega)
      have eC : ∀ n, rdA 4 2 64 (Lv m n) 0 128 = (Lv m (n + chK 64 0 (0 + 128)), 0, abs m 64 256 128) := fun n => rdA_lv 4 2 64 m n 0 128 256 hSm.ok hSm.sz (by rw [hSm.len]; omega) (by omega) (by omega)
      simp only [eA] at RA
      simp only [eB] at RB
      simp only [eC, abs_zero hSm.z] at RC
      unfold GRdP at RA RB RC
      dsimp only at RA RB RC
      have hXY := abs_sub m 64 64 192 A Kn hK2
      have hXl := abs_len m 64 (64 + A) Kn
      have hYl := abs_len m 64 64 192
      obtain ⟨X, hX⟩ : ∃ X, X = abs m 64 (64 + A) Kn := ⟨_, rfl⟩
      obtain ⟨Y, hY⟩ : ∃ X, X = abs m 64 64 192 := ⟨_, rfl⟩
      rw [← hX] at hXY hXl
      rw [← hY] at hXY hYl
      simp only [← hX] at RA
      simp only [← hY] at RB
      obtain ⟨KA, hKA⟩ : ∃ x, x = chK 64 A (A + Kn) := ⟨_, rfl⟩
      obtain ⟨KB, hKB⟩ : ∃ x, x = chK 64 0 (0 + 192) := ⟨_, rfl⟩
      obtain ⟨KC, hKC⟩ : ∃ x, x = chK 64 0 (0 + 128) := ⟨_, rfl⟩
      rw [← hKA] at k1
      rw [← hKB] at k2
      simp only [← hKA] at RA
      simp only [← hKB] at RB
      simp only [← hKC] at RC
      clear hX hY hKA hKB hKC eA eB eC
      have hX2 : X.length ≤ 192 := by omega
      have R1 := fun w h hR => RA r n w L (by omega) h hR
      have R2 := fun w h hR => RA s (n + KA) w L (by omega) h hR
      have R3 := fun w h hR => RB r (n + KA + KA) w L (by omega) h hR
      have R4 := fun w h hR => RB s (n + KA + KA + KB) w L (by omega) h hR
      have R5 := fun w h hR => RC o (n + KA + KA + KB + KB) w L (by omega) h hR
      have HL := Lib.hid (And.intro hXl (And.intro hYl (And.intro hXY hX2)))
      clear RA RB RC hXl hYl hXY hX2 q1 q2 k1 k2 hSm hj
      obtain ⟨H, hH⟩ : ∃ H, H = A + Kn := ⟨_, rfl⟩
      have z1 : (A : Int) + (Kn : Int) = (H : Nat) := by omega
      have z2 : (A : Int) ≤ H := by omega
      have z3 : (H : Int) ≤ 192 := by omega
      have z4 : (Kn : Int) ≤ 192 := by omega
      have HHK := Lib.hid hH
      clear hH
      have hd0 := hSp.d.d
      have hr0 := hSp.r.1
      have b0 : Fam wr wr.heap.size [] := Fam.nil _ _
      go_upto_region 21 with (first
                    | (go_at_call 11; (with_reducible refine (PA _).mono ?_); rintro e w2 ⟨rfl, rfl⟩)
                    | (go_at_call 11; (with_reducible refine (PK _).mono ?_); rintro e w2 ⟨rfl, rfl⟩)
                    | (go_at_call 37; (with_reducible refine (R1 _ hd0 hr0).mono ?_); rintro e w1 ⟨u1, rfl, ho1, hn1, hP1, hm1⟩; have hSp1 := hSp.turn hP1 (hm1.weak (by simp)) (fun x hx => .inl hx); have hs1r := hSp1.s.1; obtain ⟨ao1, cap1, rfl, _, _⟩ := Ob.nxR (n := Kn) ho1 HL.out.1; have F1 := Fam.ins2 (A := []) (B := []) b0 (Fam.nil w1 _) (Nat.le_refl _) ho1 hn1; have z1' := hm1.size)
                    | (go_at_call 37; (with_reducible refine (R2 _ hP1 hs1r).mono ?_); rintro e w2 ⟨u2, rfl, ho2, hn2, hP2, hm2⟩; have hSp2 := hSp1.turn hP2 (hm2.weak (by simp)) (fun x hx => .inl hx); have hr2 := hSp2.r.1; obtain ⟨ao2, cap2, rfl, _, _⟩ := Ob.nxR (n := Kn) ho2 HL.out.1; have F2 := Fam.ins2 (A := [_]) (B := []) F1 (F1.at hm2 hP1.b (by decide)) z1' ho2 hn2; have z2' := Nat.le_trans z1' hm2.size)
                    | (go_at_call 37; (with_reducible refine (R3 _ hP2 hr2).mono ?_); rintro e w3 ⟨u3, rfl, ho3, hn3, hP3, hm3⟩; have hSp3 := hSp2.turn hP3 (hm3.weak (by simp)) (fun x hx => .inl hx); obtain ⟨ao3, cap3, rfl, _, _⟩ := Ob.nxR (n := 192) ho3 HL.out.2.1; have F3 := Fam.ins2 (A := [_, _]) (B := []) F2 (F2.at hm3 hP2.b (by decide)) z2' ho3 hn3; have z3' := Nat.le_trans z2' hm3.size; have hs3 := Ob.bs ho3)
                    | (go_at_call 38; (with_reducible refine (copy_any Y _ _ hs3 (by rw [HL.out.2.1]; omega)).mono ?_); rintro e w4 ⟨u4, rfl, ho4, hn4, hm4⟩; have hSp4 := hSp3.ext hm4; obtain ⟨ao4, cap4, rfl, hc4, hc42⟩ := Ob.nxR (n := 192) ho4 HL.out.2.1; have F4 := Fam.ins (A := [_, _, _]) (B := []) F3 z3' hm4 ho4 hn4))
      have o1 : Bs w4 (.slice ao1 Kn cap1) X := Ob.bs (F4.ob (.slice ao1 Kn cap1, X) (by simp)).1
      have o2 : Bs w4 (.slice ao2 Kn cap2) X := Ob.bs (F4.ob (.slice ao2 Kn cap2, X) (by simp)).1
      have o4 : Bs w4 (.slice ao4 192 cap4) Y := Ob.bs ho4
      have h4n : ∀ b ∈ blks (.slice ao4 192 cap4), wr.heap.size ≤ b := (F4.ob (.slice ao4 192 cap4, Y) (by simp)).2
      have z5 : (192 : Int) ≤ cap4 := by omega
      have hpl : ∀ k ∈ p :: L, k < wr.heap.size := hSp.d.d.lt0
      have hrl : r < wr.heap.size ∧ s < wr.heap.size ∧ o < wr.heap.size := ⟨Rgn.lt hSp.r.1, Rgn.lt hSp.s.1, Rgn.lt hSp.o.1⟩
      have hWw := hSp.d.m.size
      clear F1 F2 F3 ho1 ho2 ho3 hn1 hn2 hn3 ho4 hn4 hs3 hP1 hP2 hP3 hSp1 hSp2 hSp3 hm1 hm2 hm3 hm4 z1' z2' z3' hs1r hr2 hd0 hr0 b0 R1 R2 R3 PA PK
      go_cut [150] (fun u wx => u = .bool false ∧ Sp W wx p q r s o m (n + KA + KA + KB) L ∧ Bs wx (.slice ao4 192 cap4) Y)
      case first =>
        by_cases hct : cap4 = A
        · obtain rfl : A = cap4 := hct.symm
          obtain rfl : A = 192 := by omega
          obtain rfl : Kn = 0 := by omega
          obtain rfl : H = 192 := by have := HHK.out; omega
          have hsub : Bs w4 (.slice ao4 0 0) (Y.drop 192) := by
            have h := o4.sufR (p := 192) HL.out.2.1.symm (by omega) (by omega)
            rw [if_pos rfl] at h
            exact h
          rw [show Y.drop 192 = X from by rw [List.drop_of_length_le (by rw [HL.out.2.1]; omega), List.eq_nil_of_length_eq_zero HL.out.1]] at hsub
          go_wp2_with (first
                        | (with_reducible refine st_bslice ?_)
                        | (go_at_call 19; (with_reducible refine (same_yes X X _ _ _ o1 o2 rfl).mono ?_); rintro e w5 ⟨rfl, hm5⟩; have o1' := o1.ext hm5; have hsub' := hsub.ext hm5)
                        | (go_at_call 19; (with_reducible refine (same_yes X X _ _ _ o1' hsub' rfl).mono ?_); rintro e w6 ⟨rfl, hm6⟩))
          refine StopOp.gw rfl fun K hK => ?_
          refine wp_bslice stRow [.slice ao1 0 cap1, .slice ao2 0 cap2, .slice ao3 192 cap3] rfl (by decide) (by rfl) (by simp [Value.cells]) ?_
          intro g w7 hg1 hg2 hm7 hB7
          simp only [put_some, List.set_cons_succ, List.set_cons_zero]
          refine hK _ _ ?_
          clear hK K
          have hm47 := (hm5.ext hm6).ext hm7
          have F7 := F4.ext hm47
          have hFs : Fam w7 wr.heap.size [(.slice ao1 0 cap1, X), (.slice ao2 0 cap2, X), (.slice ao3 192 cap3, Y)] := Fam.sub (A := [(.slice ao1 0 cap1, X), (.slice ao2 0 cap2, X), (.slice ao3 192 cap3, Y)]) (B := [_]) F7
          have hrows : Sl w7 1 (.slice (some ⟨g, 0, none⟩) 3 3) 3 (([(.slice ao1 0 cap1, X), (.slice ao2 0 cap2, X), (.slice ao3 192 cap3, Y)] : List (Value × List UInt8)).map (·.1)) := (Ow.of_blk (rest := []) hB7 (Nat.le_refl _) (by omega) rfl rfl : Ow w7 35 1 (.slice (some ⟨g, 0, none⟩) 3 3) 3 [.slice ao1 0 cap1, .slice ao2 0 cap2, .slice ao3 192 cap3]).sl
          have hlens : ∀ y ∈ ([(.slice ao1 0 cap1, X), (.slice ao2 0 cap2, X), (.slice ao3 192 cap3, Y)] : List (Value × List UInt8)), y.2.length ≤ 140737488355000 := by
            intro y hy
            simp only [List.mem_cons, List.not_mem_nil, or_false] at hy
            have := HL.out.2.1
            have := HL.out.2.2.2
            rcases hy with rfl | rfl | rfl <;> dsimp only <;> omega
          have hA := apart_fam _ wr.heap.size 3 _ w7 rfl hrows hFs (by omega) hlens
          go_wp2_with (go_at_call 39; (with_reducible refine (hA).mono ?_); rintro e w8 ⟨rfl, M8, hm8, hMM⟩)
          go_meet
          have hdj := (List.pairwise_append (l₁ := ([(.slice ao1 0 cap1, X), (.slice ao2 0 cap2, X), (.slice ao3 192 cap3, Y)] : List (Value × List UInt8))) (l₂ := [_])).1 F7.dj
          refine ⟨rfl, (hSp4.ext hm47).keep hm8 (fun k hk => ?_), Sl.mod (o4.ext hm47) hm8 (fun x hx hxM => ?_)⟩
          · obtain ⟨y, hy, hky⟩ := hMM k hk
            have h1 := (hFs.ob y hy).2 k hky
            exact ⟨by omega, fun hh => by have := hpl k hh; omega, by omega, by omega, by omega⟩
          · obtain ⟨y, hy, hky⟩ := hMM x hxM
            exact hdj.2.2 y hy _ List.mem_cons_self x hky hx
        · have hsub := Bs.subR (lo := A) (hi := H) o4 (by omega) (by rw [HL.out.2.1]; omega) (by omega) HL.out.2.1.symm (by omega)
          rw [show (Y.drop A).take (H - A) = X from by rw [← HL.out.2.2.1, HHK.out, Nat.add_sub_cancel_left]] at hsub
          go_wp2_with (first
                        | (with_reducible refine st_bslice ?_)
                        | (go_at_call 19; (with_reducible refine (same_yes X X _ _ _ o1 o2 rfl).mono ?_); rintro e w5 ⟨rfl, hm5⟩; have o1' := o1.ext hm5; have hsub' := hsub.ext hm5)
                        | (go_at_call 19; (with_reducible refine (same_yes X X _ _ _ o1' hsub' rfl).mono ?_); rintro e w6 ⟨rfl, hm6⟩))
          refine StopOp.gw rfl fun K hK => ?_
          refine wp_bslice stRow [.slice ao1 Kn cap1, .slice ao2 Kn cap2, .slice ao3 192 cap3] rfl (by decide) (by rfl) (by simp [Value.cells]) ?_
          intro g w7 hg1 hg2 hm7 hB7
          simp only [put_some, List.set_cons_succ, List.set_cons_zero]
          refine hK _ _ ?_
          clear hK K
          have hm47 := (hm5.ext hm6).ext hm7
          have F7 := F4.ext hm47
          have hFs : Fam w7 wr.heap.size [(.slice ao1 Kn cap1, X), (.slice ao2 Kn cap2, X), (.slice ao3 192 cap3, Y)] := Fam.sub (A := [(.slice ao1 Kn cap1, X), (.slice ao2 Kn cap2, X), (.slice ao3 192 cap3, Y)]) (B := [_]) F7
          have hrows : Sl w7 1 (.slice (some ⟨g, 0, none⟩) 3 3) 3 (([(.slice ao1 Kn cap1, X), (.slice ao2 Kn cap2, X), (.slice ao3 192 cap3, Y)] : List (Value × List UInt8)).map (·.1)) := (Ow.of_blk (rest := []) hB7 (Nat.le_refl _) (by omega) rfl rfl : Ow w7 35 1 (.slice (some ⟨g, 0, none⟩) 3 3) 3 [.slice ao1 Kn cap1, .slice ao2 Kn cap2, .slice ao3 192 cap3]).sl
          have hlens : ∀ y ∈ ([(.slice ao1 Kn cap1, X), (.slice ao2 Kn cap2, X), (.slice ao3 192 cap3, Y)] : List (Value × List UInt8)), y.2.length ≤ 140737488355000 := by
            intro y hy
            simp only [List.mem_cons, List.not_mem_nil, or_false] at hy
            have := HL.out.2.1
            have := HL.out.2.2.2
            rcases hy with rfl | rfl | rfl <;> dsimp only <;> omega
          have hA := apart_fam _ wr.heap.size 3 _ w7 rfl hrows hFs (by omega) hlens
          go_wp2_with (go_at_call 39; (with_reducible refine (hA).mono ?_); rintro e w8 ⟨rfl, M8, hm8, hMM⟩)
          go_meet
          have hdj := (List.pairwise_append (l₁ := ([(.slice ao1 Kn cap1, X), (.slice ao2 Kn cap2, X), (.slice ao3 192 cap3, Y)] : List (Value × List UInt8))) (l₂ := [_])).1 F7.dj
          refine ⟨rfl, (hSp4.ext hm47).keep hm8 (fun k hk => ?_), Sl.mod (o4.ext hm47) hm8 (fun x hx hxM => ?_)⟩
          · obtain ⟨y, hy, hky⟩ := hMM k hk
            have h1 := (hFs.ob y hy).2 k hky
            exact ⟨by omega, fun hh => by have := hpl k hh; omega, by omega, by omega, by omega⟩
          · obtain ⟨y, hy, hky⟩ := hMM x hxM
            exact hdj.2.2 y hy _ List.mem_cons_self x hky hx
      case rest =>
      obtain ⟨rfl, hSp5, hs5⟩ := hcut
      have hd5 := hSp5.d.d
      have hsr5 := hSp5.s.1
      have hp5 := hd5.b.lt
      have hpw := hpl p List.mem_cons_self
      go_wp2_with (first
                    | (with_reducible refine st_make ?_)
                    | (go_at_call 37; (with_reducible refine (R4 _ hd5 hsr5).mono ?_); rintro e w6 ⟨u6, rfl, ho6, hn6, hP6, hm6⟩; have hSp6 := hSp5.turn hP6 (hm6.weak (by simp)) (fun x hx => .inl hx); have hor6 := hSp6.o.1; obtain ⟨ao6, cap6, rfl, _, _⟩ := Ob.nxR (n := 192) ho6 HL.out.2.1; have hs6 : Bs w6 (.slice ao4 192 cap4) Y := Sl.mod hs5 hm6 (fun x hx hh => by have e : x = p := (by simpa using hh); have := h4n x hx; omega); have hp6 := hP6.b.lt)
                    | (go_at_call 37; (with_reducible refine (R5 _ hP6 hor6).mono ?_); rintro e w7 ⟨u7, rfl, ho7, hn7, hP7, hm7⟩; have hSp7 := hSp6.turn hP7 (hm7.weak (by simp)) (fun x hx => .inl hx); obtain ⟨ao7, cap7, rfl, _, _⟩ := Ob.nxR (n := 128) ho7 (by simp [zeros]); have hs7 : Bs w7 (.slice ao4 192 cap4) Y := Sl.mod hs6 hm7 (fun x hx hh => by have e : x = p := (by simpa using hh); have := h4n x hx; omega); have hs7' : Bs w7 (.slice ao6 192 cap6) Y := Sl.mod (Ob.bs ho6) hm7 (fun x hx hh => by have e : x = p := (by simpa using hh); have := hn6 x hx; omega))
                    | (go_at_call 19; (with_reducible refine (same_yes Y Y _ _ _ hs7' hs7 rfl).mono ?_); rintro e w8 ⟨rfl, hm8⟩))
      refine StopOp.gw rfl fun K hK => ?_
      refine wp_make (nl := 128) (nc := 128) stB (by rfl) (by rfl) rfl rfl (Nat.le_refl _) (by omega) (by omega) ?_
      intro g w9 hg1 hg2 hm9 hB9
      simp only [put_some, List.set_cons_succ, List.set_cons_zero]
      refine hK _ _ ?_
      clear hK K
      have hy9 := Ob.bs (Ob.made hB9 (by omega))
      have hz9 := ((Ob.bs ho7).ext hm8).ext hm9
      go_wp2_with (first
                    | (go_at_call 19; (with_reducible refine (same_yes (zeros 128) (zeros 128) _ _ _ hz9 hy9 rfl).mono ?_); rintro e w10 ⟨rfl, hm10⟩)
                    | (go_at_call 40; (with_reducible refine (AW _).mono ?_); rintro e w11 ⟨rfl, hm11⟩))
      go_ret
      exact ⟨rfl, (((hSp7.d.m.ext hm8).ext hm9).ext hm10).ext hm11⟩
end Go.Proofs.Ytdmnogmhnhjdgaa
