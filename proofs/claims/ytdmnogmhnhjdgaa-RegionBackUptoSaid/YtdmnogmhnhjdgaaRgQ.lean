import Derived.Test.YtdmnogmhnhjdgaaGRo
/-! RegionBack. -/
set_option linter.unusedVariables false
set_option linter.unusedSimpArgs false
set_option maxRecDepth 100000
namespace Go.Proofs.Ytdmnogmhnhjdgaa
open Go.RowKit Gw

theorem bv_get? (l : List UInt8) (k : Nat) (x : UInt8) (h : l[k]? = some x) : (bv l)[k]? = some (.int .u8 x.toNat) := by
  unfold bv
  rw [List.getElem?_map, h]
  rfl
theorem bv_get (l : List UInt8) (k : Nat) (x : UInt8) (h : l[k]? = some x) {hk : k < (bv l).length} : (bv l)[k] = .int .u8 x.toNat := by
  have := bv_get? l k x h
  rw [List.getElem?_eq_getElem hk] at this
  exact Option.some.inj this
set_option maxRecDepth 1000000 in
set_option maxHeartbeats 16000000 in
theorem regionBack_core (a0 b0 : Int) (pv : Value) (os : List Pt) (at_ n_ : Int) (W : World) (hs : Pts W pv os) (wa : i64 a0) (wb : i64 b0) (wt : i64 at_) (wn : i64 n_) :
    Calls Try.prog 7 #[.int .i64 a0, .int .i64 b0, pv, .int .i64 at_, .int .i64 n_] W fun e w' => e = .returned (.bool true) ∧ Mod [] W w' := by
  obtain ⟨hs1, hs2⟩ := hs
  obtain ⟨aos, caps, rfl, hcs, hcs2⟩ := hs1.form
  have IN := fun w => inner_any a0 b0 w wa wb
  obtain ⟨i1, i2, i3⟩ := in_le a0 b0
  obtain ⟨F, hF⟩ : ∃ F, F = inF a0 := ⟨_, rfl⟩
  obtain ⟨C, hC⟩ : ∃ F, F = inC a0 b0 := ⟨_, rfl⟩
  rw [← hF] at i1 i3
  rw [← hC] at i2 i3
  simp only [← hF, ← hC] at IN
  unfold InnP at IN
  obtain ⟨G, hG⟩ : ∃ G, G = 64 * F := ⟨_, rfl⟩
  simp only [← hG] at IN
  have HG := Lib.hid hG
  clear hF hC hG
  have BY := fun w r p h => gBytes_any r p F C 64 w h (by omega)
  have AW := fun w => gawake_any w
  have hS0 := Bm.zero F C
  have hz0 : abs (dev0 6 64) 64 (F * 64) (C * 64) = zeros (C * 64) := abs_zero fun i _ => ab_dev0 6 64 i
  obtain ⟨m0, hm0⟩ : ∃ m, m = dev0 6 64 := ⟨_, rfl⟩
  rw [← hm0] at hS0 hz0
  simp only [← hm0] at IN
  clear hm0
  obtain ⟨J, hJ⟩ : ∃ N, N = min os.length 200 := ⟨_, rfl⟩
  have HN := Lib.hid hJ
  clear hJ
  obtain ⟨N, hN⟩ : ∃ N, N = C * 64 := ⟨_, rfl⟩
  have hNl : N ≤ 384 := by omega
  rw [← hN] at hz0
  simp only [← hN] at BY
  have HNC := Lib.hid hN
  clear hN
  have y0 : (N : Int) ≤ 384 := by omega
  go_enter Try.func7, Try.ntmps7
  go_wp2_with (first
                | (with_reducible refine st_make ?_)
                | (go_at_call 46; refine (IN _).mono ?_; rintro e w1 ⟨p, q, L, r, rfl, hP1, hR1⟩; have hr1 := hR1.1)
                | (go_at_call 42; refine (BY _ _ _ hr1).mono ?_; rintro e w2 ⟨rfl, hm2⟩))
  refine StopOp.go rfl fun K hK => ?_
  refine wp_make (nl := N) (nc := N) stB (by rfl) (by rfl) rfl rfl (Nat.le_refl _) (by omega) (by omega) ?_
  intro g w3 hg1 hg2 hm3 hB3
  simp only [put_some, List.set_cons_succ, List.set_cons_zero]
  refine hK _ _ ?_
  clear hK K
  rw [show (List.replicate N (Value.int .u8 0).cells.toList).flatten = bv (zeros N) from (bv_zeros N).symm, ← hz0] at hB3
  have hBk3 : Bk W w3 p q r m0 0 L F C g := ⟨(hP1.ext hm2).ext hm3, (hR1.ext hm2).ext hm3, by rw [← HNC.out]; exact hB3, fun hh => by have := (hP1.ext hm2).d.lt0 g hh; omega, by have := (hP1.ext hm2).m.size; omega⟩
  clear hP1 hR1 hr1 hm2 hm3 hB3 hg1 hg2 IN BY hz0
  go_wp2_with fail
  go_loopw [16, 17, 18, 19] (fun iv _ _ _ wr => ∃ (j : Nat) (m : Dm) (n : Nat) (L : List Nat), iv = .int .i64 j ∧ j ≤ J ∧ Bk W wr p q r m n L F C g ∧ Bm m n F C j) (fun iv _ _ _ _ => J - (intOf iv).toNat)
  case atStart => exact ⟨0, m0, 0, L, rfl, Nat.zero_le _, hBk3, hS0⟩
  case round =>
    clear hBk3 hS0
    obtain ⟨j, m, n, L, rfl, hj, hBk, hBm⟩ := hrel
    have CN : ∀ w n, Blk w p 55 ((Lv m n).cells q) → Calls Try.prog 20 #[.pointer (some ⟨p, 0, none⟩)] w fun e w' => e = .returned (.int .i64 (n : Nat)) ∧ w = w' := fun w n h => pCount_any p q (Lv m n) w h
    obtain ⟨c, hc⟩ : ∃ c, c = decide (j < J) := ⟨_, rfl⟩
    have HC := Lib.hid hc
    clear hc
    go_upto_region 6 with fail
    go_cut [48] (fun u wx => u = .bool c ∧ wr = wx)
    case first =>
      by_cases h1 : j < os.length
      · have y1 : (j : Int) < os.length := by omega
        by_cases h2 : j < 200
        · have y2 : (j : Int) < 200 := by omega
          go_wp2_with fail
          go_meet
          exact ⟨by rw [HC.out, decide_eq_true (show j < J by have := HN.out; omega)]; try (simp; omega), rfl⟩
        · have y2 : (200 : Int) ≤ j := by omega
          go_wp2_with fail
          go_meet
          exact ⟨by rw [HC.out, decide_eq_false (show ¬ j < J by have := HN.out; omega)]; try (simp; omega), rfl⟩
      · have y1 : (os.length : Int) ≤ j := by omega
        go_wp2_with fail
        go_meet
        exact ⟨by rw [HC.out, decide_eq_false (show ¬ j < J by have := HN.out; omega)]; try (simp; omega), rfl⟩
    case rest =>
    obtain ⟨rfl, rfl⟩ := hcut
    cases c with
    | true =>
      have hlt : j < J := of_decide_eq_true HC.out.symm
      have hjo : j < os.length := by have := HN.out; omega
      have hj2 : j < 200 := by have := HN.out; omega
      have y1 : (j : Int) < os.length := by omega
      have y2 : (j : Int) < 200 := by omega
      clear HC
      obtain ⟨b, o', rfl, hcr⟩ := Pts.elem (Sl.ext hs1 hBk.d.m) hjo
      have hop := hs2 _ (List.getElem_mem hjo)
      obtain ⟨op, hop'⟩ : ∃ op, op = os[j] := ⟨_, rfl⟩
      rw [← hop'] at hcr hop
      clear hop'
      have FT := fun w h => fits_any op N w h (by omega)
      have hA1 := op.at_le N
      have hB1 := op.by_le N
      obtain ⟨A, hA⟩ : ∃ A, A = op.at N := ⟨_, rfl⟩
      obtain ⟨B, hB⟩ : ∃ A, A = op.by N := ⟨_, rfl⟩
      rw [← hA] at hA1 hB1
      rw [← hB] at hB1
      simp only [← hA, ← hB] at FT
      clear hA hB
      have hAB : A + B.length ≤ N := by omega
      have hNC := HNC.out
      obtain ⟨m', n', hw, hWL⟩ := wrA_lv F C 64 m n A B hBm.ok hBm.sz (by rw [hBm.len]; omega) (by omega)
      have hBm' := hBm.put hWL (by omega) (by omega)
      have q1 := hBm.n
      have q2 := hBm.row
      have hput := abs_put hWL (by omega : A + B.length ≤ C * 64)
      have k1 := chK_le (a := A) (e := A + B.length)
      have k2 := hWL.n2
      have k3 := hWL.n1
      have WR := fun w L bw h hR hb h1 h2 => gWrite_any r p q F C 64 (Lv m n) L A B bw w h hR hb hBm.sz (by show F + C ≤ m.dur.length; rw [hBm.len]; omega) (by show n + 2 * (C * 64) ≤ 1000000; omega) (by show m.row.length + C * 64 ≤ 1000000; omega) ⟨by omega, by omega⟩ h1 h2
      rw [hw] at WR
      unfold GWrP PdP at WR
      dsimp only at WR
      have CN' : ∀ w, Blk w p 55 ((Lv m' n').cells q) → Calls Try.prog 20 #[.pointer (some ⟨p, 0, none⟩)] w fun e w' => e = .returned (.int .i64 (n' : Nat)) ∧ w = w' := fun w h => pCount_any p q (Lv m' n') w h
      have CN0 := fun w h => CN w n h
      have g1 : (n' : Int) - (n : Int) ≤ (B.length : Int) / 64 + 4 := by omega
      have g2 : (n : Int) ≤ n' := by omega
      have g3 : (n' : Int) ≤ 100000 := by omega
      have y3 : (A : Int) ≤ N := by omega
      have y4 : (A : Int) + B.length ≤ N := by omega
      have hcp := fun w (h : Blk w g 5 (bv (abs m 64 (F * 64) (C * 64)))) => h
      have HS := Lib.hid (And.intro hBm' (And.intro hput (And.intro hAB hNC)))
      obtain ⟨P, hP⟩ : ∃ P, P = abs m 64 (F * 64) (C * 64) := ⟨_, rfl⟩
      have hPl : P.length = N := by rw [hP, abs_len, hNC]
      have hG0 := hBk.gb
      rw [← hP] at hG0 hput
      have HP := Lib.hid (And.intro hput hPl)
      have hBl : B.length ≤ 384 := by omega
      clear hw hWL hBm' hBm q1 q2 hA1 hB1 hput k1 k2 k3 hP hPl hcp CN hNC
      have hopr : OkPt wr op := hop.ext hBk.d.m
      have hou := hop.1
      clear hop
      obtain ⟨Po, u, l⟩ := op
      obtain ⟨aou, capu, hue, _, _⟩ := hou.form
      dsimp only at hue
      subst hue
      obtain ⟨c0, c1⟩ := pt_cells hcr
      clear hcr
      dsimp only at FT hou
      by_cases hkN : N = A
      · obtain rfl : A = N := hkN.symm
        go_wp2_with (first
                      | (with_reducible refine st_copy ?_)
                      | (go_at_call 32; refine (FT _ hopr).mono ?_; rintro e w1 ⟨u1, rfl, hu1, hm1⟩; have hbW := hu1 W hou; obtain ⟨ao1, cap1, rfl, _, _⟩ := hbW.form; have hBk1 := hBk.ext hm1; have hb1 := hbW.ext hBk1.d.m; have hc1 := hBk1.d.d.b)
                      | (go_at_call 20; (with_reducible refine (CN0 _ hc1).mono ?_); rintro e w2 ⟨rfl, rfl⟩)
                      | (go_at_call 38; refine (copy_any B _ _ hb1 (by omega)).mono ?_; rintro e w3 ⟨v3, rfl, ho3, hn3, hm3⟩; obtain ⟨ao3, cap3, rfl, _, _⟩ := ho3.sl.form; have hBk3 := hBk1.ext hm3; have hd3 := hBk3.d.d; have hr3 := hBk3.r.1; have hrn3 : (r ∉ p :: L) := hBk3.r.2; have hs3 := Ob.bs ho3; have hl1 := hBk1.d.d.lt0; have hbb3 : (∀ x ∈ blks (.slice ao3 B.length cap3), x < w3.heap.size ∧ x ∉ p :: L) := (fun x hx => ⟨Ow.lt ho3 x hx, fun hh => by have := hn3 x hx; have := hl1 x hh; omega⟩))
                      | (go_at_call 34; refine (WR _ _ _ hd3 hr3 hs3 hrn3 hbb3).mono ?_; rintro e w4 ⟨rfl, L4, hP4, hm4, hL4⟩; have hc4 := hP4.b)
                      | (go_at_call 20; (with_reducible refine (CN' _ hc4).mono ?_); rintro e w5 ⟨rfl, rfl⟩))
        have hG4 : Blk w4 g 5 (bv P) := ((hG0.ext hm1).ext hm3).mod hm4 hBk.gl
        have hd4 := hBk3.d.turn hP4 hm4 hL4
        have hb4 := hbW.ext hd4.m
        have hg3 : g < w3.heap.size := ((hG0.ext hm1).ext hm3).lt
        have hgL4 : g ∉ p :: L4 := fun hh => (List.mem_cons.1 hh).elim (fun e => hBk.gl (by simp [e])) (fun hx => (hL4 g hx).elim (fun hx => hBk.gl (by simp [hx])) (fun hx => by omega))
        have hgr : g ≠ r := fun e => by
          have h := hBk3.r.1
          rw [← e] at h
          exact Blk.ne (Bk.gb hBk3) h (by decide) rfl
        refine StopOp.go rfl fun K hK => ?_
        refine wp_copy_at B.length (o := A) (n := 0) (by omega) Try.underlying35 (by kernel_rfl) (by rfl) (by rfl) hG4 (by rw [bv_length]; have := HP.out.2; omega) (fun h => by first | (exfalso; omega) | simp [add_addr]) hb4 (bv_one B) ?_
        intro w6 hB6 hm6
        simp only [put_some, List.set_cons_succ, List.set_cons_zero]
        refine hK _ _ ?_
        clear hK K
        rw [bv_put P B A (by have := HP.out.2; omega), ← HP.out.1] at hB6
        go_wp2_with fail
        have hBk6 : Bk W w6 p q r m' n' L4 F C g := ⟨⟨hP4.keep0 hm6 (fun k hk hh => hgL4 (by have e : k = g := (by simpa using hh); exact e ▸ hk)), hd4.m.fresh hm6 (by have := hBk.gw; simpa using this), hd4.p1, hd4.l1⟩, ⟨(hBk3.r.turn hm4 hL4).1.mod hm6 (by simpa using fun e => hgr e.symm), (hBk3.r.turn hm4 hL4).2⟩, hB6, hgL4, hBk.gw⟩
        go_roundw
        case rel => exact ⟨j + 1, m', n', L4, by go_num, by omega, hBk6, HS.out.1⟩
        case measure => simp [intOf]; omega
      · skip
        go_wp2_with (first
                      | (with_reducible refine st_copy ?_)
                      | (go_at_call 32; refine (FT _ hopr).mono ?_; rintro e w1 ⟨u1, rfl, hu1, hm1⟩; have hbW := hu1 W hou; obtain ⟨ao1, cap1, rfl, _, _⟩ := hbW.form; have hBk1 := hBk.ext hm1; have hb1 := hbW.ext hBk1.d.m; have hc1 := hBk1.d.d.b)
                      | (go_at_call 20; (with_reducible refine (CN0 _ hc1).mono ?_); rintro e w2 ⟨rfl, rfl⟩)
                      | (go_at_call 38; refine (copy_any B _ _ hb1 (by omega)).mono ?_; rintro e w3 ⟨v3, rfl, ho3, hn3, hm3⟩; obtain ⟨ao3, cap3, rfl, _, _⟩ := ho3.sl.form; have hBk3 := hBk1.ext hm3; have hd3 := hBk3.d.d; have hr3 := hBk3.r.1; have hrn3 : (r ∉ p :: L) := hBk3.r.2; have hs3 := Ob.bs ho3; have hl1 := hBk1.d.d.lt0; have hbb3 : (∀ x ∈ blks (.slice ao3 B.length cap3), x < w3.heap.size ∧ x ∉ p :: L) := (fun x hx => ⟨Ow.lt ho3 x hx, fun hh => by have := hn3 x hx; have := hl1 x hh; omega⟩))
                      | (go_at_call 34; refine (WR _ _ _ hd3 hr3 hs3 hrn3 hbb3).mono ?_; rintro e w4 ⟨rfl, L4, hP4, hm4, hL4⟩; have hc4 := hP4.b)
                      | (go_at_call 20; (with_reducible refine (CN' _ hc4).mono ?_); rintro e w5 ⟨rfl, rfl⟩))
        have hG4 : Blk w4 g 5 (bv P) := ((hG0.ext hm1).ext hm3).mod hm4 hBk.gl
        have hd4 := hBk3.d.turn hP4 hm4 hL4
        have hb4 := hbW.ext hd4.m
        have hg3 : g < w3.heap.size := ((hG0.ext hm1).ext hm3).lt
        have hgL4 : g ∉ p :: L4 := fun hh => (List.mem_cons.1 hh).elim (fun e => hBk.gl (by simp [e])) (fun hx => (hL4 g hx).elim (fun hx => hBk.gl (by simp [hx])) (fun hx => by omega))
        have hgr : g ≠ r := fun e => by
          have h := hBk3.r.1
          rw [← e] at h
          exact Blk.ne (Bk.gb hBk3) h (by decide) rfl
        refine StopOp.go rfl fun K hK => ?_
        refine wp_copy_at B.length (o := A) (n := (N - A)) (by omega) Try.underlying35 (by kernel_rfl) (by rfl) (by rfl) hG4 (by rw [bv_length]; have := HP.out.2; omega) (fun h => by first | (exfalso; omega) | simp [add_addr]) hb4 (bv_one B) ?_
        intro w6 hB6 hm6
        simp only [put_some, List.set_cons_succ, List.set_cons_zero]
        refine hK _ _ ?_
        clear hK K
        rw [bv_put P B A (by have := HP.out.2; omega), ← HP.out.1] at hB6
        go_wp2_with fail
        have hBk6 : Bk W w6 p q r m' n' L4 F C g := ⟨⟨hP4.keep0 hm6 (fun k hk hh => hgL4 (by have e : k = g := (by simpa using hh); exact e ▸ hk)), hd4.m.fresh hm6 (by have := hBk.gw; simpa using this), hd4.p1, hd4.l1⟩, ⟨(hBk3.r.turn hm4 hL4).1.mod hm6 (by simpa using fun e => hgr e.symm), (hBk3.r.turn hm4 hL4).2⟩, hB6, hgL4, hBk.gw⟩
        go_roundw
        case rel => exact ⟨j + 1, m', n', L4, by go_num, by omega, hBk6, HS.out.1⟩
        case measure => simp [intOf]; omega
    | false =>
      clear HC
      have q1 := hBm.n
      have q2 := hBm.row
      have hj2 : j ≤ 200 := by have := HN.out; omega
      have hNC := HNC.out
      obtain ⟨A, hA⟩ := Int.eq_ofNat_of_zero_le (pick_ge at_ ((N : Int) + 1))
      have hA2 : A ≤ N := by have := pick_lt at_ ((N : Int) + 1) (by omega); omega
      have PA := fun w => pick_any at_ ((N : Int) + 1) w wt.1 wt.2 (by omega) (by omega)
      rw [hA] at PA
      obtain ⟨Kn, hK⟩ := Int.eq_ofNat_of_zero_le (pick_ge n_ ((N : Int) - (A : Int) + 1))
      have hK2 : A + Kn ≤ N := by have := pick_lt n_ ((N : Int) - (A : Int) + 1) (by omega); omega
      have PK := fun w => pick_any n_ ((N : Int) - (A : Int) + 1) w wn.1 wn.2 (by omega) (by omega)
      rw [hK] at PK
      clear hA hK
      have k1 := chK_le (a := A) (e := A + Kn)
      have eA := rdA_lv F C 64 m n A Kn (F * 64 + A) hBm.ok hBm.sz (by rw [hBm.len]; omega) (by omega) rfl
      have RA := fun w h hR => gRead_any r p q F C 64 (Lv m n) L A Kn w h hR hBm.sz (by show F + C ≤ m.dur.length; rw [hBm.len]; omega) (by show n + C * 64 ≤ 1000000; omega) ⟨by omega, by omega⟩ ⟨by omega, by omega⟩
      rw [eA] at RA
      obtain ⟨n1, hn1⟩ : ∃ x, x = n + chK 64 A (A + Kn) := ⟨_, rfl⟩
      rw [← hn1] at RA
      have eB : rdA F C 64 (Lv m n1) A ((N : Int) - A + 1) = (Lv m n1, 2, []) := by
        unfold rdA hold
        rw [if_neg (by rw [decide_eq_true_eq]; omega)]
      have RB := fun w h hR => gRead_any r p q F C 64 (Lv m n1) L A ((N : Int) - A + 1) w h hR hBm.sz (by show F + C ≤ m.dur.length; rw [hBm.len]; omega) (by show n1 + C * 64 ≤ 1000000; omega) ⟨by omega, by omega⟩ ⟨by omega, by omega⟩
      rw [eB] at RB
      unfold GRdP at RA RB
      dsimp only at RA RB
      have SY : ∀ w, Rgn w r p F C 64 → Pd w p q (Lv m n1) L → Calls Try.prog 41 #[.pointer (some ⟨r, 0, none⟩)] w fun e w' => e = .returned (.int .i64 0) ∧ PdP w p q (Lv m.sync (n1 + 1)) L w' := fun w hR h => gSync_any r p q F C 64 (Lv m n1) L w hR h (by show n1 ≤ 1000000; omega) (by show m.row.length ≤ 1000000; omega)
      unfold PdP at SY
      have IM := fun w L h => pImage_any p q (Lv m.sync (n1 + 1)) L w h
      unfold ImgPost at IM
      have hfl := fun D hD => sync_flat hBm.ok hBm.sz hBm.len D hD
      have hsl := hBm.sync
      have hXY := abs_sub m 64 (F * 64) N A Kn hK2
      have hXl := abs_len m 64 (F * 64 + A) Kn
      have hYl := abs_len m 64 (F * 64) N
      have hG0 := hBk.gb
      rw [← hNC] at hG0
      have hz := hBm.z
      have hYg : ∀ k, k < N → (abs m 64 (F * 64) N)[k]? = some (ab m 64 (F * 64 + k)) := fun k hk => by rw [List.getElem?_eq_getElem (by rw [abs_len]; exact hk), abs_get]
      have hZg : ∀ k, k < 384 → (abs m 64 0 384)[k]? = some (ab m 64 k) := fun k hk => by rw [List.getElem?_eq_getElem (by rw [abs_len]; exact hk), abs_get, Nat.zero_add]
      have hZl := abs_len m 64 0 384
      obtain ⟨X, hX⟩ : ∃ X, X = abs m 64 (F * 64 + A) Kn := ⟨_, rfl⟩
      obtain ⟨Y, hY⟩ : ∃ X, X = abs m 64 (F * 64) N := ⟨_, rfl⟩
      obtain ⟨Z, hZ⟩ : ∃ X, X = abs m 64 0 384 := ⟨_, rfl⟩
      rw [← hX] at hXY hXl RA
      rw [← hY] at hXY hYl hG0
      simp only [← hY] at hYg
      simp only [← hZ] at hZg hfl hZl
      obtain ⟨m2, hm2⟩ : ∃ x, x = m.sync := ⟨_, rfl⟩
      simp only [← hm2] at SY IM hfl hsl
      have HL := Lib.hid (And.intro hXl (And.intro hYl (And.intro hXY (And.intro hYg (And.intro hZg (And.intro hz (And.intro hfl (And.intro hZl (And.intro hsl hNC)))))))))
      have CN0 := fun w h => CN w n h
      have CN1 := fun w h => CN w n1 h
      have g1 : (n1 : Int) - (n : Int) ≤ (Kn : Int) / 64 + 2 := by omega
      have g2 : (n : Int) ≤ n1 := by omega
      have g3 : (n1 : Int) ≤ 100000 := by omega
      have y3 : (A : Int) ≤ N := by omega
      obtain ⟨H, hH⟩ : ∃ H, H = A + Kn := ⟨_, rfl⟩
      have z1 : (A : Int) + (Kn : Int) = (H : Nat) := by omega
      have z2 : (A : Int) ≤ H := by omega
      have z3 : (H : Int) ≤ N := by omega
      have z4 : (Kn : Int) ≤ 384 := by omega
      have HHK := Lib.hid hH
      have hs : Bs wr (.slice (some ⟨g, 0, none⟩) N N) Y := Ob.bs (Ob.new4 hG0 hYl.symm (by omega))
      clear hXl hYl hXY hYg hZg hz hfl hX hY hZ hm2 hn1 eA eB q1 q2 k1 hBm hH CN hZl hsl hj hNC
      have hd0 := hBk.d.d
      have hr0 := hBk.r.1
      have hc0 := hd0.b
      have hpg : ∀ x, x ∈ blks (.slice (some ⟨g, 0, none⟩) N N) → x ∉ [p] := fun x hx hh => hBk.gl (by have e : x = g := (by simpa [blks] using hx); have e2 : x = p := (by simpa using hh); rw [← e, e2]; simp)
      go_upto_region 17 with (first
                    | (go_at_call 11; (with_reducible refine (PA _).mono ?_); rintro e w2 ⟨rfl, rfl⟩)
                    | (go_at_call 11; (with_reducible refine (PK _).mono ?_); rintro e w2 ⟨rfl, rfl⟩)
                    | (go_at_call 20; (with_reducible refine (CN0 _ hc0).mono ?_); rintro e w2 ⟨rfl, rfl⟩)
                    | (go_at_call 37; (with_reducible refine (RA _ hd0 hr0).mono ?_); rintro e w1 ⟨u1, rfl, ho1, hn1, hP1, hm1⟩; obtain ⟨ao1, cap1, rfl, _, _⟩ := Ob.nxR (n := Kn) ho1 HL.out.1; have hd1 := hBk.d.turn hP1 (hm1.weak (by simp)) (fun x hx => .inl hx); have hR1 := hBk.r.turn (hm1.weak (by simp)) (fun x hx => .inl hx); have hr1 := hR1.1; have hc1 := hP1.b; have hs1 : Bs w1 (.slice (some ⟨g, 0, none⟩) N N) Y := Sl.mod hs hm1 hpg; have hG1 := hG0.mod hm1 (fun hh => hBk.gl (by have e : g = p := (by simpa using hh); simp [e]))))
      go_cut [128] (fun u wx => u = .bool false ∧ Mod [] w1 wx)
      case first =>
        have b1 := Ob.bs ho1
        by_cases hct : N = A
        · obtain rfl : A = N := hct.symm
          obtain rfl : Kn = 0 := by omega
          obtain rfl : A = H := by have := HHK.out; omega
          have hsub : Bs w1 (.slice (some ⟨g, 0, none⟩) 0 0) (Y.drop A) := by
            have h := hs1.sufR (p := A) HL.out.2.1.symm (by omega) (by omega)
            rw [if_pos rfl, Nat.sub_self] at h
            exact h
          rw [show Y.drop A = X from by rw [List.drop_of_length_le (by rw [HL.out.2.1]; omega), List.eq_nil_of_length_eq_zero HL.out.1]] at hsub
          go_wp2_with (first
                        | (go_at_call 19; (with_reducible refine (same_yes X X _ _ _ b1 hsub rfl).mono ?_); rintro e w5 ⟨rfl, hm5⟩; have hc5 := (hP1.ext hm5).b)
                        | (go_at_call 20; (with_reducible refine (CN1 _ hc5).mono ?_); rintro e w6 ⟨rfl, rfl⟩))
          go_meet
          exact ⟨congrArg Value.bool (decide_eq_false (by omega)), hm5⟩
        · have hsub := Bs.subR (lo := A) (hi := H) hs1 (by omega) (by rw [HL.out.2.1]; omega) (by omega) HL.out.2.1.symm (by omega)
          rw [show (Y.drop A).take (H - A) = X from by rw [← HL.out.2.2.1, HHK.out, Nat.add_sub_cancel_left], Option.map_some, add_addr, Nat.zero_add] at hsub
          go_wp2_with (first
                        | (go_at_call 19; (with_reducible refine (same_yes X X _ _ _ b1 hsub rfl).mono ?_); rintro e w5 ⟨rfl, hm5⟩; have hc5 := (hP1.ext hm5).b)
                        | (go_at_call 20; (with_reducible refine (CN1 _ hc5).mono ?_); rintro e w6 ⟨rfl, rfl⟩))
          go_meet
          exact ⟨congrArg Value.bool (decide_eq_false (by omega)), hm5⟩
      case rest =>
      obtain ⟨rfl, hmc⟩ := hcut
      have hd5 := hd1.ext hmc
      have hP5 := hd5.d
      have hR5 := hR1.ext hmc
      have hr5 := hR5.1
      have hG5 := hG1.ext hmc
      have hy : (N : Int) - A + 1 ≤ 1000 := by omega
      have hgp : g ∉ [p] := fun hh => hBk.gl (by have e : g = p := (by simpa using hh); simp [e])
      have hgl := hBk.gl
      have hNl2 : N ≤ 384 := hNl
      clear hd0 hr0 hc0 hpg hP1 hd1 hR1 hr1 hc1 hs1 hG1 hs hG0 hm1 hmc CN0 CN1 PA PK RA ho1 hn1 hBk
      go_wp2_with (first
                    | (go_at_call 37; (with_reducible refine (RB _ hP5 hr5).mono ?_); rintro e w6 ⟨u6, rfl, ho6, hn6, hP6, hm6⟩; obtain ⟨ao6, cap6, rfl, _, _⟩ := Ob.nxR (n := 0) ho6 rfl; have hd6 := hd5.turn hP6 (hm6.weak (by simp)) (fun x hx => .inl hx); have hR6 := hR5.turn (hm6.weak (by simp)) (fun x hx => .inl hx); have hr6 := hR6.1; have hG6 := hG5.mod hm6 hgp)
                    | (go_at_call 41; (with_reducible refine (SY _ hr6 hP6).mono ?_); rintro e w7 ⟨rfl, L7, hP7, hm7, hL7⟩; have hd7 := hd6.turn hP7 hm7 hL7; have hG7 := hG6.mod hm7 hgl)
                    | (go_at_call 27; refine (IM _ L7 hP7).mono ?_; rintro e w8 ⟨v8, dq, rfl, hO8, hdq, hm8⟩; have hl8 : (dq.length = 6) := (by have h := congrArg List.length hdq; rw [List.length_map] at h; exact h.trans HL.out.2.2.2.2.2.2.2.2.1); have hZ8 := HL.out.2.2.2.2.2.2.1 dq hdq; have hr8 := hO8.r; obtain ⟨ao8, cap8, hv8, _, _⟩ := hO8.ow.sl.form; rw [hl8] at hv8; subst hv8; have hf8 := flat_any dq _ _ hr8 (by omega) (by rw [hZ8, HL.out.2.2.2.2.2.2.2.1]; omega))
                    | (go_at_call 47; (with_reducible refine (hf8).mono ?_); rintro e w9 ⟨v9, rfl, ho9, hn9, hm9⟩))
      rw [hZ8] at ho9
      obtain ⟨ao9, cap9, rfl, hc9, _⟩ := Ob.nxR (n := 384) ho9 HL.out.2.2.2.2.2.2.2.1
      have hG9 := (hG7.ext hm8).ext hm9
      have hM9 := (hd7.m.ext hm8).ext hm9
      have hs9 : Sl w9 1 (.slice ao9 384 cap9) 384 (bv Z) := by have := Ob.bs ho9; unfold Bs at this; rwa [HL.out.2.2.2.2.2.2.2.1] at this
      clear hP5 hr5 hR5 hG5 hP6 hr6 hR6 hG6 hP7 hG7 hm6 hm7 hm8 hm9 hd5 hd6 hd7 hO8 hdq hl8 hZ8 hr8 ho6 hn6 ho9 hn9 RB SY IM hL7
      go_loopw [26, 27] (fun iv _ wr => ∃ k : Nat, iv = .int .i64 k ∧ k ≤ 384 ∧ Mod [] w9 wr) (fun iv _ _ => 384 - (intOf iv).toNat)
      case atStart => exact ⟨0, rfl, by omega, Mod.refl _ _⟩
      case round =>
        obtain ⟨k, rfl, hk, hmk⟩ := hrel
        by_cases hlt : k < 384
        · have y5 : (k : Int) < 384 := by omega
          have hbz : k < (bv Z).length := by rw [bv_length, HL.out.2.2.2.2.2.2.2.1]; exact hlt
          have hca := fun w' hm => sl_at' (Sl.ext hs9 hm : Sl w' 1 (.slice ao9 384 cap9) 384 (bv Z)) hbz
          rw [bv_get _ _ _ (HL.out.2.2.2.2.1 k hlt)] at hca
          by_cases hin : G ≤ k ∧ k < G + N
          · obtain ⟨e, he⟩ : ∃ e, e = k - G := ⟨_, rfl⟩
            have y6 : (G : Int) ≤ k := by omega
            have y7 : (k : Int) < G + N := by omega
            have q5 : (k : Int) - (G : Int) = (e : Nat) := by omega
            have y8 : (e : Int) < N := by omega
            have heN : e < N := by omega
            have hcp := fun w' hm => (Blk.ext hG9 hm : Blk w' g 5 (bv Y)).cell' (bv_get? _ _ _ (HL.out.2.2.2.1 e heN))
            rw [show F * 64 + e = k from by have := HG.out; omega] at hcp
            obtain ⟨x8, hx8⟩ : ∃ x, x = (ab m 64 k).toNat := ⟨_, rfl⟩
            simp only [← hx8] at hca hcp
            clear he hin hx8
            go_wp2_with fail
            refine wp_region_T [⟨0, true, []⟩, ⟨1, true, []⟩, ⟨2, true, []⟩, ⟨3, true, []⟩, ⟨4, true, []⟩, ⟨5, true, []⟩, ⟨6, true, []⟩, ⟨7, true, []⟩, ⟨8, true, []⟩, ⟨9, true, []⟩, ⟨10, true, []⟩, ⟨11, true, []⟩, ⟨12, true, []⟩, ⟨13, true, []⟩, ⟨14, true, []⟩, ⟨15, true, []⟩, ⟨16, true, []⟩, ⟨17, true, []⟩, ⟨18, true, []⟩, ⟨19, true, []⟩, ⟨20, true, []⟩, ⟨21, true, []⟩, ⟨22, true, []⟩, ⟨23, true, []⟩, ⟨24, true, []⟩] (by kernel_rfl) (by kernel_rfl) ?_
            have hmD := hmk.ext (Mod.drew [] wr)
            obtain ⟨x, hx⟩ : ∃ y, y = wr.drew := ⟨_, rfl⟩
            rw [← hx] at hmD ⊢
            clear hx
            obtain ⟨b, o, rfl, ca⟩ := hca x hmD
            have cp := hcp x hmD
            clear hca hcp
            iterate 2 (refine wpT_n rfl rfl (fun K hK => ?_); go_wp2_with fail)
            iterate 11 (refine wpT_gq (gi := 1) rfl rfl rfl rfl rfl (fun K hK => ?_); go_wp2_with fail)
            iterate 2 (refine wpT_n rfl rfl (fun K hK => ?_); go_wp2_with fail)
            iterate 3 (refine wpT_gq (gi := 14) rfl rfl rfl rfl rfl (fun K hK => ?_); go_wp2_with fail)
            iterate 5 (refine wpT_gk (gi := 17) rfl rfl rfl rfl rfl rfl (fun K hK => ?_); go_wp2_with fail)
            refine wpT_gq (gi := 14) rfl rfl rfl rfl rfl (fun K hK => ?_)
            go_wp2_with fail
            refine wpT_n rfl rfl (fun K hK => ?_)
            go_wp2_with fail
            refine wpT_nil ?_
            go_wp2_with fail
            go_roundw
            case rel => exact ⟨k + 1, by go_num, by omega, hmD⟩
            case measure => simp [intOf]; omega
          · have hz0 := HL.out.2.2.2.2.2.1 k (by have := HG.out; have := HL.out.2.2.2.2.2.2.2.2.2; omega)
            simp only [hz0] at hca
            have hb8 : ((0 : UInt8).toNat : Nat) = 0 := rfl
            simp only [hb8] at hca
            clear hz0
            by_cases hge : G ≤ k
            · have y6 : (G : Int) ≤ k := by omega
              have y7 : decide ((k : Int) < (G : Int) + (N : Int)) = false := decide_eq_false (by omega)
              clear hin
              go_wp2_with fail
              refine wp_region_T [⟨0, true, []⟩, ⟨1, true, []⟩, ⟨2, true, []⟩, ⟨3, true, []⟩, ⟨4, true, []⟩, ⟨5, true, []⟩, ⟨6, true, []⟩, ⟨7, true, []⟩, ⟨8, true, []⟩, ⟨9, true, []⟩, ⟨10, true, []⟩, ⟨11, true, []⟩, ⟨12, true, []⟩, ⟨13, true, []⟩, ⟨14, true, []⟩, ⟨15, true, []⟩, ⟨16, true, []⟩, ⟨17, true, []⟩, ⟨18, true, []⟩, ⟨19, true, []⟩, ⟨20, true, []⟩, ⟨21, true, []⟩, ⟨22, true, []⟩, ⟨23, true, []⟩, ⟨24, true, []⟩] (by kernel_rfl) (by kernel_rfl) ?_
              have hmD := hmk.ext (Mod.drew [] wr)
              obtain ⟨x, hx⟩ : ∃ y, y = wr.drew := ⟨_, rfl⟩
              rw [← hx] at hmD ⊢
              clear hx
              obtain ⟨b, o, rfl, ca⟩ := hca x hmD
              clear hca
              iterate 2 (refine wpT_n rfl rfl (fun K hK => ?_); go_wp2_with fail)
              iterate 11 (refine wpT_gk (gi := 1) rfl rfl rfl rfl rfl rfl (fun K hK => ?_); go_wp2_with fail)
              iterate 2 (refine wpT_n rfl rfl (fun K hK => ?_); go_wp2_with fail)
              iterate 3 (refine wpT_gq (gi := 14) rfl rfl rfl rfl rfl (fun K hK => ?_); go_wp2_with fail)
              iterate 5 (refine wpT_gq (gi := 17) rfl rfl rfl rfl rfl (fun K hK => ?_); go_wp2_with fail)
              refine wpT_gq (gi := 14) rfl rfl rfl rfl rfl (fun K hK => ?_)
              go_wp2_with fail
              refine wpT_n rfl rfl (fun K hK => ?_)
              go_wp2_with fail
              refine wpT_nil ?_
              go_wp2_with fail
              go_roundw
              case rel => exact ⟨k + 1, by go_num, by omega, hmD⟩
              case measure => simp [intOf]; omega
            · have y6 : (k : Int) < G := by omega
              clear hin
              go_wp2_with fail
              refine wp_region_T [⟨0, true, []⟩, ⟨1, true, []⟩, ⟨2, true, []⟩, ⟨3, true, []⟩, ⟨4, true, []⟩, ⟨5, true, []⟩, ⟨6, true, []⟩, ⟨7, true, []⟩, ⟨8, true, []⟩, ⟨9, true, []⟩, ⟨10, true, []⟩, ⟨11, true, []⟩, ⟨12, true, []⟩, ⟨13, true, []⟩, ⟨14, true, []⟩, ⟨15, true, []⟩, ⟨16, true, []⟩, ⟨17, true, []⟩, ⟨18, true, []⟩, ⟨19, true, []⟩, ⟨20, true, []⟩, ⟨21, true, []⟩, ⟨22, true, []⟩, ⟨23, true, []⟩, ⟨24, true, []⟩] (by kernel_rfl) (by kernel_rfl) ?_
              have hmD := hmk.ext (Mod.drew [] wr)
              obtain ⟨x, hx⟩ : ∃ y, y = wr.drew := ⟨_, rfl⟩
              rw [← hx] at hmD ⊢
              clear hx
              obtain ⟨b, o, rfl, ca⟩ := hca x hmD
              clear hca
              iterate 2 (refine wpT_n rfl rfl (fun K hK => ?_); go_wp2_with fail)
              iterate 11 (refine wpT_gk (gi := 1) rfl rfl rfl rfl rfl rfl (fun K hK => ?_); go_wp2_with fail)
              iterate 2 (refine wpT_n rfl rfl (fun K hK => ?_); go_wp2_with fail)
              iterate 3 (refine wpT_gq (gi := 14) rfl rfl rfl rfl rfl (fun K hK => ?_); go_wp2_with fail)
              iterate 5 (refine wpT_gq (gi := 17) rfl rfl rfl rfl rfl (fun K hK => ?_); go_wp2_with fail)
              refine wpT_gq (gi := 14) rfl rfl rfl rfl rfl (fun K hK => ?_)
              go_wp2_with fail
              refine wpT_n rfl rfl (fun K hK => ?_)
              go_wp2_with fail
              refine wpT_nil ?_
              go_wp2_with fail
              go_roundw
              case rel => exact ⟨k + 1, by go_num, by omega, hmD⟩
              case measure => simp [intOf]; omega
        · obtain rfl : k = 384 := by omega
          go_wp2_with (go_at_call 40; (with_reducible refine (AW _).mono ?_); rintro e w10 ⟨rfl, hm10⟩)
          go_ret
          exact ⟨rfl, (hM9.ext hmk).ext hm10⟩
end Go.Proofs.Ytdmnogmhnhjdgaa
