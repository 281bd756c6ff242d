import Derived.Test.YtdmnogmhnhjdgaaRiC
import Derived.Test.YtdmnogmhnhjdgaaRiD
import Derived.Test.YtdmnogmhnhjdgaaRiF
import Derived.Test.YtdmnogmhnhjdgaaRgH
/-! RegionPlays: a step of any kind; the whole. -/
set_option linter.unusedVariables false
set_option linter.unusedSimpArgs false
set_option maxRecDepth 100000
namespace Go.Proofs.Ytdmnogmhnhjdgaa
open Go.RowKit Gw

theorem plays_any {W w : World} {x p q P Q z N : Nat} {v : Pv} {L M : List Nat} {o0 o1 : Option Reg2} (o : Gop) (ho : OkGop W o) (H : Wld W w x p q P Q z N v v L M o0 o1) (hN : N ≤ 9) (hz : z ≤ 128) (hn : v.n ≤ 900000) (hr : v.m.row.length ≤ 900000) :
    Calls Try.prog 49 #[.pointer (some ⟨x, 0, none⟩), o.val] w (PlayP W x p q P Q z N v.n v.m.row.length) := by
  obtain ⟨k, ot, a, n, bw, l, sf, sc, fv, F⟩ := o
  by_cases k4 : k = 4
  · subst k4
    cases ot with
    | false => exact play40_any a n sf sc bw fv l F ho H hN hz hn hr
    | true => exact play41_any a n sf sc bw fv l F ho H hN hz hn hr
  by_cases k5 : k = 5
  · subst k5
    cases ot with
    | false => exact play50_any a n sf sc bw fv l F ho H hN hz hn hr
    | true => exact play51_any a n sf sc bw fv l F ho H hN hz hn hr
  by_cases k6 : k = 6
  · subst k6
    cases ot with
    | false => exact play60_any a n sf sc bw fv l F ho H hN hz hn hr
    | true => exact play61_any a n sf sc bw fv l F ho H hN hz hn hr
  cases ot with
  | false =>
    rcases o0 with _ | ⟨r, h, f, c⟩
    · exact playnone0_any k a n sf sc bw fv l F ho H hN hz hn hr k4 k5 k6
    by_cases k1 : k = 1
    · subst k1
      exact play10_any r h f c a n sf sc bw fv l F ho H hN hz hn hr
    by_cases k2 : k = 2
    · subst k2
      exact play20_any r h f c a n sf sc bw fv l F ho H hN hz hn hr
    by_cases k3 : k = 3
    · subst k3
      exact play30_any r h f c a n sf sc bw fv l F ho H hN hz hn hr
    exact playoth0_any k r h f c a n sf sc bw fv l F ho H hN hz hn hr k4 k5 k6 k1 k2 k3
  | true =>
    rcases o1 with _ | ⟨r, h, f, c⟩
    · exact playnone1_any k a n sf sc bw fv l F ho H hN hz hn hr k4 k5 k6
    by_cases k1 : k = 1
    · subst k1
      exact play11_any r h f c a n sf sc bw fv l F ho H hN hz hn hr
    by_cases k2 : k = 2
    · subst k2
      exact play21_any r h f c a n sf sc bw fv l F ho H hN hz hn hr
    by_cases k3 : k = 3
    · subst k3
      exact play31_any r h f c a n sf sc bw fv l F ho H hN hz hn hr
    exact playoth1_any k r h f c a n sf sc bw fv l F ho H hN hz hn hr k4 k5 k6 k1 k2 k3
set_option maxRecDepth 1000000 in
set_option maxHeartbeats 16000000 in
theorem regionPlays_core (s_ z_ a1 a2 b1 b2 : Int) (pv : Value) (os : List Gop) (W : World) (hs : Gops W pv os) (ws : i64 s_) (wz : i64 z_) (wa1 : i64 a1) (wa2 : i64 a2) (wb1 : i64 b1) (wb2 : i64 b2) :
    Calls Try.prog 8 #[.int .i64 s_, .int .i64 z_, .agg #[.int .i64 a1, .int .i64 a2], .agg #[.int .i64 b1, .int .i64 b2], pv] W fun e w' => e = .returned (.bool true) ∧ Mod [] W w' := by
  obtain ⟨hs1, hs2⟩ := hs
  obtain ⟨aos, caps, rfl, hcs, hcs2⟩ := hs1.form
  have DV := fun w => device_any s_ z_ w ws wz
  have hN := (nS_le s_).2
  have hz : szZ z_ ≤ 128 := by rcases szZ_or z_ with h | h <;> omega
  have AW := fun w => gawake_any w
  obtain ⟨N, hNe⟩ : ∃ N, N = nS s_ := ⟨_, rfl⟩
  obtain ⟨z, hze⟩ : ∃ N, N = szZ z_ := ⟨_, rfl⟩
  rw [← hNe] at hN DV
  rw [← hze] at hz DV
  clear hNe hze
  unfold DevP at DV
  have hl0 : (dev0 N z).dur.length = N := by simp [dev0]
  have hz0 : (dev0 N z).sz = z := rfl
  have hr0 : (dev0 N z).row.length = 0 := rfl
  obtain ⟨m0, hm0⟩ : ∃ m, m = dev0 N z := ⟨_, rfl⟩
  rw [← hm0] at hl0 hz0 hr0 DV
  clear hm0
  obtain ⟨v0, hv0⟩ : ∃ v : Pv, v = ⟨m0, false, -1, 0⟩ := ⟨_, rfl⟩
  rw [← hv0] at DV
  have hv1 : v0.m.sz = z := by rw [hv0]; exact hz0
  have hv2 : v0.m.dur.length = N := by rw [hv0]; exact hl0
  have hv3 : v0.m.row.length = 0 := by rw [hv0]; exact hr0
  have hv4 : v0.n = 0 := by rw [hv0]
  clear hv0 hl0 hz0 hr0
  obtain ⟨J, hJ⟩ : ∃ N, N = min os.length 200 := ⟨_, rfl⟩
  have HN := Lib.hid hJ
  clear hJ
  go_enter Try.func8, Try.ntmps8
  go_wp2_with (with_reducible refine st_box ?_)
  refine StopOp.go rfl fun K hK => ?_
  refine wp_box (v := .agg #[.int .i64 a1, .int .i64 a2]) (by rfl) ?_
  intro ta wa hta1 hta2 hma hTa
  simp only [put_some, List.set_cons_succ, List.set_cons_zero]
  refine hK _ _ ?_
  clear hK K
  go_wp2_with (with_reducible refine st_box ?_)
  refine StopOp.go rfl fun K hK => ?_
  refine wp_box (v := .agg #[.int .i64 b1, .int .i64 b2]) (by rfl) ?_
  intro tb wb htb1 htb2 hmb hTb
  simp only [put_some, List.set_cons_succ, List.set_cons_zero]
  refine hK _ _ ?_
  clear hK K
  have hTa1 : Blk wb ta 65 [.int .i64 a1, .int .i64 a2] := Blk.ext (show Blk wa ta 65 [.int .i64 a1, .int .i64 a2] from hTa) hmb
  have hTb1 : Blk wb tb 65 [.int .i64 b1, .int .i64 b2] := hTb
  have hm0 := hma.ext hmb
  clear hTa hTb hma hmb
  go_wp2_with (first
                | (with_reducible refine st_box ?_)
                | (go_at_call 30; (with_reducible refine (DV _).mono ?_); rintro e w1 ⟨p, q, P, Q, L, M, rfl, hP1, hR1, hap, hm1, hg1, hg2⟩))
  refine StopOp.go rfl fun K hK => ?_
  refine wp_box (v := .agg #[.pointer (some ⟨p, 0, none⟩), .pointer (some ⟨P, 0, none⟩), .pointer none, .pointer none, .pointer none, .pointer none]) (by rfl) ?_
  intro x w2 hx1 hx2 hm2 hX
  simp only [put_some, List.set_cons_succ, List.set_cons_zero]
  refine hK _ _ ?_
  clear hK K
  have hX2 : Blk w2 x 92 (wcl p P none none) := hX
  have zz := hm0.size
  have hW2 : Wld W w2 x p q P Q z N v0 v0 L M none none := ⟨hX2, hP1.ext hm2, hR1.ext hm2, hap, fun hh => by have := hP1.lt0 x hh; omega, fun hh => by have := hR1.lt0 x hh; omega, fun g hg => (nomatch hg), fun g hg => (nomatch hg), (hm0.ext hm1).ext hm2, fun k hk => by have := hg1 k hk; omega, fun k hk => by have := hg2 k hk; omega, by have := hm1.size; omega, hv1, hv2, hv1, hv2⟩
  have hTa2 := (hTa1.ext hm1).ext hm2
  have hTb2 := (hTb1.ext hm1).ext hm2
  have e0 := hTa2.cell' (i := 0) rfl
  have e1 := hTa2.cell' (i := 1) rfl
  have TK0 : ∀ w, Wld W w x p q P Q z N v0 v0 L M none none → Calls Try.prog 48 #[.pointer (some ⟨x, 0, none⟩), .int .i64 0, .agg #[.int .i64 a1, .int .i64 a2]] w (TakeP W w x p q P Q z N v0 L M) := fun w h => takes_any 0 (.inl rfl) wa1 wa2 h
  have TK1 : ∀ w o0 o1, Wld W w x p q P Q z N v0 v0 L M o0 o1 → Calls Try.prog 48 #[.pointer (some ⟨x, 0, none⟩), .int .i64 1, .agg #[.int .i64 b1, .int .i64 b2]] w (TakeP W w x p q P Q z N v0 L M) := fun w o0 o1 h => takes_any 1 (.inr rfl) wb1 wb2 h
  unfold TakeP at TK0 TK1
  have hxb : tb ∉ [x] := fun hh => by have e : tb = x := (by simpa using hh); have := hTb1.lt; have := hm1.size; omega
  clear hm0 hm1 hm2 hP1 hR1 hap hg1 hg2 hX hX2 hTa1 hTb1 DV
  go_upto_region 5 with (first
                | (go_at_call 48; (with_reducible refine (TK0 _ hW2).mono ?_); rintro e w3 ⟨p0, p1, rfl, hW3, hm3⟩; have hTb3 := hTb2.mod hm3 hxb; have f0 := hTb3.cell' (i := 0) rfl; have f1 := hTb3.cell' (i := 1) rfl)
                | (go_at_call 48; (with_reducible refine (TK1 _ _ _ hW3).mono ?_); rintro e w4 ⟨p2, p3, rfl, hW4, hm4⟩))
  clear hm3 hm4 hTb3 f0 f1 e0 e1 hTa2 hTb2 hW2 hW3 TK0 TK1 hxb
  go_wp2_with fail
  go_loopw [15] (fun iv wr => ∃ (j : Nat) (v : Pv) (L M : List Nat) (o0 o1 : Option Reg2), iv = .int .i64 j ∧ j ≤ J ∧ Wld W wr x p q P Q z N v v L M o0 o1 ∧ v.n ≤ 2304 * j ∧ v.m.row.length ≤ 1152 * j) (fun iv _ => J - (intOf iv).toNat)
  case atStart => exact ⟨0, v0, L, M, p2, p3, rfl, Nat.zero_le _, hW4, by omega, by omega⟩
  case round =>
    clear hW4
    obtain ⟨j, v, L, M, o0, o1, rfl, hj, hW, hvn, hvr⟩ := hrel
    have hJ2 : J ≤ 200 := by have := HN.out; omega
    obtain ⟨c, hc⟩ : ∃ c, c = decide (j < J) := ⟨_, rfl⟩
    have HC := Lib.hid hc
    clear hc
    go_upto_region 6 with fail
    go_cut [48] (fun u wx => u = .bool c ∧ wr = wx)
    case first =>
      by_cases h1 : j < os.length
      · have y1 : (j : Int) < os.length := by omega
        by_cases h2 : j < 200
        · have y2 : (j : Int) < 200 := by omega
          go_wp2_with fail
          go_meet
          exact ⟨by rw [HC.out, decide_eq_true (show j < J by have := HN.out; omega)]; try (simp; omega), rfl⟩
        · have y2 : (200 : Int) ≤ j := by omega
          go_wp2_with fail
          go_meet
          exact ⟨by rw [HC.out, decide_eq_false (show ¬ j < J by have := HN.out; omega)]; try (simp; omega), rfl⟩
      · have y1 : (os.length : Int) ≤ j := by omega
        go_wp2_with fail
        go_meet
        exact ⟨by rw [HC.out, decide_eq_false (show ¬ j < J by have := HN.out; omega)]; try (simp; omega), rfl⟩
    case rest =>
    obtain ⟨rfl, rfl⟩ := hcut
    cases c with
    | true =>
      have hlt : j < J := of_decide_eq_true HC.out.symm
      have hjo : j < os.length := by have := HN.out; omega
      have y1 : (j : Int) < os.length := by omega
      clear HC
      obtain ⟨b, o', rfl, hcr⟩ := Gops.elem (Sl.ext hs1 hW.m) hjo
      have hop := hs2 _ (List.getElem_mem hjo)
      obtain ⟨op, hop'⟩ : ∃ op, op = os[j] := ⟨_, rfl⟩
      rw [← hop'] at hcr hop
      clear hop'
      have PL := fun w h => plays_any (w := w) op hop (h : Wld W w x p q P Q z N v v L M o0 o1) hN hz (by omega) (by omega)
      unfold PlayP at PL
      obtain ⟨gk, got, ga, gn, gbw, gl, gsf, gsc, gfv, gF⟩ := op
      obtain ⟨aob, capb, hbv, _, _⟩ := hop.b.form
      obtain ⟨aof, capf, hfv, _, _⟩ := hop.fs.form
      dsimp only at hbv hfv
      subst hbv hfv
      unfold Gop.val at PL
      dsimp only at PL
      unfold Gop.cells at hcr
      dsimp only at hcr
      have q0 := hcr 0 _ rfl
      have q1 := hcr 1 _ rfl
      have q2 := hcr 2 _ rfl
      have q3 := hcr 3 _ rfl
      have q4 := hcr 4 _ rfl
      have q5 := hcr 5 _ rfl
      have q6 := hcr 6 _ rfl
      have q7 := hcr 7 _ rfl
      rw [Nat.add_zero] at q0
      clear hcr hop
      go_wp2_with (first
                    | (go_at_call 49; (with_reducible refine (PL _ hW).mono ?_); rintro e w5 ⟨v5, L5, M5, r0, r1, rfl, hW5, hn5, hr5⟩; have ST := stands_any hW5 hN hz)
                    | (go_at_call 50; (with_reducible refine (ST).mono ?_); rintro e w6 ⟨rfl, hm6⟩))
      go_roundw
      case rel => exact ⟨j + 1, v5, L5, M5, r0, r1, by go_num, by omega, hW5.ext hm6, by omega, by omega⟩
      case measure => simp [intOf]; omega
    | false =>
      clear HC
      have RE := fun w L fw h hF hFL => pRestart_any p q v L [(1, 0)] fw w h (by omega) hF hFL
      have RQ := fun w M fw h hF hFL => qRestart_any P Q v M [(1, 0)] fw w h (by omega) hF hFL
      unfold PdP at RE
      unfold PrP at RQ
      obtain ⟨s1, s2, s3, s4⟩ := re_sz v [(1, 0)]
      obtain ⟨V, hV⟩ : ∃ V, V = v.re [(1, 0)] := ⟨_, rfl⟩
      rw [← hV] at RE RQ s1 s2
      clear hV s3 s4
      have hvz := hW.vz
      have hvN := hW.vN
      have IM := fun w L h => pImage_any p q V L w h
      have IQ := fun w M h => qImage_any P Q V M w h
      unfold ImgPost at IM IQ
      obtain ⟨D, hD⟩ : ∃ D, D = V.m.dur := ⟨_, rfl⟩
      rw [← hD] at IM IQ
      clear hD
      have x0 := Blk.cell' hW.bx (i := 0) (u := .pointer (some ⟨p, 0, none⟩)) rfl
      go_wp2_with (with_reducible refine st_bslice ?_)
      refine StopOp.go rfl fun K hK => ?_
      refine wp_bslice stF [.agg #[.int .i64 1, .int .i64 0]] rfl (by decide) (by rfl) (by simp [Value.cells]) ?_
      intro g3 w3 hg1 hg2 hm3 hB3
      simp only [put_some, List.set_cons_succ, List.set_cons_zero]
      refine hK _ _ ?_
      clear hK K
      have hF3 : Fs w3 (.slice (some ⟨g3, 0, none⟩) 1 1) [(1, 0)] := (Ow.of_blk (rest := []) hB3 (Nat.le_refl _) (by omega) rfl rfl : Ow w3 99 2 (.slice (some ⟨g3, 0, none⟩) 1 1) 1 [.int .i64 1, .int .i64 0]).sl
      have hW3 := hW.ext hm3
      have hd3 := hW3.d
      clear x0
      go_wp2_with (first
                    | (with_reducible refine st_bslice ?_)
                    | (go_at_call 23; (with_reducible refine (RE _ _ _ hd3 hF3 (fun _ b hb hh => by have e : b = g3 := (by simpa [blks] using hb); have := hW.d.lt0 b (List.mem_cons_of_mem _ hh); omega)).mono ?_); rintro e w5 ⟨rfl, L5, hP5, hm5, hL5⟩; have hW5 := hW3.dt hP5 hm5 hL5 (by rw [s1]; exact hvz) (by rw [s2]; exact hvN); have x1 := Blk.cell' hW5.bx (i := 1) (u := .pointer (some ⟨P, 0, none⟩)) rfl))
      refine StopOp.go rfl fun K hK => ?_
      refine wp_bslice stF [.agg #[.int .i64 1, .int .i64 0]] rfl (by decide) (by rfl) (by simp [Value.cells]) ?_
      intro g6 w6 hg61 hg62 hm6 hB6
      simp only [put_some, List.set_cons_succ, List.set_cons_zero]
      refine hK _ _ ?_
      clear hK K
      have hF6 : Fs w6 (.slice (some ⟨g6, 0, none⟩) 1 1) [(1, 0)] := (Ow.of_blk (rest := []) hB6 (Nat.le_refl _) (by omega) rfl rfl : Ow w6 99 2 (.slice (some ⟨g6, 0, none⟩) 1 1) 1 [.int .i64 1, .int .i64 0]).sl
      have hW6 := hW5.ext hm6
      have hr6 := hW6.r
      clear x1
      go_wp2_with (go_at_call 51; (with_reducible refine (RQ _ _ _ hr6 hF6 (fun _ b hb hh => by have e : b = g6 := (by simpa [blks] using hb); have := hW5.r.lt0 b (List.mem_cons_of_mem _ hh); omega)).mono ?_); rintro e w7 ⟨rfl, M7, hP7, hm7, hM7⟩; have hW7 := hW6.rt hP7 hm7 hM7 (by rw [s1]; exact hvz) (by rw [s2]; exact hvN))
      refine wp_region_T [⟨0, true, []⟩, ⟨1, true, []⟩, ⟨2, true, []⟩, ⟨3, true, []⟩, ⟨5, true, []⟩, ⟨6, true, []⟩, ⟨7, true, []⟩, ⟨8, true, []⟩, ⟨4, false, [6, 8]⟩, ⟨9, false, []⟩, ⟨10, false, []⟩, ⟨11, true, []⟩, ⟨12, false, []⟩, ⟨13, true, []⟩, ⟨14, true, []⟩] (by kernel_rfl) (by kernel_rfl) ?_
      have hmD := Mod.drew [] w7
      obtain ⟨xa, hxa⟩ : ∃ xa, xa = w7.drew := ⟨_, rfl⟩
      rw [← hxa] at hmD ⊢
      clear hxa
      have hW8 := hW7.ext hmD
      have hd8 := hW8.d
      have x0 := Blk.cell' hW8.bx (i := 0) (u := .pointer (some ⟨p, 0, none⟩)) rfl
      have x1 := Blk.cell' hW8.bx (i := 1) (u := .pointer (some ⟨P, 0, none⟩)) rfl
      iterate 8 (refine wpT_n rfl rfl (fun K hK => ?_); go_wp2_with fail)
      refine wpT_callh rfl rfl (fun K hK => ?_)
      go_wp2_with (go_at_call 27; (with_reducible refine (IM _ _ hd8).mono ?_); rintro e w9 ⟨i9, d9, rfl, hO9, hd9, hm9⟩)
      refine ⟨agains_cons rfl (again_const (fun _ => rfl)) (agains_cons rfl (again_load rfl rfl (hm9.block x hW8.bx.lt (by simp)) hW8.bx.kinds) agains_nil), ?_⟩
      have hW9 := hW8.ext hm9
      have hr9 := hW9.r
      refine wpT_call rfl rfl (fun K hK => ?_)
      go_wp2_with (go_at_call 52; (with_reducible refine (IQ _ _ hr9).mono ?_); rintro e w10 ⟨i10, d10, rfl, hO10, hd10, hm10⟩)
      have hA := (hO9.ext hm10).r
      have hB := hO10.r
      refine wpT_call rfl rfl (fun K hK => ?_)
      go_wp2_with (go_at_call 26; (with_reducible refine (sameRows_yes d9 d10 _ _ _ hA hB (hd9.trans hd10.symm)).mono ?_); rintro e w11 ⟨rfl, hm11⟩)
      refine wpT_n rfl rfl (fun K hK => ?_)
      go_wp2_with fail
      refine wpT_gcall (gi := 11) rfl rfl rfl rfl (fun K hK => ?_)
      go_wp2_with (go_at_call 40; (with_reducible refine (AW _).mono ?_); rintro e w12 ⟨rfl, hm12⟩)
      iterate 2 (refine wpT_n rfl rfl (fun K hK => ?_); go_wp2_with fail)
      refine wpT_nil ?_
      go_wp2_with fail
      go_ret
      exact ⟨rfl, (((hW9.m.ext hm10).ext hm11).ext hm12)⟩
end Go.Proofs.Ytdmnogmhnhjdgaa
