import Derived.Test.YtdmnogmhnhjdgaaRgG
/-! The document's region: Bytes, wrong, Sync, Read. -/
set_option linter.unusedVariables false
set_option linter.unusedSimpArgs false
set_option maxRecDepth 100000
namespace Go.Proofs.Ytdmnogmhnhjdgaa
open Go.RowKit Gw

theorem Rgr.lt {w : World} {r p f c : Nat} (h : Rgr w r p f c) : r < w.heap.size := Blk.lt h
theorem Pr.lt0 {w : World} {p q : Nat} {v : Pv} {L : List Nat} (h : Pr w p q v L) : ∀ k ∈ p :: L, k < w.heap.size := fun k hk => (List.mem_cons.1 hk).elim (fun e => e ▸ h.b.lt) (h.d.lt k)
theorem Pr.keep0 {w w' : World} {p q : Nat} {v : Pv} {L G : List Nat} (h : Pr w p q v L) (hm : Mod G w w') (hG : ∀ k ∈ p :: L, k ∉ G) : Pr w' p q v L := h.mod hm (hG p List.mem_cons_self) (fun b hb => hG b (List.mem_cons_of_mem _ hb))
/-- where a round over the sectors stands -/
def posH (z a e s : Nat) : Nat := max a (min (s * z) e)
theorem posH_0 (z a e : Nat) : posH z a e 0 = a := by
  unfold posH
  rw [Nat.zero_mul]
  omega
theorem posH_end {z a e c : Nat} (h1 : a ≤ e) (h2 : e ≤ c * z) : posH z a e c = e := by
  unfold posH
  omega
theorem posH_skip {z a e s : Nat} (h1 : a ≤ e) (h : min (e - s * z) z ≤ a - s * z) : posH z a e (s + 1) = posH z a e s := by
  unfold posH
  rw [Nat.add_mul, Nat.one_mul]
  omega
theorem posH_go {z a e s : Nat} (h1 : a ≤ e) (h : a - s * z < min (e - s * z) z) :
    posH z a e s = s * z + (a - s * z) ∧ posH z a e s < e ∧ posH z a e s / z = s ∧ posH z a e s % z = a - s * z ∧ toC z (posH z a e s) e = min (e - s * z) z ∧ nxt z (posH z a e s) e = posH z a e (s + 1) := by
  have hz : 0 < z := by omega
  have hM : a - s * z < z := by omega
  have hp : posH z a e s = s * z + (a - s * z) := by unfold posH; omega
  have hd : posH z a e s / z = s := by
    rw [hp, Nat.mul_comm, Nat.mul_add_div hz, Nat.div_eq_of_lt (by rw [Nat.mul_comm]; exact hM)]
    rfl
  have hm : posH z a e s % z = a - s * z := by
    rw [hp, Nat.mul_comm s z, Nat.mul_add_mod, Nat.mod_eq_of_lt (by rw [Nat.mul_comm]; exact hM)]
  have ht : toC z (posH z a e s) e = min (e - s * z) z := by
    unfold toC
    rw [hm, hp]
    omega
  refine ⟨hp, by rw [hp]; omega, hd, hm, ht, ?_⟩
  unfold nxt
  rw [ht, hm, hp]
  unfold posH
  rw [Nat.add_mul, Nat.one_mul]
  omega
set_option maxHeartbeats 2000000 in
theorem hBytes_any (h p q f c z : Nat) (v : Pv) (L : List Nat) (w : World) (hR : Rgr w h p f c) (hP : Pr w p q v L) (hz : v.m.sz = z) (hb : c * z ≤ 1099511627776) :
    Calls Try.prog 88 #[.pointer (some ⟨h, 0, none⟩)] w fun e w' => e = .returned (.int .i64 (c * z : Nat)) ∧ Mod [] w w' := by
  have SI := fun w h => qSize_any p q v L w h
  simp only [hz] at SI
  have q1 : (c : Int) * (z : Int) = ((c * z : Nat) : Int) := (Int.natCast_mul c z).symm
  obtain ⟨B, hB⟩ : ∃ B, B = c * z := ⟨_, rfl⟩
  rw [← hB] at q1 hb ⊢
  clear hB hz
  have y0 : (B : Int) ≤ 1099511627776 := by omega
  go_enter Try.func88, Try.ntmps88
  go_wp2_with fail
  refine wp_region_T [⟨0, true, []⟩, ⟨1, true, []⟩, ⟨2, true, []⟩, ⟨3, true, []⟩, ⟨4, true, []⟩, ⟨5, true, []⟩, ⟨6, true, []⟩, ⟨7, true, []⟩, ⟨8, true, []⟩, ⟨9, false, [1, 4]⟩, ⟨10, true, []⟩, ⟨11, true, []⟩] (by kernel_rfl) (by kernel_rfl) ?_
  have hm := Mod.drew [] w
  obtain ⟨x, hx⟩ : ∃ x, x = w.drew := ⟨_, rfl⟩
  rw [← hx] at hm ⊢
  clear hx
  have h2 := hR.ext hm
  have hP2 := hP.ext hm
  have c0 := Blk.cell' h2 (i := 0) rfl
  have c2 := Blk.cell' h2 (i := 2) rfl
  iterate 9 (refine wpT_n rfl rfl (fun K hK => ?_); go_wp2_with fail)
  refine wpT_callh rfl rfl (fun K hK => ?_)
  go_wp2_with (go_at_call 89; (with_reducible refine (SI _ hP2).mono ?_); rintro e w3 ⟨rfl, rfl⟩)
  refine ⟨agains_same, ?_⟩
  iterate 2 (refine wpT_n rfl rfl (fun K hK => ?_); go_wp2_with fail)
  refine wpT_nil ?_
  go_wp2_with fail
  go_ret
  exact ⟨rfl, hm⟩
theorem hSync_any (h p q f c : Nat) (v : Pv) (L : List Nat) (w : World) (hR : Rgr w h p f c) (hP : Pr w p q v L) (hn : v.n ≤ 1000000) (hr : v.m.row.length ≤ 1000000) : Calls Try.prog 87 #[.pointer (some ⟨h, 0, none⟩)] w fun e w' => e = .returned (.int .i64 (v.e 0)) ∧ PrP w p q v.sy L w' := by
  have SY := fun w h => qSync_any p q v L w h hn hr
  have c0 := Blk.cell' hR (i := 0) rfl
  go_enter Try.func87, Try.ntmps87
  go_wp2_with (go_at_call 125; (with_reducible refine (SY _ hP).mono ?_); rintro e w1 ⟨rfl, hp1⟩)
  go_ret
  exact ⟨rfl, hp1⟩
set_option maxHeartbeats 4000000 in
theorem hwrong_any (h p q f c z : Nat) (v : Pv) (L : List Nat) (a n : Int) (w : World) (hR : Rgr w h p f c) (hP : Pr w p q v L) (hz : v.m.sz = z) (hb : c * z ≤ 1099511627776) (ha : i64 a) (hn : i64 n) :
    Calls Try.prog 122 #[.pointer (some ⟨h, 0, none⟩), .int .i64 a, .int .i64 n] w fun e w' => e = .returned (.bool (!hold (c * z) a n)) ∧ Mod [] w w' := by
  have BY := fun w hR hP => hBytes_any h p q f c z v L w hR hP hz hb
  obtain ⟨B, hB⟩ : ∃ B, B = c * z := ⟨_, rfl⟩
  rw [← hB] at hb BY ⊢
  clear hB
  obtain ⟨ha1, ha2⟩ := ha
  obtain ⟨hn1, hn2⟩ := hn
  have y0 : (B : Int) ≤ 1099511627776 := by omega
  have y1 : (0 : Int) ≤ B := by omega
  by_cases g1 : 0 ≤ a
  · by_cases g2 : 0 ≤ n
    · by_cases g3 : a ≤ B
      · by_cases g4 : n ≤ B - a
        · rw [show hold B a n = true from decide_eq_true ⟨g1, g2, g3, g4⟩]
          have d1 : decide (a < 0) = false := decide_eq_false (by omega)
          have d2 : decide (n < 0) = false := decide_eq_false (by omega)
          have d3 : decide ((B : Int) < a) = false := decide_eq_false (by omega)
          have d4 : decide ((B : Int) - a < n) = false := decide_eq_false (by omega)
          go_enter Try.func122, Try.ntmps122
          go_wp2_with (first
                        | (go_at_call 88; (with_reducible refine (BY _ hR hP).mono ?_); rintro e w1 ⟨rfl, hm1⟩; have hR1 := hR.ext hm1; have hP1 := hP.ext hm1)
                        | (go_at_call 88; (with_reducible refine (BY _ hR1 hP1).mono ?_); rintro e w2 ⟨rfl, hm2⟩))
          go_ret
          exact ⟨rfl, hm1.ext hm2⟩
        · rw [show hold B a n = false from decide_eq_false (fun hh => g4 hh.2.2.2)]
          have g5 : (B : Int) - a < n := by omega
          go_enter Try.func122, Try.ntmps122
          go_wp2_with (first
                        | (go_at_call 88; (with_reducible refine (BY _ hR hP).mono ?_); rintro e w1 ⟨rfl, hm1⟩; have hR1 := hR.ext hm1; have hP1 := hP.ext hm1)
                        | (go_at_call 88; (with_reducible refine (BY _ hR1 hP1).mono ?_); rintro e w2 ⟨rfl, hm2⟩))
          go_ret
          exact ⟨rfl, hm1.ext hm2⟩
      · rw [show hold B a n = false from decide_eq_false (fun hh => g3 hh.2.2.1)]
        have g5 : (B : Int) < a := by omega
        go_enter Try.func122, Try.ntmps122
        go_wp2_with (go_at_call 88; (with_reducible refine (BY _ hR hP).mono ?_); rintro e w1 ⟨rfl, hm1⟩; have hR1 := hR.ext hm1; have hP1 := hP.ext hm1)
        go_ret
        exact ⟨rfl, hm1⟩
    · rw [show hold B a n = false from decide_eq_false (fun hh => g2 hh.2.1)]
      have g5 : n < 0 := by omega
      go_enter Try.func122, Try.ntmps122
      go_wp2_with fail
      go_ret
      exact ⟨rfl, Mod.refl _ _⟩
  · rw [show hold B a n = false from decide_eq_false (fun hh => g1 hh.1)]
    have g5 : a < 0 := by omega
    go_enter Try.func122, Try.ntmps122
    go_wp2_with fail
    go_ret
    exact ⟨rfl, Mod.refl _ _⟩
/-- what Read answers -/
def HRdP (w : World) (p q : Nat) (L : List Nat) (R : Pv × Int × List UInt8) (e : Ending) (w' : World) : Prop := ∃ rv, e = .returned (.tuple #[rv, .int .i64 R.2.1]) ∧ Ob w' rv R.2.2 ∧ New w rv ∧ Pr w' p q R.1 L ∧ Mod [p] w w'
set_option maxRecDepth 1000000 in
set_option maxHeartbeats 8000000 in
theorem hRead_any (h p q f c z : Nat) (v : Pv) (L : List Nat) (a n : Int) (w : World) (hP : Pr w p q v L) (hR : Rgr w h p f c) (hz : v.m.sz = z) (hfc : f + c ≤ v.m.dur.length) (hn : v.n + c * z ≤ 1000000) (ha : i64 a) (hn' : i64 n) :
    Calls Try.prog 85 #[.pointer (some ⟨h, 0, none⟩), .int .i64 a, .int .i64 n] w (HRdP w p q L (rdA f c z v a n)) := by
  have hs1 := hP.ok.m.s1
  have hs2 := hP.ok.m.s2
  have hn2 := hP.ok.m.n2
  rw [hz] at hs1 hs2
  have WO := fun w hR hP => hwrong_any h p q f c z v L a n w hR hP hz (by omega) ha hn'
  obtain ⟨hh, hhe⟩ : ∃ b, b = hold (c * z) a n := ⟨_, rfl⟩
  rw [← hhe] at WO
  unfold rdA
  rw [← hhe]
  unfold HRdP
  cases hh with
  | false =>
    rw [if_neg (by decide)]
    simp only [Bool.not_false] at WO
    clear hhe
    go_enter Try.func85, Try.ntmps85
    go_wp2_with (go_at_call 122; (with_reducible refine (WO _ hR hP).mono ?_); rintro e w2 ⟨rfl, hm2⟩)
    go_ret2
    exact ⟨.slice none 0 0, rfl, Ob.nil _, by simp [New, blks], hP.ext hm2, hm2.weak (by simp)⟩
  | true =>
    rw [if_pos rfl]
    simp only [Bool.not_true] at WO
    obtain ⟨g1, g2, g3, g4⟩ := of_decide_eq_true hhe.symm
    obtain ⟨A, rfl⟩ := Int.eq_ofNat_of_zero_le g1
    obtain ⟨Nn, rfl⟩ := Int.eq_ofNat_of_zero_le g2
    have hle : A + Nn ≤ c * z := by omega
    rw [Int.toNat_natCast, Int.toNat_natCast]
    obtain ⟨E, hE⟩ : ∃ e, e = A + Nn := ⟨_, rfl⟩
    rw [← hE] at hle ⊢
    have he : (A : Int) + (Nn : Int) = (E : Nat) := by omega
    have hAE : A ≤ E := by omega
    have y5 : (E : Int) ≤ 1000000 := by omega
    have y6 : (A : Int) ≤ E := by omega
    obtain ⟨R0, hR0⟩ : ∃ R, R = rdG f z v A E [] := ⟨_, rfl⟩
    rw [← hR0]
    have SI := fun w h => qSize_any p q v L w h
    simp only [hz] at SI
    have hcz : c * z ≤ 1000000 := by omega
    have yc : (c : Int) ≤ 65536 := by omega
    have yz : (z : Int) ≤ 4096 := by omega
    have yz1 : (1 : Int) ≤ z := by omega
    have yf : (f : Int) ≤ 65536 := by omega
    have hhp : h ≠ p := fun e => by subst e; exact Blk.ne hR hP.b (by decide) rfl
    have hPw := hP.lt0
    have hpw : p < w.heap.size := hP.b.lt
    have hhw : h < w.heap.size := Rgr.lt hR
    have H0 := Lib.hid (And.intro hR0 (And.intro hle (And.intro hz (And.intro hfc (And.intro hn hcz)))))
    clear hhe g1 g2 g3 g4 hE hR0 hle hz hfc hn hcz ha hn' y5
    have c0 := Blk.cell' hR (i := 0) rfl
    have y5 : (E : Int) ≤ 1000000 := by have := H0.out.2.1; have := H0.out.2.2.2.2.2; omega
    go_enter Try.func85, Try.ntmps85
    go_upto_region 5 with (first
                  | (go_at_call 122; (with_reducible refine (WO _ hR hP).mono ?_); rintro e w2 ⟨rfl, hm2⟩; have hR2 := hR.ext hm2; have hP2 := hP.ext hm2; have c0 := Blk.cell' hR2 (i := 0) rfl)
                  | (go_at_call 89; (with_reducible refine (SI _ hP2).mono ?_); rintro e w3 ⟨rfl, rfl⟩))
    have hm2' : Mod [p] w w2 := hm2.weak (by simp)
    clear WO SI c0
    go_wp2_with fail
    go_loopw [8, 10, 11, 12, 13, 14] (fun ov sv _ _ _ _ wr => ∃ (s : Nat) (V : Pv) (acc : List UInt8), sv = .int .i64 s ∧ s ≤ c ∧ Pr wr p q V L ∧ Rgr wr h p f c ∧ Ob wr ov acc ∧ New w ov ∧ V.m.sz = z ∧ f + c ≤ V.m.dur.length ∧ V.n ≤ v.n + s * z ∧ acc.length ≤ s * z ∧ rdG f z V (posH z A E s) E acc = R0 ∧ Mod [p] w wr) (fun _ sv _ _ _ _ _ => c - (intOf sv).toNat)
    case atStart => exact ⟨0, v, [], rfl, Nat.zero_le _, hP2, hR2, Ob.nil _, by simp [New, blks], H0.out.2.2.1, H0.out.2.2.2.1, by omega, by simp, by rw [posH_0]; exact H0.out.1.symm, hm2'⟩
    case round =>
      clear hP2 hR2 hm2 hm2'
      obtain ⟨s, V, acc, rfl, hs, hPr, hRr, hob, hnw, hVz, hVd, hVn, hal, hRG, hM⟩ := hrel
      have c0 := Blk.cell' hRr (i := 0) rfl
      have c1 := Blk.cell' hRr (i := 1) rfl
      have c2 := Blk.cell' hRr (i := 2) rfl
      obtain ⟨aoo, capo, rfl, _, _⟩ := hob.sl.form
      by_cases hlt : s < c
      · have y1 : (s : Int) < c := by omega
        have hZc : (s + 1) * z ≤ c * z := Nat.mul_le_mul_right z hlt
        have hZ2 : (s + 1) * z = s * z + z := by rw [Nat.add_mul, Nat.one_mul]
        have hG := posH_go (z := z) (s := s) hAE
        have hK := posH_skip (z := z) (s := s) hAE
        obtain ⟨Z1, hZ1⟩ : ∃ Z1, Z1 = s * z := ⟨_, rfl⟩
        have qz : (s : Int) * (z : Int) = (Z1 : Nat) := by rw [hZ1]; exact (Int.natCast_mul s z).symm
        rw [← hZ1] at hVn hal hZ2 hG hK
        have hZ3 : Z1 + z ≤ 1000000 := by have := H0.out.2.2.2.2.2; omega
        obtain ⟨M, hMd⟩ : ∃ M, M = A - Z1 := ⟨_, rfl⟩
        obtain ⟨T, hTd⟩ : ∃ T, T = min (E - Z1) z := ⟨_, rfl⟩
        rw [← hMd, ← hTd] at hG hK
        obtain ⟨tt, htt⟩ : ∃ t : Int, t = min ((E : Int) - Z1) z := ⟨_, rfl⟩
        have y7 : (Z1 : Int) + z ≤ 1000000 := by omega
        have HMT := Lib.hid (And.intro hMd (And.intro hTd (And.intro htt (And.intro hZ1 (And.intro hG hK)))))
        clear hZ1 hMd hTd htt hG hK
        go_upto_region 9 with fail
        obtain ⟨cc, hcc⟩ : ∃ b, b = decide (T ≤ M) := ⟨_, rfl⟩
        have HCC := Lib.hid hcc
        clear hcc
        go_cut [11, 12, 50] (fun u1 u2 u3 wx => u1 = .int .i64 (M : Nat) ∧ u2 = .int .i64 tt ∧ u3 = .bool cc ∧ wr = wx)
        case first =>
          have hM0 := HMT.out.1
          have hT0 := HMT.out.2.2.1
          have hT1 := HMT.out.2.1
          have G := Lib.hid (And.intro hM0 (And.intro hT1 hT0))
          clear hM0 hT0 hT1 HMT
          by_cases g1 : (A : Int) < Z1
          · by_cases g2 : (z : Int) < (E : Int) - Z1
            · go_wp2_with fail
              go_meet
              obtain ⟨gM, gT1, gT⟩ := G.out
              exact ⟨congrArg (Value.int .i64) (by omega), congrArg (Value.int .i64) (by omega), congrArg Value.bool (by rw [HCC.out]; first | exact decide_eq_decide.2 (by omega) | exact (decide_eq_true (by omega)).symm | exact (decide_eq_false (by omega)).symm), rfl⟩
            · have g3 : (E : Int) - Z1 ≤ z := by omega
              go_wp2_with fail
              go_meet
              obtain ⟨gM, gT1, gT⟩ := G.out
              exact ⟨congrArg (Value.int .i64) (by omega), congrArg (Value.int .i64) (by omega), congrArg Value.bool (by rw [HCC.out]; first | exact decide_eq_decide.2 (by omega) | exact (decide_eq_true (by omega)).symm | exact (decide_eq_false (by omega)).symm), rfl⟩
          · have g4 : (Z1 : Int) ≤ A := by omega
            by_cases g2 : (z : Int) < (E : Int) - Z1
            · go_wp2_with fail
              go_meet
              obtain ⟨gM, gT1, gT⟩ := G.out
              exact ⟨congrArg (Value.int .i64) (by omega), congrArg (Value.int .i64) (by omega), congrArg Value.bool (by rw [HCC.out]; first | exact decide_eq_decide.2 (by omega) | exact (decide_eq_true (by omega)).symm | exact (decide_eq_false (by omega)).symm), rfl⟩
            · have g3 : (E : Int) - Z1 ≤ z := by omega
              go_wp2_with fail
              go_meet
              obtain ⟨gM, gT1, gT⟩ := G.out
              exact ⟨congrArg (Value.int .i64) (by omega), congrArg (Value.int .i64) (by omega), congrArg Value.bool (by rw [HCC.out]; first | exact decide_eq_decide.2 (by omega) | exact (decide_eq_true (by omega)).symm | exact (decide_eq_false (by omega)).symm), rfl⟩
        case rest =>
        obtain ⟨rfl, rfl, rfl, rfl⟩ := hcut
        obtain ⟨hMd, hTd, htt, hZ1, hG, hK⟩ := HMT.out
        by_cases hMT : M < T
        · obtain rfl : tt = (T : Nat) := by omega
          obtain ⟨G0, G1, G2, G3, G4, G5⟩ := hG (by omega)
          obtain rfl : cc = false := by rw [HCC.out]; exact decide_eq_false (by omega)
          have y8 : (M : Int) < T := by omega
          have hTz : T ≤ z := by omega
          have hS : f + s < V.m.dur.length := by omega
          have RD := fun w h => qRead_any p q V L ((f + s : Nat) : Int) w h (by have := H0.out.2.2.2.2.1; have := H0.out.2.2.2.2.2; omega)
          rw [noneE_ok hS] at RD
          have q0 : ((f + s : Nat) : Int) = (f : Int) + (s : Nat) := by omega
          have hlen : (V.m.read (f + s)).length = z := by rw [hPr.ok.m.read hS, hVz]
          cases hg : V.go with
          | false =>
            rw [show V.e 0 = 60 from if_neg (by rw [hg]; decide), show V.rd ((f + s : Nat) : Int) = [] from by unfold Pv.rd; rw [if_neg (by rw [hg]; decide)], q0] at RD
            have hR0 : R0 = (V.md, 60, []) := by rw [← hRG, rdG_no G1 (by omega) hg]
            clear hlen hS q0 hG hK G0 G1 G2 G3 G4 G5 hMd hTd htt hZ1 HMT
            go_wp2_with fail
            refine wp_region_T [⟨0, true, []⟩, ⟨1, true, []⟩, ⟨2, true, []⟩, ⟨3, true, []⟩, ⟨4, true, []⟩, ⟨5, true, []⟩, ⟨6, true, []⟩, ⟨7, true, []⟩, ⟨8, true, []⟩, ⟨9, true, []⟩, ⟨10, true, []⟩, ⟨11, false, []⟩, ⟨12, true, []⟩, ⟨13, true, []⟩, ⟨14, true, []⟩, ⟨15, true, []⟩, ⟨16, true, []⟩] (by kernel_rfl) (by kernel_rfl) ?_
            have hmD := Mod.drew [] wr
            obtain ⟨x, hx⟩ : ∃ x, x = wr.drew := ⟨_, rfl⟩
            rw [← hx] at hmD ⊢
            clear hx
            have hR2 := hRr.ext hmD
            have hP2 := hPr.ext hmD
            have c0 := Blk.cell' hR2 (i := 0) rfl
            have c1 := Blk.cell' hR2 (i := 1) rfl
            iterate 11 (refine wpT_n rfl rfl (fun K hK => ?_); go_wp2_with fail)
            refine wpT_call rfl rfl (fun K hK => ?_)
            go_wp2_with (go_at_call 123; (with_reducible refine (RD _ hP2).mono ?_); rintro e w3 ⟨v3, rfl, ho3, hn3, hP3, hm3⟩)
            obtain ⟨ao3, cap3, rfl, _, _⟩ := Ob.nxR (n := 0) ho3 rfl
            iterate 5 (refine wpT_n rfl rfl (fun K hK => ?_); go_wp2_with fail)
            refine wpT_nil ?_
            go_wp2_with fail
            go_ret2
            rw [hR0]
            exact ⟨.slice none 0 0, rfl, Ob.nil _, by simp [New, blks], hP3, (hM.ext hmD).trans hm3⟩
          | true =>
            rw [show V.e 0 = 0 from if_pos hg, rd_sec hg hS, q0] at RD
            obtain ⟨B, hB⟩ : ∃ B, B = V.m.read (f + s) := ⟨_, rfl⟩
            rw [← hB] at RD hlen
            have hG0 : rdG f z V.md (posH z A E (s + 1)) E (acc ++ (B.drop M).take (T - M)) = R0 := by
              rw [← hRG, rdG_go G1 (by omega) hg, G2, G3, G4, G5, hB]
            have hmdn := md_n2 V
            have hmdz : V.md.m.sz = z := by rw [Pv.md_m]; exact hVz
            have hmdd : f + c ≤ V.md.m.dur.length := by rw [Pv.md_m]; exact hVd
            have hsl : ((B.drop M).take (T - M)).length = T - M := by rw [List.length_take, List.length_drop, hlen]; omega
            have hnx : V.md.n ≤ v.n + (s + 1) * z := by omega
            have hax : acc.length + (T - M) ≤ (s + 1) * z := by omega
            obtain ⟨V2, hV2⟩ : ∃ x, x = V.md := ⟨_, rfl⟩
            rw [← hV2] at RD hG0 hnx hmdz hmdd
            have HB := Lib.hid (And.intro hG0 (And.intro hlen (And.intro hsl (And.intro hnx (And.intro hmdz (And.intro hmdd hax))))))
            have hal2 : acc.length + (T - M) ≤ 1000000 := by omega
            have y9 : (T : Int) ≤ z := by omega
            clear hlen hS q0 hG hK G0 G1 G2 G3 G4 G5 hMd hTd htt hZ1 HMT hB hG0 hmdn hsl hnx hmdz hmdd hax hV2
            go_wp2_with fail
            refine wp_region_T [⟨0, true, []⟩, ⟨1, true, []⟩, ⟨2, true, []⟩, ⟨3, true, []⟩, ⟨4, true, []⟩, ⟨5, true, []⟩, ⟨6, true, []⟩, ⟨7, true, []⟩, ⟨8, true, []⟩, ⟨9, true, []⟩, ⟨10, true, []⟩, ⟨11, false, []⟩, ⟨12, true, []⟩, ⟨13, true, []⟩, ⟨14, true, []⟩, ⟨15, true, []⟩, ⟨16, true, []⟩] (by kernel_rfl) (by kernel_rfl) ?_
            have hmD := Mod.drew [] wr
            obtain ⟨x, hx⟩ : ∃ x, x = wr.drew := ⟨_, rfl⟩
            rw [← hx] at hmD ⊢
            clear hx
            have hR2 := hRr.ext hmD
            have hP2 := hPr.ext hmD
            have c0 := Blk.cell' hR2 (i := 0) rfl
            have c1 := Blk.cell' hR2 (i := 1) rfl
            iterate 11 (refine wpT_n rfl rfl (fun K hK => ?_); go_wp2_with fail)
            refine wpT_call rfl rfl (fun K hK => ?_)
            go_wp2_with (go_at_call 123; (with_reducible refine (RD _ hP2).mono ?_); rintro e w3 ⟨v3, rfl, ho3, hn3, hP3, hm3⟩)
            obtain ⟨ao3, cap3, rfl, hc3, _⟩ := Ob.nxR (n := z) ho3 HB.out.2.1
            have y4 : (z : Int) ≤ cap3 := by omega
            have hob3 : Ob w3 (.slice aoo acc.length capo) acc := Ow.mod (hob.ext hmD) hm3 (fun k hk hh => by have e : k = p := (by simpa using hh); have := hnw k hk; omega)
            have hb3 : Bs w3 (.slice ao3 z cap3) B := Ob.bs ho3
            have hsub := Bs.subR (lo := M) (hi := T) hb3 (by omega) (by rw [HB.out.2.1]; omega) hc3 HB.out.2.1.symm (by omega)
            unfold Bs at hsub
            rw [HB.out.2.2.1] at hsub
            have hR3 := hR2.mod hm3 (by simpa using hhp)
            have hM3 := (hM.ext hmD).trans hm3
            iterate 5 (refine wpT_n rfl rfl (fun K hK => ?_); go_wp2_with fail)
            refine wpT_nil ?_
            go_wp2_with (with_reducible refine st_append ?_)
            refine StopOp.go rfl fun K hK => ?_
            refine wp_append_ow stB (by rfl) (by rfl) hob3 hsub (bv_one _) (by omega) (by omega) ?_
            intro v4 w4 ho4 hm4 hb4
            simp only [put_some, List.set_cons_succ, List.set_cons_zero]
            refine hK _ _ ?_
            clear hK K
            rw [← bv_append] at ho4
            have ho4' : Ob w4 v4 (acc ++ (B.drop M).take (T - M)) := by unfold Ob; rw [List.length_append, HB.out.2.2.1]; exact ho4
            obtain ⟨ao4, cap4, rfl, _, _⟩ := ho4.sl.form
            go_wp2_with fail
            go_roundw
            case rel =>
              obtain ⟨x1, x2, x3, x4, x5, x6, x7⟩ := HB.out
              have hs3 := hM3.size
              have hlo := hP3.lt0
              exact ⟨s + 1, V2, acc ++ (B.drop M).take (T - M), by go_num, by omega, Pr.keep0 hP3 hm4 (fun k hk hh => by have := hnw k hh; have := hPw k hk; omega), hR3.mod hm4 (fun hh => by have := hnw _ hh; omega), ho4', fun k hk => (hb4 k hk).elim (hnw k) (fun h => by omega), x5, x6, x4, by rw [List.length_append, x3]; exact x7, x1, hM3.then hm4 (fun g hg => .inr (hnw g hg))⟩
            case measure => simp [intOf]; omega
        · have hK' := hK (by omega)
          obtain rfl : cc = true := by rw [HCC.out]; exact decide_eq_true (by omega)
          clear hG hK
          go_wp2_with fail
          go_roundw
          case rel => exact ⟨s + 1, V, acc, by go_num, by omega, hPr, hRr, hob, hnw, hVz, hVd, by omega, by omega, by rw [hK']; exact hRG, hM⟩
          case measure => simp [intOf]; omega
      · obtain rfl : c = s := by omega
        go_wp2_with fail
        go_ret2
        rw [posH_end hAE H0.out.2.1, rdG_end] at hRG
        rw [← hRG]
        exact ⟨_, rfl, hob, hnw, hPr, hM⟩
end Go.Proofs.Ytdmnogmhnhjdgaa
