import Derived.Test.YtfepggdljhiemaaGreatDoorGRg
import Derived.Test.YtfepggdljhiemaaGreatDoorGRs
/-! The document's region: Bytes, wrong, Sync, Read. -/
set_option linter.unusedVariables false
set_option linter.unusedSimpArgs false
set_option maxRecDepth 100000
namespace Go.Proofs.YtfepggdljhiemaaGreatDoor
open Go.RowKit Gw

theorem Rgr.lt {w : World} {r p f c : Nat} (h : Rgr w r p f c) : r < w.heap.size := Blk.lt h
theorem Pr.lt0 {w : World} {p q : Nat} {v : Pv} {L : List Nat} (h : Pr w p q v L) : ∀ k ∈ p :: L, k < w.heap.size := fun k hk => (List.mem_cons.1 hk).elim (fun e => e ▸ h.b.lt) (h.d.lt k)
theorem Pr.keep0 {w w' : World} {p q : Nat} {v : Pv} {L G : List Nat} (h : Pr w p q v L) (hm : Mod G w w') (hG : ∀ k ∈ p :: L, k ∉ G) : Pr w' p q v L := h.mod hm (hG p List.mem_cons_self) (fun b hb => hG b (List.mem_cons_of_mem _ hb))
/-- where a round over the sectors stands -/
def posH (z a e s : Nat) : Nat := max a (min (s * z) e)
theorem posH_0 (z a e : Nat) : posH z a e 0 = a := by
  unfold posH
  rw [Nat.zero_mul]
  omega
theorem posH_end {z a e c : Nat} (h1 : a ≤ e) (h2 : e ≤ c * z) : posH z a e c = e := by
  unfold posH
  omega
theorem posH_skip {z a e s : Nat} (h1 : a ≤ e) (h : min (e - s * z) z ≤ a - s * z) : posH z a e (s + 1) = posH z a e s := by
  unfold posH
  rw [Nat.add_mul, Nat.one_mul]
  omega
theorem posH_go {z a e s : Nat} (h1 : a ≤ e) (h : a - s * z < min (e - s * z) z) :
    posH z a e s = s * z + (a - s * z) ∧ posH z a e s < e ∧ posH z a e s / z = s ∧ posH z a e s % z = a - s * z ∧ toC z (posH z a e s) e = min (e - s * z) z ∧ nxt z (posH z a e s) e = posH z a e (s + 1) := by
  have hz : 0 < z := by omega
  have hM : a - s * z < z := by omega
  have hp : posH z a e s = s * z + (a - s * z) := by unfold posH; omega
  have hd : posH z a e s / z = s := by
    rw [hp, Nat.mul_comm, Nat.mul_add_div hz, Nat.div_eq_of_lt (by rw [Nat.mul_comm]; exact hM)]
    rfl
  have hm : posH z a e s % z = a - s * z := by
    rw [hp, Nat.mul_comm s z, Nat.mul_add_mod, Nat.mod_eq_of_lt (by rw [Nat.mul_comm]; exact hM)]
  have ht : toC z (posH z a e s) e = min (e - s * z) z := by
    unfold toC
    rw [hm, hp]
    omega
  refine ⟨hp, by rw [hp]; omega, hd, hm, ht, ?_⟩
  unfold nxt
  rw [ht, hm, hp]
  unfold posH
  rw [Nat.add_mul, Nat.one_mul]
  omega
set_option maxHeartbeats 2000000 in
theorem hBytes_any (h p q f c z : Nat) (v : Pv) (L : List Nat) (w : World) (hR : Rgr w h p f c) (hP : Pr w p q v L) (hz : v.m.sz = z) (hb : c * z ≤ 1099511627776) :
    Calls Tryz.prog 126 #[.pointer (some ⟨h, 0, none⟩)] w fun e w' => e = .returned (.int .i64 (c * z : Nat)) ∧ Mod [] w w' := by
  have SI := fun w h => qSize_any p q v L w h
  simp only [hz] at SI
  have q1 : (c : Int) * (z : Int) = ((c * z : Nat) : Int) := (Int.natCast_mul c z).symm
  obtain ⟨B, hB⟩ : ∃ B, B = c * z := ⟨_, rfl⟩
  rw [← hB] at q1 hb ⊢
  clear hB hz
  have y0 : (B : Int) ≤ 1099511627776 := by omega
  go_enter Tryz.func126, Tryz.ntmps126
  go_wp2_with fail
  refine wp_region_T [⟨0, true, []⟩, ⟨1, true, []⟩, ⟨2, true, []⟩, ⟨3, true, []⟩, ⟨4, true, []⟩, ⟨5, true, []⟩, ⟨6, true, []⟩, ⟨7, true, []⟩, ⟨8, true, []⟩, ⟨9, false, [1, 4]⟩, ⟨10, true, []⟩, ⟨11, true, []⟩] (by kernel_rfl) (by kernel_rfl) ?_
  have hm := Mod.drew [] w
  obtain ⟨x, hx⟩ : ∃ x, x = w.drew := ⟨_, rfl⟩
  rw [← hx] at hm ⊢
  clear hx
  have h2 := hR.ext hm
  have hP2 := hP.ext hm
  have c0 := Blk.cell' h2 (i := 0) rfl
  have c2 := Blk.cell' h2 (i := 2) rfl
  iterate 9 (refine wpT_n rfl rfl (fun K hK => ?_); go_wp2_with fail)
  refine wpT_callh rfl rfl (fun K hK => ?_)
  go_wp2_with (go_at_call 169; (with_reducible refine (SI _ hP2).mono ?_); rintro e w3 ⟨rfl, rfl⟩)
  refine ⟨agains_same, ?_⟩
  iterate 2 (refine wpT_n rfl rfl (fun K hK => ?_); go_wp2_with fail)
  refine wpT_nil ?_
  go_wp2_with fail
  go_ret
  exact ⟨rfl, hm⟩
theorem hSync_any (h p q f c : Nat) (v : Pv) (L : List Nat) (w : World) (hR : Rgr w h p f c) (hP : Pr w p q v L) (hn : v.n ≤ 1000000) (hr : v.m.row.length ≤ 1000000) : Calls Tryz.prog 125 #[.pointer (some ⟨h, 0, none⟩)] w fun e w' => e = .returned (.int .i64 (v.e 0)) ∧ PrP w p q v.sy L w' := by
  have SY := fun w h => qSync_any p q v L w h hn hr
  have c0 := Blk.cell' hR (i := 0) rfl
  go_enter Tryz.func125, Tryz.ntmps125
  go_wp2_with (go_at_call 173; (with_reducible refine (SY _ hP).mono ?_); rintro e w1 ⟨rfl, hp1⟩)
  go_ret
  exact ⟨rfl, hp1⟩
set_option maxHeartbeats 4000000 in
theorem hwrong_any (h p q f c z : Nat) (v : Pv) (L : List Nat) (a n : Int) (w : World) (hR : Rgr w h p f c) (hP : Pr w p q v L) (hz : v.m.sz = z) (hb : c * z ≤ 1099511627776) (ha : i64 a) (hn : i64 n) :
    Calls Tryz.prog 168 #[.pointer (some ⟨h, 0, none⟩), .int .i64 a, .int .i64 n] w fun e w' => e = .returned (.bool (!hold (c * z) a n)) ∧ Mod [] w w' := by
  have BY := fun w hR hP => hBytes_any h p q f c z v L w hR hP hz hb
  obtain ⟨B, hB⟩ : ∃ B, B = c * z := ⟨_, rfl⟩
  rw [← hB] at hb BY ⊢
  clear hB
  obtain ⟨ha1, ha2⟩ := ha
  obtain ⟨hn1, hn2⟩ := hn
  have y0 : (B : Int) ≤ 1099511627776 := by omega
  have y1 : (0 : Int) ≤ B := by omega
  by_cases g1 : 0 ≤ a
  · by_cases g2 : 0 ≤ n
    · by_cases g3 : a ≤ B
      · by_cases g4 : n ≤ B - a
        · rw [show hold B a n = true from decide_eq_true ⟨g1, g2, g3, g4⟩]
          have d1 : decide (a < 0) = false := decide_eq_false (by omega)
          have d2 : decide (n < 0) = false := decide_eq_false (by omega)
          have d3 : decide ((B : Int) < a) = false := decide_eq_false (by omega)
          have d4 : decide ((B : Int) - a < n) = false := decide_eq_false (by omega)
          go_enter Tryz.func168, Tryz.ntmps168
          go_wp2_with (first
                        | (go_at_call 126; (with_reducible refine (BY _ hR hP).mono ?_); rintro e w1 ⟨rfl, hm1⟩; have hR1 := hR.ext hm1; have hP1 := hP.ext hm1)
                        | (go_at_call 126; (with_reducible refine (BY _ hR1 hP1).mono ?_); rintro e w2 ⟨rfl, hm2⟩))
          go_ret
          exact ⟨rfl, hm1.ext hm2⟩
        · rw [show hold B a n = false from decide_eq_false (fun hh => g4 hh.2.2.2)]
          have g5 : (B : Int) - a < n := by omega
          go_enter Tryz.func168, Tryz.ntmps168
          go_wp2_with (first
                        | (go_at_call 126; (with_reducible refine (BY _ hR hP).mono ?_); rintro e w1 ⟨rfl, hm1⟩; have hR1 := hR.ext hm1; have hP1 := hP.ext hm1)
                        | (go_at_call 126; (with_reducible refine (BY _ hR1 hP1).mono ?_); rintro e w2 ⟨rfl, hm2⟩))
          go_ret
          exact ⟨rfl, hm1.ext hm2⟩
      · rw [show hold B a n = false from decide_eq_false (fun hh => g3 hh.2.2.1)]
        have g5 : (B : Int) < a := by omega
        go_enter Tryz.func168, Tryz.ntmps168
        go_wp2_with (go_at_call 126; (with_reducible refine (BY _ hR hP).mono ?_); rintro e w1 ⟨rfl, hm1⟩; have hR1 := hR.ext hm1; have hP1 := hP.ext hm1)
        go_ret
        exact ⟨rfl, hm1⟩
    · rw [show hold B a n = false from decide_eq_false (fun hh => g2 hh.2.1)]
      have g5 : n < 0 := by omega
      go_enter Tryz.func168, Tryz.ntmps168
      go_wp2_with fail
      go_ret
      exact ⟨rfl, Mod.refl _ _⟩
  · rw [show hold B a n = false from decide_eq_false (fun hh => g1 hh.1)]
    have g5 : a < 0 := by omega
    go_enter Tryz.func168, Tryz.ntmps168
    go_wp2_with fail
    go_ret
    exact ⟨rfl, Mod.refl _ _⟩
/-- what Read answers -/
def HRdP (w : World) (p q : Nat) (L : List Nat) (R : Pv × Int × List UInt8) (e : Ending) (w' : World) : Prop := ∃ rv, e = .returned (.tuple #[rv, .int .i64 R.2.1]) ∧ Ob w' rv R.2.2 ∧ New w rv ∧ Pr w' p q R.1 L ∧ Mod [p] w w'
set_option maxRecDepth 1000000 in
set_option maxHeartbeats 8000000 in
theorem hRead_any (h p q f c z : Nat) (v : Pv) (L : List Nat) (a n : Int) (w : World) (hP : Pr w p q v L) (hR : Rgr w h p f c) (hz : v.m.sz = z) (hfc : f + c ≤ v.m.dur.length) (hn : v.n + c * z ≤ 1000000) (ha : i64 a) (hn' : i64 n) :
    Calls Tryz.prog 135 #[.pointer (some ⟨h, 0, none⟩), .int .i64 a, .int .i64 n] w (HRdP w p q L (rdA f c z v a n)) := by
  have hs1 := hP.ok.m.s1
  have hs2 := hP.ok.m.s2
  have hn2 := hP.ok.m.n2
  rw [hz] at hs1 hs2
  have WO := fun w hR hP => hwrong_any h p q f c z v L a n w hR hP hz (by omega) ha hn'
  obtain ⟨hh, hhe⟩ : ∃ b, b = hold (c * z) a n := ⟨_, rfl⟩
  rw [← hhe] at WO
  unfold rdA
  rw [← hhe]
  unfold HRdP
  cases hh with
  | false =>
    rw [if_neg (by decide)]
    simp only [Bool.not_false] at WO
    clear hhe
    go_enter Tryz.func135, Tryz.ntmps135
    go_wp2_with (go_at_call 168; (with_reducible refine (WO _ hR hP).mono ?_); rintro e w2 ⟨rfl, hm2⟩)
    go_ret2
    exact ⟨.slice none 0 0, rfl, Ob.nil _, by simp [New, blks], hP.ext hm2, hm2.weak (by simp)⟩
  | true =>
    rw [if_pos rfl]
    simp only [Bool.not_true] at WO
    obtain ⟨g1, g2, g3, g4⟩ := of_decide_eq_true hhe.symm
    obtain ⟨A, rfl⟩ := Int.eq_ofNat_of_zero_le g1
    obtain ⟨Nn, rfl⟩ := Int.eq_ofNat_of_zero_le g2
    have hle : A + Nn ≤ c * z := by omega
    rw [Int.toNat_natCast, Int.toNat_natCast]
    obtain ⟨E, hE⟩ : ∃ e, e = A + Nn := ⟨_, rfl⟩
    rw [← hE] at hle ⊢
    have he : (A : Int) + (Nn : Int) = (E : Nat) := by omega
    have hAE : A ≤ E := by omega
    have y5 : (E : Int) ≤ 1000000 := by omega
    have y6 : (A : Int) ≤ E := by omega
    obtain ⟨R0, hR0⟩ : ∃ R, R = rdG f z v A E [] := ⟨_, rfl⟩
    rw [← hR0]
    have SI := fun w h => qSize_any p q v L w h
    simp only [hz] at SI
    have hcz : c * z ≤ 1000000 := by omega
    have yc : (c : Int) ≤ 65536 := by omega
    have yz : (z : Int) ≤ 4096 := by omega
    have yz1 : (1 : Int) ≤ z := by omega
    have yf : (f : Int) ≤ 65536 := by omega
    have hhp : h ≠ p := fun e => by subst e; exact Blk.ne hR hP.b (by decide) rfl
    have hPw := hP.lt0
    have hpw : p < w.heap.size := hP.b.lt
    have hhw : h < w.heap.size := Rgr.lt hR
    have H0 := Lib.hid (And.intro hR0 (And.intro hle (And.intro hz (And.intro hfc (And.intro hn hcz)))))
    clear hhe g1 g2 g3 g4 hE hR0 hle hz hfc hn hcz ha hn' y5
    have c0 := Blk.cell' hR (i := 0) rfl
    have y5 : (E : Int) ≤ 1000000 := by have := H0.out.2.1; have := H0.out.2.2.2.2.2; omega
    go_enter Tryz.func135, Tryz.ntmps135
    go_upto_region 5 with (first
                  | (go_at_call 168; (with_reducible refine (WO _ hR hP).mono ?_); rintro e w2 ⟨rfl, hm2⟩; have hR2 := hR.ext hm2; have hP2 := hP.ext hm2; have c0 := Blk.cell' hR2 (i := 0) rfl)
                  | (go_at_call 169; (with_reducible refine (SI _ hP2).mono ?_); rintro e w3 ⟨rfl, rfl⟩))
    have hm2' : Mod [p] w w2 := hm2.weak (by simp)
    clear WO SI c0
    go_wp2_with fail
    go_loopw [8, 10, 11, 12, 13, 14] (fun ov sv _ _ _ _ wr => ∃ (s : Nat) (V : Pv) (acc : List UInt8), sv = .int .i64 s ∧ s ≤ c ∧ Pr wr p q V L ∧ Rgr wr h p f c ∧ Ob wr ov acc ∧ New w ov ∧ V.m.sz = z ∧ f + c ≤ V.m.dur.length ∧ V.n ≤ v.n + s * z ∧ acc.length ≤ s * z ∧ rdG f z V (posH z A E s) E acc = R0 ∧ Mod [p] w wr) (fun _ sv _ _ _ _ _ => c - (intOf sv).toNat)
    case atStart => exact ⟨0, v, [], rfl, Nat.zero_le _, hP2, hR2, Ob.nil _, by simp [New, blks], H0.out.2.2.1, H0.out.2.2.2.1, by omega, by simp, by rw [posH_0]; exact H0.out.1.symm, hm2'⟩
    case round =>
      clear hP2 hR2 hm2 hm2'
      obtain ⟨s, V, acc, rfl, hs, hPr, hRr, hob, hnw, hVz, hVd, hVn, hal, hRG, hM⟩ := hrel
      have c0 := Blk.cell' hRr (i := 0) rfl
      have c1 := Blk.cell' hRr (i := 1) rfl
      have c2 := Blk.cell' hRr (i := 2) rfl
      obtain ⟨aoo, capo, rfl, _, _⟩ := hob.sl.form
      by_cases hlt : s < c
      · have y1 : (s : Int) < c := by omega
        have hZc : (s + 1) * z ≤ c * z := Nat.mul_le_mul_right z hlt
        have hZ2 : (s + 1) * z = s * z + z := by rw [Nat.add_mul, Nat.one_mul]
        have hG := posH_go (z := z) (s := s) hAE
        have hK := posH_skip (z := z) (s := s) hAE
        obtain ⟨Z1, hZ1⟩ : ∃ Z1, Z1 = s * z := ⟨_, rfl⟩
        have qz : (s : Int) * (z : Int) = (Z1 : Nat) := by rw [hZ1]; exact (Int.natCast_mul s z).symm
        rw [← hZ1] at hVn hal hZ2 hG hK
        have hZ3 : Z1 + z ≤ 1000000 := by have := H0.out.2.2.2.2.2; omega
        obtain ⟨M, hMd⟩ : ∃ M, M = A - Z1 := ⟨_, rfl⟩
        obtain ⟨T, hTd⟩ : ∃ T, T = min (E - Z1) z := ⟨_, rfl⟩
        rw [← hMd, ← hTd] at hG hK
        obtain ⟨tt, htt⟩ : ∃ t : Int, t = min ((E : Int) - Z1) z := ⟨_, rfl⟩
        have y7 : (Z1 : Int) + z ≤ 1000000 := by omega
        have HMT := Lib.hid (And.intro hMd (And.intro hTd (And.intro htt (And.intro hZ1 (And.intro hG hK)))))
        clear hZ1 hMd hTd htt hG hK
        go_upto_region 9 with fail
        obtain ⟨cc, hcc⟩ : ∃ b, b = decide (T ≤ M) := ⟨_, rfl⟩
        have HCC := Lib.hid hcc
        clear hcc
        go_cut [11, 12, 50] (fun u1 u2 u3 wx => u1 = .int .i64 (M : Nat) ∧ u2 = .int .i64 tt ∧ u3 = .bool cc ∧ wr = wx)
        case first =>
          have hM0 := HMT.out.1
          have hT0 := HMT.out.2.2.1
          have hT1 := HMT.out.2.1
          have G := Lib.hid (And.intro hM0 (And.intro hT1 hT0))
          clear hM0 hT0 hT1 HMT
          by_cases g1 : (A : Int) < Z1
          · by_cases g2 : (z : Int) < (E : Int) - Z1
            · go_wp2_with fail
              go_meet
              obtain ⟨gM, gT1, gT⟩ := G.out
              exact ⟨congrArg (Value.int .i64) (by omega), congrArg (Value.int .i64) (by omega), congrArg Value.bool (by rw [HCC.out]; first | exact decide_eq_decide.2 (by omega) | exact (decide_eq_true (by omega)).symm | exact (decide_eq_false (by omega)).symm), rfl⟩
            · have g3 : (E : Int) - Z1 ≤ z := by omega
              go_wp2_with fail
              go_meet
              obtain ⟨gM, gT1, gT⟩ := G.out
              exact ⟨congrArg (Value.int .i64) (by omega), congrArg (Value.int .i64) (by omega), congrArg Value.bool (by rw [HCC.out]; first | exact decide_eq_decide.2 (by omega) | exact (decide_eq_true (by omega)).symm | exact (decide_eq_false (by omega)).symm), rfl⟩
          · have g4 : (Z1 : Int) ≤ A := by omega
            by_cases g2 : (z : Int) < (E : Int) - Z1
            · go_wp2_with fail
              go_meet
              obtain ⟨gM, gT1, gT⟩ := G.out
              exact ⟨congrArg (Value.int .i64) (by omega), congrArg (Value.int .i64) (by omega), congrArg Value.bool (by rw [HCC.out]; first | exact decide_eq_decide.2 (by omega) | exact (decide_eq_true (by omega)).symm | exact (decide_eq_false (by omega)).symm), rfl⟩
            · have g3 : (E : Int) - Z1 ≤ z := by omega
              go_wp2_with fail
              go_meet
              obtain ⟨gM, gT1, gT⟩ := G.out
              exact ⟨congrArg (Value.int .i64) (by omega), congrArg (Value.int .i64) (by omega), congrArg Value.bool (by rw [HCC.out]; first | exact decide_eq_decide.2 (by omega) | exact (decide_eq_true (by omega)).symm | exact (decide_eq_false (by omega)).symm), rfl⟩
        case rest =>
        obtain ⟨rfl, rfl, rfl, rfl⟩ := hcut
        obtain ⟨hMd, hTd, htt, hZ1, hG, hK⟩ := HMT.out
        by_cases hMT : M < T
        · obtain rfl : tt = (T : Nat) := by omega
          obtain ⟨G0, G1, G2, G3, G4, G5⟩ := hG (by omega)
          obtain rfl : cc = false := by rw [HCC.out]; exact decide_eq_false (by omega)
          have y8 : (M : Int) < T := by omega
          have hTz : T ≤ z := by omega
          have hS : f + s < V.m.dur.length := by omega
          have RD := fun w h => qRead_any p q V L ((f + s : Nat) : Int) w h (by have := H0.out.2.2.2.2.1; have := H0.out.2.2.2.2.2; omega)
          rw [noneE_ok hS] at RD
          have q0 : ((f + s : Nat) : Int) = (f : Int) + (s : Nat) := by omega
          have hlen : (V.m.read (f + s)).length = z := by rw [hPr.ok.m.read hS, hVz]
          cases hg : V.go with
          | false =>
            rw [show V.e 0 = 60 from if_neg (by rw [hg]; decide), show V.rd ((f + s : Nat) : Int) = [] from by unfold Pv.rd; rw [if_neg (by rw [hg]; decide)], q0] at RD
            have hR0 : R0 = (V.md, 60, []) := by rw [← hRG, rdG_no G1 (by omega) hg]
            clear hlen hS q0 hG hK G0 G1 G2 G3 G4 G5 hMd hTd htt hZ1 HMT
            go_wp2_with fail
            refine wp_region_T [⟨0, true, []⟩, ⟨1, true, []⟩, ⟨2, true, []⟩, ⟨3, true, []⟩, ⟨4, true, []⟩, ⟨5, true, []⟩, ⟨6, true, []⟩, ⟨7, true, []⟩, ⟨8, true, []⟩, ⟨9, true, []⟩, ⟨10, true, []⟩, ⟨11, false, []⟩, ⟨12, true, []⟩, ⟨13, true, []⟩, ⟨14, true, []⟩, ⟨15, true, []⟩, ⟨16, true, []⟩] (by kernel_rfl) (by kernel_rfl) ?_
            have hmD := Mod.drew [] wr
            obtain ⟨x, hx⟩ : ∃ x, x = wr.drew := ⟨_, rfl⟩
            rw [← hx] at hmD ⊢
            clear hx
            have hR2 := hRr.ext hmD
            have hP2 := hPr.ext hmD
            have c0 := Blk.cell' hR2 (i := 0) rfl
            have c1 := Blk.cell' hR2 (i := 1) rfl
            iterate 11 (refine wpT_n rfl rfl (fun K hK => ?_); go_wp2_with fail)
            refine wpT_call rfl rfl (fun K hK => ?_)
            go_wp2_with (go_at_call 170; (with_reducible refine (RD _ hP2).mono ?_); rintro e w3 ⟨v3, rfl, ho3, hn3, hP3, hm3⟩)
            obtain ⟨ao3, cap3, rfl, _, _⟩ := Ob.nxR (n := 0) ho3 rfl
            iterate 5 (refine wpT_n rfl rfl (fun K hK => ?_); go_wp2_with fail)
            refine wpT_nil ?_
            go_wp2_with fail
            go_ret2
            rw [hR0]
            exact ⟨.slice none 0 0, rfl, Ob.nil _, by simp [New, blks], hP3, (hM.ext hmD).trans hm3⟩
          | true =>
            rw [show V.e 0 = 0 from if_pos hg, rd_sec hg hS, q0] at RD
            obtain ⟨B, hB⟩ : ∃ B, B = V.m.read (f + s) := ⟨_, rfl⟩
            rw [← hB] at RD hlen
            have hG0 : rdG f z V.md (posH z A E (s + 1)) E (acc ++ (B.drop M).take (T - M)) = R0 := by
              rw [← hRG, rdG_go G1 (by omega) hg, G2, G3, G4, G5, hB]
            have hmdn := md_n2 V
            have hmdz : V.md.m.sz = z := by rw [Pv.md_m]; exact hVz
            have hmdd : f + c ≤ V.md.m.dur.length := by rw [Pv.md_m]; exact hVd
            have hsl : ((B.drop M).take (T - M)).length = T - M := by rw [List.length_take, List.length_drop, hlen]; omega
            have hnx : V.md.n ≤ v.n + (s + 1) * z := by omega
            have hax : acc.length + (T - M) ≤ (s + 1) * z := by omega
            obtain ⟨V2, hV2⟩ : ∃ x, x = V.md := ⟨_, rfl⟩
            rw [← hV2] at RD hG0 hnx hmdz hmdd
            have HB := Lib.hid (And.intro hG0 (And.intro hlen (And.intro hsl (And.intro hnx (And.intro hmdz (And.intro hmdd hax))))))
            have hal2 : acc.length + (T - M) ≤ 1000000 := by omega
            have y9 : (T : Int) ≤ z := by omega
            clear hlen hS q0 hG hK G0 G1 G2 G3 G4 G5 hMd hTd htt hZ1 HMT hB hG0 hmdn hsl hnx hmdz hmdd hax hV2
            go_wp2_with fail
            refine wp_region_T [⟨0, true, []⟩, ⟨1, true, []⟩, ⟨2, true, []⟩, ⟨3, true, []⟩, ⟨4, true, []⟩, ⟨5, true, []⟩, ⟨6, true, []⟩, ⟨7, true, []⟩, ⟨8, true, []⟩, ⟨9, true, []⟩, ⟨10, true, []⟩, ⟨11, false, []⟩, ⟨12, true, []⟩, ⟨13, true, []⟩, ⟨14, true, []⟩, ⟨15, true, []⟩, ⟨16, true, []⟩] (by kernel_rfl) (by kernel_rfl) ?_
            have hmD := Mod.drew [] wr
            obtain ⟨x, hx⟩ : ∃ x, x = wr.drew := ⟨_, rfl⟩
            rw [← hx] at hmD ⊢
            clear hx
            have hR2 := hRr.ext hmD
            have hP2 := hPr.ext hmD
            have c0 := Blk.cell' hR2 (i := 0) rfl
            have c1 := Blk.cell' hR2 (i := 1) rfl
            iterate 11 (refine wpT_n rfl rfl (fun K hK => ?_); go_wp2_with fail)
            refine wpT_call rfl rfl (fun K hK => ?_)
            go_wp2_with (go_at_call 170; (with_reducible refine (RD _ hP2).mono ?_); rintro e w3 ⟨v3, rfl, ho3, hn3, hP3, hm3⟩)
            obtain ⟨ao3, cap3, rfl, hc3, _⟩ := Ob.nxR (n := z) ho3 HB.out.2.1
            have y4 : (z : Int) ≤ cap3 := by omega
            have hob3 : Ob w3 (.slice aoo acc.length capo) acc := Ow.mod (hob.ext hmD) hm3 (fun k hk hh => by have e : k = p := (by simpa using hh); have := hnw k hk; omega)
            have hb3 : Bs w3 (.slice ao3 z cap3) B := Ob.bs ho3
            have hsub := Bs.subR (lo := M) (hi := T) hb3 (by omega) (by rw [HB.out.2.1]; omega) hc3 HB.out.2.1.symm (by omega)
            unfold Bs at hsub
            rw [HB.out.2.2.1] at hsub
            have hR3 := hR2.mod hm3 (by simpa using hhp)
            have hM3 := (hM.ext hmD).trans hm3
            iterate 5 (refine wpT_n rfl rfl (fun K hK => ?_); go_wp2_with fail)
            refine wpT_nil ?_
            go_wp2_with (with_reducible refine st_append ?_)
            refine StopOp.go rfl fun K hK => ?_
            refine wp_append_ow stB (by rfl) (by rfl) hob3 hsub (bv_one _) (by omega) (by omega) ?_
            intro v4 w4 ho4 hm4 hb4
            simp only [put_some, List.set_cons_succ, List.set_cons_zero]
            refine hK _ _ ?_
            clear hK K
            rw [← bv_append] at ho4
            have ho4' : Ob w4 v4 (acc ++ (B.drop M).take (T - M)) := by unfold Ob; rw [List.length_append, HB.out.2.2.1]; exact ho4
            obtain ⟨ao4, cap4, rfl, _, _⟩ := ho4.sl.form
            go_wp2_with fail
            go_roundw
            case rel =>
              obtain ⟨x1, x2, x3, x4, x5, x6, x7⟩ := HB.out
              have hs3 := hM3.size
              have hlo := hP3.lt0
              exact ⟨s + 1, V2, acc ++ (B.drop M).take (T - M), by go_num, by omega, Pr.keep0 hP3 hm4 (fun k hk hh => by have := hnw k hh; have := hPw k hk; omega), hR3.mod hm4 (fun hh => by have := hnw _ hh; omega), ho4', fun k hk => (hb4 k hk).elim (hnw k) (fun h => by omega), x5, x6, x4, by rw [List.length_append, x3]; exact x7, x1, hM3.then hm4 (fun g hg => .inr (hnw g hg))⟩
            case measure => simp [intOf]; omega
        · have hK' := hK (by omega)
          obtain rfl : cc = true := by rw [HCC.out]; exact decide_eq_true (by omega)
          clear hG hK
          go_wp2_with fail
          go_roundw
          case rel => exact ⟨s + 1, V, acc, by go_num, by omega, hPr, hRr, hob, hnw, hVz, hVd, by omega, by omega, by rw [hK']; exact hRG, hM⟩
          case measure => simp [intOf]; omega
      · obtain rfl : c = s := by omega
        go_wp2_with fail
        go_ret2
        rw [posH_end hAE H0.out.2.1, rdG_end] at hRG
        rw [← hRG]
        exact ⟨_, rfl, hob, hnw, hPr, hM⟩
end Go.Proofs.YtfepggdljhiemaaGreatDoor

/-! The document's region: Write. -/
namespace Go.Proofs.YtfepggdljhiemaaGreatDoor
open Go.RowKit Gw

theorem wrC_part {v : Pv} {S M T z : Nat} {x : List UInt8} (h : T - M < z) (hg : v.go = true) : wrC v S M T z x = (v.md.wr S ((v.m.read S).take M ++ x ++ (v.m.read S).drop T), v.md.e 0) := by
  unfold wrC
  rw [if_pos h, if_pos hg, wr_e]
theorem wrC_down {v : Pv} {S M T z : Nat} {x : List UInt8} (h : T - M < z) (hg : v.go = false) : wrC v S M T z x = (v.md, 60) := by
  unfold wrC
  rw [if_pos h, if_neg (by rw [hg]; decide)]
theorem wrC_whole {v : Pv} {S M T z : Nat} {x : List UInt8} (h : ¬ T - M < z) : wrC v S M T z x = (v.wr S x, v.e 0) := by
  unfold wrC
  rw [if_neg h, wr_e]
theorem ovl_all (P B : List UInt8) (A : Nat) : ovl P B A B.length = P.take A ++ B ++ P.drop (A + B.length) := by
  unfold ovl
  rw [List.take_length]
/-- what Write answers -/
def HWrP (w : World) (p q : Nat) (L : List Nat) (R : Pv × Int) (e : Ending) (w' : World) : Prop := e = .returned (.int .i64 R.2) ∧ PrP w p q R.1 L w'
set_option maxRecDepth 1000000 in
set_option maxHeartbeats 16000000 in
theorem hWrite_any (h p q f c z : Nat) (v : Pv) (L : List Nat) (a : Int) (b : List UInt8) (bw : Value) (w : World) (hP : Pr w p q v L) (hR : Rgr w h p f c) (hb : Bs w bw b) (hz : v.m.sz = z) (hfc : f + c ≤ v.m.dur.length) (hn : v.n + 2 * (c * z) ≤ 1000000) (hrow : v.m.row.length + c * z ≤ 1000000) (ha : i64 a) (hrL : h ∉ p :: L) (hbB : b ≠ [] → ∀ x ∈ blks bw, x < w.heap.size ∧ x ∉ p :: L) :
    Calls Tryz.prog 123 #[.pointer (some ⟨h, 0, none⟩), .int .i64 a, bw] w (HWrP w p q L (wrA f c z v a b)) := by
  obtain ⟨aob, capb, rfl, hcb, hcb2⟩ := hb.form
  have hkp : ∀ {w' : World} {G : List Nat}, Mod G w w' → (∀ k ∈ G, k ∈ p :: L ∨ w.heap.size ≤ k) → Bs w' (.slice aob b.length capb) b := fun hm hG => Sl.keep hb fun x hx h0 => by
    have h1 := hbB (fun e => h0 (by rw [e]; rfl)) x hx
    exact hm.block x h1.1 (fun hh => (hG x hh).elim h1.2 (fun h2 => by omega))
  have hs1 := hP.ok.m.s1
  have hs2 := hP.ok.m.s2
  have hn2 := hP.ok.m.n2
  rw [hz] at hs1 hs2
  have WO := fun w hR hP => hwrong_any h p q f c z v L a (b.length : Nat) w hR hP hz (by omega) ha ⟨by omega, by omega⟩
  obtain ⟨hh, hhe⟩ : ∃ x, x = hold (c * z) a b.length := ⟨_, rfl⟩
  rw [← hhe] at WO
  unfold wrA
  rw [← hhe]
  unfold HWrP
  have yb : (b.length : Int) ≤ 9223372036854775807 := by omega
  cases hh with
  | false =>
    rw [if_neg (by decide)]
    simp only [Bool.not_false] at WO
    clear hhe
    go_enter Tryz.func123, Tryz.ntmps123
    go_wp2_with (go_at_call 168; (with_reducible refine (WO _ hR hP).mono ?_); rintro e w2 ⟨rfl, hm2⟩)
    go_ret
    exact ⟨rfl, L, hP.ext hm2, hm2.weak (by simp), fun k hk => .inl hk⟩
  | true =>
    rw [if_pos rfl]
    simp only [Bool.not_true] at WO
    obtain ⟨g1, g2, g3, g4⟩ := of_decide_eq_true hhe.symm
    obtain ⟨A, rfl⟩ := Int.eq_ofNat_of_zero_le g1
    have hle : A + b.length ≤ c * z := by omega
    rw [Int.toNat_natCast]
    obtain ⟨E, hE⟩ : ∃ e, e = A + b.length := ⟨_, rfl⟩
    rw [← hE] at hle ⊢
    have he : (A : Int) + (b.length : Int) = (E : Nat) := by omega
    have hAE : A ≤ E := by omega
    have y6 : (A : Int) ≤ E := by omega
    obtain ⟨R0, hR0⟩ : ∃ R, R = wrG f z v A E b := ⟨_, rfl⟩
    rw [← hR0]
    have SI := fun w h => qSize_any p q v L w h
    simp only [hz] at SI
    have hcz : c * z ≤ 1000000 := by omega
    have yc : (c : Int) ≤ 65536 := by omega
    have yz : (z : Int) ≤ 4096 := by omega
    have yz1 : (1 : Int) ≤ z := by omega
    have yf : (f : Int) ≤ 65536 := by omega
    have hPw := hP.lt0
    have hpw : p < w.heap.size := hP.b.lt
    have hhw : h < w.heap.size := Rgr.lt hR
    have y5 : (E : Int) ≤ 1000000 := by omega
    have hlow : ∀ x, x < w.heap.size → x ∉ p :: L → ∀ L', (∀ k ∈ L', k ∈ L ∨ w.heap.size ≤ k) → x ∉ p :: L' := fun x hx hx2 L' hL' hh => by
      rcases List.mem_cons.1 hh with h | h
      · exact hx2 (by simp [h])
      · rcases hL' x h with h | h
        · exact hx2 (by simp [h])
        · omega
    have hnp : ∀ L', (∀ k ∈ L', k ∈ L ∨ w.heap.size ≤ k) → p :: L' = p :: L' := fun _ _ => rfl
    have H0 := Lib.hid (And.intro hR0 (And.intro hle (And.intro hz (And.intro hfc (And.intro hn (And.intro hcz (And.intro hrow hE)))))))
    clear hhe g1 g3 g4 hE hR0 hle hz hfc hn hcz ha hrow hnp g2
    have c0 := Blk.cell' hR (i := 0) rfl
    go_enter Tryz.func123, Tryz.ntmps123
    go_upto_region 4 with (first
                  | (go_at_call 168; (with_reducible refine (WO _ hR hP).mono ?_); rintro e w2 ⟨rfl, hm2⟩; have hR2 := hR.ext hm2; have hP2 := hP.ext hm2; have c0 := Blk.cell' hR2 (i := 0) rfl)
                  | (go_at_call 169; (with_reducible refine (SI _ hP2).mono ?_); rintro e w3 ⟨rfl, rfl⟩))
    have hm2' : Mod (p :: L) w w2 := hm2.weak (by simp)
    clear WO SI c0
    go_wp2_with fail
    go_loopw [8, 9, 10, 11, 12, 13, 14, 15] (fun sv _ _ _ _ _ _ _ wr => ∃ (s : Nat) (V : Pv) (L' : List Nat), sv = .int .i64 s ∧ s ≤ c ∧ Pr wr p q V L' ∧ Rgr wr h p f c ∧ V.m.sz = z ∧ f + c ≤ V.m.dur.length ∧ V.n ≤ v.n + 2 * (s * z) ∧ V.m.row.length ≤ v.m.row.length + s * z ∧ wrG f z V (posH z A E s) E (b.drop (posH z A E s - A)) = R0 ∧ Mod (p :: L) w wr ∧ (∀ k ∈ L', k ∈ L ∨ w.heap.size ≤ k)) (fun sv _ _ _ _ _ _ _ _ => c - (intOf sv).toNat)
    case atStart => exact ⟨0, v, L, rfl, Nat.zero_le _, hP2, hR2, H0.out.2.2.1, H0.out.2.2.2.1, by omega, by omega, by rw [posH_0, Nat.sub_self, List.drop_zero]; exact H0.out.1.symm, hm2', fun k hk => .inl hk⟩
    case round =>
      clear hP2 hR2 hm2 hm2'
      obtain ⟨s, V, L', rfl, hs, hPr, hRr, hVz, hVd, hVn, hVr, hRG, hM, hL'⟩ := hrel
      have c0 := Blk.cell' hRr (i := 0) rfl
      have c1 := Blk.cell' hRr (i := 1) rfl
      have c2 := Blk.cell' hRr (i := 2) rfl
      by_cases hlt : s < c
      · have y1 : (s : Int) < c := by omega
        have hZc : (s + 1) * z ≤ c * z := Nat.mul_le_mul_right z hlt
        have hZ2 : (s + 1) * z = s * z + z := by rw [Nat.add_mul, Nat.one_mul]
        have hG := posH_go (z := z) (s := s) hAE
        have hK := posH_skip (z := z) (s := s) hAE
        obtain ⟨Z1, hZ1⟩ : ∃ Z1, Z1 = s * z := ⟨_, rfl⟩
        have qz : (s : Int) * (z : Int) = (Z1 : Nat) := by rw [hZ1]; exact (Int.natCast_mul s z).symm
        rw [← hZ1] at hVn hVr hZ2 hG hK
        have hZ3 : Z1 + z ≤ 1000000 := by have := H0.out.2.2.2.2.2.1; omega
        obtain ⟨M, hMd⟩ : ∃ M, M = A - Z1 := ⟨_, rfl⟩
        obtain ⟨T, hTd⟩ : ∃ T, T = min (E - Z1) z := ⟨_, rfl⟩
        rw [← hMd, ← hTd] at hG hK
        obtain ⟨tt, htt⟩ : ∃ t : Int, t = min ((E : Int) - Z1) z := ⟨_, rfl⟩
        have y7 : (Z1 : Int) + z ≤ 1000000 := by omega
        have HMT := Lib.hid (And.intro hMd (And.intro hTd (And.intro htt (And.intro hZ1 (And.intro hG hK)))))
        have HV := Lib.hid (And.intro hVn (And.intro hVr (And.intro hZ2 hZc)))
        clear hZ1 hMd hTd htt hG hK hVn hVr hZ2 hZc
        go_upto_region 8 with fail
        obtain ⟨cc, hcc⟩ : ∃ b, b = decide (T ≤ M) := ⟨_, rfl⟩
        have HCC := Lib.hid hcc
        clear hcc
        go_cut [9, 10, 53] (fun u1 u2 u3 wx => u1 = .int .i64 (M : Nat) ∧ u2 = .int .i64 tt ∧ u3 = .bool cc ∧ wr = wx)
        case first =>
          have hM0 := HMT.out.1
          have hT0 := HMT.out.2.2.1
          have hT1 := HMT.out.2.1
          have G := Lib.hid (And.intro hM0 (And.intro hT1 hT0))
          clear hM0 hT0 hT1 HMT
          by_cases g1 : (A : Int) < Z1
          · by_cases g2 : (z : Int) < (E : Int) - Z1
            · go_wp2_with fail
              go_meet
              obtain ⟨gM, gT1, gT⟩ := G.out
              exact ⟨congrArg (Value.int .i64) (by omega), congrArg (Value.int .i64) (by omega), congrArg Value.bool (by rw [HCC.out]; first | exact decide_eq_decide.2 (by omega) | exact (decide_eq_true (by omega)).symm | exact (decide_eq_false (by omega)).symm), rfl⟩
            · have g3 : (E : Int) - Z1 ≤ z := by omega
              go_wp2_with fail
              go_meet
              obtain ⟨gM, gT1, gT⟩ := G.out
              exact ⟨congrArg (Value.int .i64) (by omega), congrArg (Value.int .i64) (by omega), congrArg Value.bool (by rw [HCC.out]; first | exact decide_eq_decide.2 (by omega) | exact (decide_eq_true (by omega)).symm | exact (decide_eq_false (by omega)).symm), rfl⟩
          · have g4 : (Z1 : Int) ≤ A := by omega
            by_cases g2 : (z : Int) < (E : Int) - Z1
            · go_wp2_with fail
              go_meet
              obtain ⟨gM, gT1, gT⟩ := G.out
              exact ⟨congrArg (Value.int .i64) (by omega), congrArg (Value.int .i64) (by omega), congrArg Value.bool (by rw [HCC.out]; first | exact decide_eq_decide.2 (by omega) | exact (decide_eq_true (by omega)).symm | exact (decide_eq_false (by omega)).symm), rfl⟩
            · have g3 : (E : Int) - Z1 ≤ z := by omega
              go_wp2_with fail
              go_meet
              obtain ⟨gM, gT1, gT⟩ := G.out
              exact ⟨congrArg (Value.int .i64) (by omega), congrArg (Value.int .i64) (by omega), congrArg Value.bool (by rw [HCC.out]; first | exact decide_eq_decide.2 (by omega) | exact (decide_eq_true (by omega)).symm | exact (decide_eq_false (by omega)).symm), rfl⟩
        case rest =>
        obtain ⟨rfl, rfl, rfl, rfl⟩ := hcut
        obtain ⟨hMd, hTd, htt, hZ1, hG, hK⟩ := HMT.out
        clear HMT
        by_cases hMT : M < T
        · obtain rfl : tt = (T : Nat) := by omega
          obtain rfl : cc = false := by rw [HCC.out]; exact decide_eq_false (by omega)
          obtain ⟨G0, G1, G2, G3, G4, G5⟩ := hG (by omega)
          clear HCC hK hG
          have y8 : (M : Int) < T := by omega
          have hTz : T ≤ z := by omega
          have y9 : (T : Int) ≤ z := by omega
          have hS : f + s < V.m.dur.length := by omega
          have q0 : ((f + s : Nat) : Int) = (f : Int) + (s : Nat) := by omega
          have hlen : (V.m.read (f + s)).length = z := by rw [hPr.ok.m.read hS, hVz]
          have hZA : A ≤ Z1 + M := by omega
          have hTE : Z1 + T ≤ E := by omega
          have hAb : E = A + b.length := H0.out.2.2.2.2.2.2.2
          have hZs : posH z A E s = Z1 + M := G0
          rw [hZs] at hRG G1 G2 G3 G4 G5
          obtain ⟨x, hx⟩ : ∃ x, x = (b.drop (Z1 + M - A)).take (T - M) := ⟨_, rfl⟩
          have hxl : x.length = T - M := by rw [hx, List.length_take, List.length_drop]; omega
          have hxg : ∀ k (h1 : k < x.length) (h2 : Z1 + M - A + k < b.length), x[k] = b[Z1 + M - A + k] := fun k h1 h2 => by subst hx; simp
          have eW : ∀ R, R = wrC V (f + s) M T z x → (R.2 ≠ 0 → R0 = R) ∧ (R.2 = 0 → wrG f z R.1 (posH z A E (s + 1)) E (b.drop (posH z A E (s + 1) - A)) = R0) := fun R hR => by
            have e1 : wrC V (f + (Z1 + M) / z) ((Z1 + M) % z) (toC z (Z1 + M) E) z ((b.drop (Z1 + M - A)).take (toC z (Z1 + M) E - (Z1 + M) % z)) = R := by rw [G2, G3, G4, ← hx, hR]
            constructor
            · intro h0
              rw [← hRG, wrG_no G1 (by omega) (by rw [e1]; exact h0), e1]
            · intro h0
              rw [← hRG, wrG_ok G1 (by omega) (by rw [e1]; exact h0), e1, G5, List.drop_drop, G4, G3]
              have e2 : posH z A E (s + 1) = Z1 + T := by rw [← G5]; unfold nxt; rw [G4, G3]; omega
              rw [e2, show Z1 + T - A = Z1 + M - A + (T - M) by omega]
          have HE := Lib.hid eW
          have HX := Lib.hid (And.intro hxl hxg)
          have hhL : h ∉ p :: L' := hlow h hhw hrL L' hL'
          have hbr : Bs wr (.slice aob b.length capb) b := hkp hM (fun k hk => .inl hk)
          have hmn := md_n2 V
          have hmm := V.md_m
          have hnn : V.n + 2 ≤ 1000000 := by have := H0.out; have := HV.out; omega
          have hrr : V.m.row.length ≤ 1000000 := by have := H0.out; have := HV.out; omega
          clear hRG G0 G1 G2 G3 G4 G5 hZs hx eW hxg hMd hTd htt hZ1
          by_cases hpart : T - M < z
          · have y10 : (T : Int) - M < z := by omega
            cases hg : V.go with
            | false =>
              have hR0 := (HE.out _ rfl).1 (by rw [wrC_down hpart hg]; exact (by decide : (60 : Int) ≠ 0))
              rw [wrC_down hpart hg] at hR0
              have RD := fun w h => qRead_any p q V L' ((f + s : Nat) : Int) w h (by omega)
              rw [noneE_ok hS, show V.e 0 = 60 from if_neg (by rw [hg]; decide), show V.rd ((f + s : Nat) : Int) = [] from by unfold Pv.rd; rw [if_neg (by rw [hg]; decide)], q0] at RD
              clear hlen hS q0 HE HX hmm hmn hxl
              go_wp2_with (with_reducible refine st_make ?_)
              refine StopOp.go rfl fun K hK => ?_
              refine wp_make (nl := z) (nc := z) stB (by rfl) (by rfl) rfl rfl (Nat.le_refl _) (by omega) (by omega) ?_
              intro g w3 hg1 hg2 hm3 hB3
              simp only [put_some, List.set_cons_succ, List.set_cons_zero]
              refine hK _ _ ?_
              clear hK K
              go_wp2_with fail
              refine wp_region_T [⟨0, true, []⟩, ⟨1, true, []⟩, ⟨2, true, []⟩, ⟨3, true, []⟩, ⟨4, true, []⟩, ⟨5, true, []⟩, ⟨6, true, []⟩, ⟨7, true, []⟩, ⟨8, true, []⟩, ⟨9, true, []⟩, ⟨10, true, []⟩, ⟨11, false, []⟩, ⟨12, true, []⟩, ⟨13, true, []⟩, ⟨14, true, []⟩, ⟨15, true, []⟩, ⟨16, true, []⟩] (by kernel_rfl) (by kernel_rfl) ?_
              have hmD := hm3.ext (Mod.drew [] w3)
              obtain ⟨xd, hxd⟩ : ∃ xd, xd = w3.drew := ⟨_, rfl⟩
              rw [← hxd] at hmD ⊢
              clear hxd
              have hR2 := hRr.ext hmD
              have hP2 := hPr.ext hmD
              have c0 := Blk.cell' hR2 (i := 0) rfl
              have c1 := Blk.cell' hR2 (i := 1) rfl
              iterate 11 (refine wpT_n rfl rfl (fun K hK => ?_); go_wp2_with fail)
              refine wpT_call rfl rfl (fun K hK => ?_)
              go_wp2_with (go_at_call 170; (with_reducible refine (RD _ hP2).mono ?_); rintro e w4 ⟨v4, rfl, ho4, hn4, hP4, hm4⟩)
              obtain ⟨ao4, cap4, rfl, _, _⟩ := Ob.nxR (n := 0) ho4 rfl
              iterate 5 (refine wpT_n rfl rfl (fun K hK => ?_); go_wp2_with fail)
              refine wpT_nil ?_
              go_wp2_with fail
              go_ret
              rw [hR0]
              exact ⟨rfl, L', hP4, ((hM.ext hmD).then hm4 (fun g hg => .inl (by have e : g = p := (by simpa using hg); simp [e]))), hL'⟩
            | true =>
              have hC := wrC_part (S := f + s) (M := M) (T := T) (z := z) (x := x) hpart hg
              obtain ⟨F0, hF0⟩ : ∃ B, B = V.m.read (f + s) := ⟨_, rfl⟩
              have RD := fun w h => qRead_any p q V L' ((f + s : Nat) : Int) w h (by omega)
              rw [noneE_ok hS, show V.e 0 = 0 from if_pos hg, rd_sec hg hS, q0, ← hF0] at RD
              rw [← hF0] at hC hlen
              have hov : ovl F0 x M (T - M) = F0.take M ++ x ++ F0.drop T := by
                have e := ovl_all F0 x M
                rw [hxl, show M + (T - M) = T by omega] at e
                exact e
              rw [← hov] at hC
              have hSv : f + s < V.md.m.dur.length := by rw [hmm]; exact hS
              have hzv : V.md.m.sz = z := by rw [hmm]; exact hVz
              have hfv : f + c ≤ V.md.m.dur.length := by rw [hmm]; exact hVd
              have hrv : V.md.m.row.length = V.m.row.length := by rw [hmm]
              obtain ⟨U, hU⟩ : ∃ u, u = V.md := ⟨_, rfl⟩
              rw [← hU] at hC RD hSv hzv hfv hrv hmn
              have hun : U.n + 1 ≤ 1000000 := by omega
              have hur : U.m.row.length ≤ 1000000 := by omega
              have hvn : U.n ≤ V.n + 1 := hmn
              have HU := Lib.hid (And.intro hC (And.intro hSv (And.intro hzv (And.intro hfv (And.intro hrv (And.intro hvn hlen))))))
              clear hC hS hSv hzv hfv hrv hmn hmm hU hF0 hov hlen hg hxl
              go_wp2_with (with_reducible refine st_make ?_)
              refine StopOp.go rfl fun K hK => ?_
              refine wp_make (nl := z) (nc := z) stB (by rfl) (by rfl) rfl rfl (Nat.le_refl _) (by omega) (by omega) ?_
              intro g0 w3 hg1 hg2 hm3 hB3
              simp only [put_some, List.set_cons_succ, List.set_cons_zero]
              refine hK _ _ ?_
              clear hK K
              go_wp2_with fail
              refine wp_region_T [⟨0, true, []⟩, ⟨1, true, []⟩, ⟨2, true, []⟩, ⟨3, true, []⟩, ⟨4, true, []⟩, ⟨5, true, []⟩, ⟨6, true, []⟩, ⟨7, true, []⟩, ⟨8, true, []⟩, ⟨9, true, []⟩, ⟨10, true, []⟩, ⟨11, false, []⟩, ⟨12, true, []⟩, ⟨13, true, []⟩, ⟨14, true, []⟩, ⟨15, true, []⟩, ⟨16, true, []⟩] (by kernel_rfl) (by kernel_rfl) ?_
              have hmD := hm3.ext (Mod.drew [] w3)
              obtain ⟨xd, hxd⟩ : ∃ xd, xd = w3.drew := ⟨_, rfl⟩
              rw [← hxd] at hmD ⊢
              clear hxd
              have hR2 := hRr.ext hmD
              have hP2 := hPr.ext hmD
              have c0 := Blk.cell' hR2 (i := 0) rfl
              have c1 := Blk.cell' hR2 (i := 1) rfl
              iterate 11 (refine wpT_n rfl rfl (fun K hK => ?_); go_wp2_with fail)
              refine wpT_call rfl rfl (fun K hK => ?_)
              go_wp2_with (go_at_call 170; (with_reducible refine (RD _ hP2).mono ?_); rintro e w4 ⟨v4, rfl, ho4, hn4, hP4, hm4⟩)
              obtain ⟨ao4, cap4, rfl, _, _⟩ := Ob.nxR (n := z) ho4 HU.out.2.2.2.2.2.2
              iterate 5 (refine wpT_n rfl rfl (fun K hK => ?_); go_wp2_with fail)
              refine wpT_nil ?_
              go_wp2_with (with_reducible refine st_bslice ?_)
              refine StopOp.go rfl fun K hK => ?_
              refine wp_bslice stB [] rfl (by decide) (by rfl) (by simp) ?_
              intro ge w5 he1 he2 hm5 hB5
              simp only [put_some, List.set_cons_succ, List.set_cons_zero]
              refine hK _ _ ?_
              clear hK K
              have ho5 : Ow w5 5 1 (.slice (some ⟨ge, 0, none⟩) 0 0) 0 [] := Ow.of_blk (rest := []) hB5 (Nat.le_refl _) (by omega) rfl rfl
              have hb4 : Bs w5 (.slice ao4 z cap4) F0 := Ob.bs (ho4.ext hm5)
              unfold Bs at hb4
              rw [HU.out.2.2.2.2.2.2] at hb4
              go_wp2_with (with_reducible refine st_append ?_)
              refine StopOp.go rfl fun K hK => ?_
              refine wp_append_ow stB (by rfl) (by rfl) ho5 hb4 (bv_one _) (by omega) (by omega) ?_
              intro v6 w6 ho6 hm6 hb6
              simp only [put_some, List.set_cons_succ, List.set_cons_zero]
              refine hK _ _ ?_
              clear hK K
              rw [List.nil_append, Nat.zero_add] at ho6
              have hnew : ∀ k ∈ blks v6, w4.heap.size ≤ k := fun k hk => (hb6 k hk).elim (fun h => by have e : k = ge := (by simpa [blks] using h); omega) (fun h => by have := hm5.size; omega)
              have hm46 : Mod [] w4 w6 := hm5.fresh hm6 (by simpa [blks] using he1)
              rcases ho6.blk with ⟨_, h0, _⟩ | ⟨gf, capF, rest, rfl, hBF, hzc, hcm, hl1, hl2⟩
              · exfalso; omega
              have hgf : w4.heap.size ≤ gf := hnew gf (by simp [blks])
              have hMx : Mod (p :: L) w w6 := ((hM.ext hmD).then hm4 (fun g hg => .inl (by have e : g = p := (by simpa using hg); simp [e]))).ext hm46
              have hPx := hP4.ext hm46
              have hRx := (hR2.mod hm4 (by simpa using fun e => hhL (by simp [e]))).ext hm46
              have hgl : gf ∉ p :: L' := fun hh => by have := hP4.lt0 gf hh; omega
              have hbx : Bs w6 (.slice aob b.length capb) b := hkp hMx (fun k hk => .inl hk)
              have hgw : gf ≠ h := fun e => by have := hM.size; have := hmD.size; have := hm4.size; omega
              have y12 : (z : Int) ≤ capF := by omega
              have hgfw : w.heap.size ≤ gf := by have := hM.size; have := hmD.size; have := hm4.size; omega
              clear hRr hPr hm3 hB3 hmD hR2 hP2 ho4 hn4 hP4 hm4 hm5 hB5 ho5 hb4 ho6 hm6 hb6 hnew hm46 RD c0 c1 c2
              have hzl := HU.out.2.2.2.2.2.2
              have hxl := HX.out.1
              go_wp2_with fail
              go_loopw [14] (fun iv wr => ∃ i : Nat, iv = .int .i64 i ∧ M ≤ i ∧ i ≤ T ∧ Blk wr gf 5 (bv (ovl F0 x M (i - M)) ++ rest) ∧ Mod [gf] w6 wr) (fun iv _ => T - (intOf iv).toNat)
              case atStart => exact ⟨M, rfl, Nat.le_refl _, by omega, by rw [Nat.sub_self, ovl_0]; exact hBF, Mod.refl _ _⟩
              case round =>
                clear hBF
                obtain ⟨i, rfl, hi1, hi2, hBi, hMi⟩ := hrel
                have hbi : Bs wr (.slice aob b.length capb) b := hkp (hMx.then hMi (fun g hg => .inr (by have e : g = gf := (by simpa using hg); have := hM.size; omega))) (fun k hk => .inl hk)
                by_cases hit : i < T
                · have yi : (i : Int) < T := by omega
                  obtain ⟨j, hj⟩ : ∃ j, j = Z1 + i - A := ⟨_, rfl⟩
                  have hjb : j < b.length := by omega
                  have qj : (Z1 : Int) + (i : Int) - (A : Int) = (j : Nat) := by omega
                  have yj : (j : Int) < b.length := by omega
                  have HJ := Lib.hid hj
                  clear hj
                  obtain ⟨bb, ob, rfl, ca⟩ := sl_at' (hbi : Sl wr 1 (.slice aob b.length capb) b.length (bv b)) (by rw [bv_length]; exact hjb)
                  rw [bvx_get _ _ _ (List.getElem?_eq_getElem hjb)] at ca
                  have hol := ovl_len (P := F0) (B := x) (A := M) (k := i - M) (by omega) (by omega)
                  go_wp2_with (with_reducible refine st_store ?_)
                  refine StopOp.go rfl fun K hK => ?_
                  refine wp_store1 (by kernel_rfl) (by rfl) (u := .int .u8 b[j].toNat) (by rfl) ⟨rfl, rfl⟩ hBi (by rw [List.length_append, bv_length, hol]; omega) ?_
                  intro w10 hm10 hB10
                  refine hK _ _ ?_
                  clear hK K
                  rw [bv_set _ _ _ _ (by rw [hol]; omega)] at hB10
                  have hst := ovl_step (P := F0) (B := x) (A := M) (k := i - M) (by omega) (by omega)
                  rw [HX.out.2 _ _ (by have := HJ.out; omega)] at hst
                  have e1 : M + (i - M) = i := by omega
                  have e2 : i + 1 - M = i - M + 1 := by omega
                  have e3 : Z1 + M - A + (i - M) = j := by have := HJ.out; omega
                  rw [e1] at hst
                  simp only [e3] at hst
                  go_wp2_with fail
                  go_roundw
                  case rel => exact ⟨i + 1, by go_num, by omega, by omega, by rw [e2, ← hst]; exact hB10, hMi.trans hm10⟩
                  case measure => simp [intOf]; omega
                · obtain rfl : T = i := by omega
                  have hol := ovl_len (P := F0) (B := x) (A := M) (k := T - M) (by omega) (by omega)
                  obtain ⟨X, hX⟩ : ∃ X, X = ovl F0 x M (T - M) := ⟨_, rfl⟩
                  rw [← hX] at hol hBi
                  have hFu : Ow wr 5 1 (.slice (some ⟨gf, 0, none⟩) z capF) z (bv X) := Ow.of_blk (rest := rest) hBi hzc hcm (by rw [List.length_append] at hl1 ⊢; rw [bv_length] at hl1 ⊢; omega) (by rw [bv_length]; omega)
                  have hFb : Bs wr (.slice (some ⟨gf, 0, none⟩) z capF) X := by
                    have h1 := hFu.sl
                    unfold Bs
                    rw [show X.length = z from by rw [hol, hzl]]
                    exact h1
                  have hPi := hPx.keep0 hMi (fun k hk hh => hgl (by have e : k = gf := (by simpa using hh); exact e ▸ hk))
                  have hRi := hRx.mod hMi (by simpa using fun e : h = gf => hgw e.symm)
                  obtain ⟨hC, hSU, hzU, hfU, hrU, hnU, _⟩ := HU.out
                  rw [← hX] at hC
                  have WR := fun w bw h hb hbp => qWrite_any p q U L' ((f + s : Nat) : Int) X bw w h hb hbp (by omega) (by omega)
                  rw [writeE_ok hSU (by rw [hol, hzl, hzU]), q0] at WR
                  obtain ⟨gs1, gs2, gs3, gs4⟩ := wr_sz U ((f + s : Nat) : Int) X
                  rw [q0] at gs1 gs2 gs3 gs4 hC
                  have hEW := HE.out _ hC.symm
                  obtain ⟨V2, hV2⟩ : ∃ x, x = U.wr ((f : Int) + (s : Nat)) X := ⟨_, rfl⟩
                  rw [← hV2] at WR gs1 gs2 gs3 gs4 hEW
                  have hMw : Mod (p :: L) w wr := hMx.then hMi (fun g hg => .inr (by have e : g = gf := (by simpa using hg); have := hM.size; omega))
                  cases hgo : U.go with
                  | false =>
                    have e0 : U.e 0 = 60 := if_neg (by rw [hgo]; decide)
                    rw [e0] at WR hEW
                    have hR0 := hEW.1 (by exact (by decide : (60 : Int) ≠ 0))
                    clear hBi hFu hC hEW hX hV2 hol
                    go_wp2_with fail
                    refine wp_region_T [⟨0, true, []⟩, ⟨1, true, []⟩, ⟨2, true, []⟩, ⟨3, true, []⟩, ⟨4, true, []⟩, ⟨5, true, []⟩, ⟨6, true, []⟩, ⟨7, true, []⟩, ⟨8, true, []⟩, ⟨9, true, []⟩, ⟨10, true, []⟩, ⟨11, true, []⟩, ⟨12, false, []⟩, ⟨13, true, []⟩] (by kernel_rfl) (by kernel_rfl) ?_
                    have hmD := Mod.drew [] wr
                    obtain ⟨xd, hxd⟩ : ∃ xd, xd = wr.drew := ⟨_, rfl⟩
                    rw [← hxd] at hmD ⊢
                    clear hxd
                    have hPD := hPi.ext hmD
                    have hRD := hRi.ext hmD
                    have hFD : Bs xd (.slice (some ⟨gf, 0, none⟩) z capF) X := hFb.ext hmD
                    have hMD := hMw.ext hmD
                    have hpd : ∀ b ∈ blks (.slice (some ⟨gf, 0, none⟩) z capF), b ≠ p := fun b hb e => hgl (by have e1 : b = gf := (by simpa [blks] using hb); rw [← e1, e]; simp)
                    have c0 := Blk.cell' hRD (i := 0) rfl
                    have c1 := Blk.cell' hRD (i := 1) rfl
                    iterate 12 (refine wpT_n rfl rfl (fun K hK => ?_); go_wp2_with fail)
                    refine wpT_call rfl rfl (fun K hK => ?_)
                    go_wp2_with (go_at_call 171; (with_reducible refine (WR _ _ hPD hFD hpd).mono ?_); rintro e w20 ⟨rfl, L20, hP20, hm20, hL20⟩)
                    refine wpT_n rfl rfl (fun K hK => ?_)
                    go_wp2_with fail
                    refine wpT_nil ?_
                    go_wp2_with fail
                    go_ret
                    rw [hR0]
                    exact ⟨rfl, L20, hP20, hMD.then hm20 (fun g hg => (List.mem_cons.1 hg).elim (fun e => .inl (by simp [e])) (fun h => (hL' g h).imp (fun h => List.mem_cons_of_mem _ h) id)), fun k hk => (hL20 k hk).elim (hL' k) (fun h => .inr (by have := hMD.size; omega))⟩
                  | true =>
                    have e0 : U.e 0 = 0 := if_pos hgo
                    rw [e0] at WR hEW
                    have hR0 := hEW.2 rfl
                    clear hBi hFu hC hEW hX hV2 hol
                    go_wp2_with fail
                    refine wp_region_T [⟨0, true, []⟩, ⟨1, true, []⟩, ⟨2, true, []⟩, ⟨3, true, []⟩, ⟨4, true, []⟩, ⟨5, true, []⟩, ⟨6, true, []⟩, ⟨7, true, []⟩, ⟨8, true, []⟩, ⟨9, true, []⟩, ⟨10, true, []⟩, ⟨11, true, []⟩, ⟨12, false, []⟩, ⟨13, true, []⟩] (by kernel_rfl) (by kernel_rfl) ?_
                    have hmD := Mod.drew [] wr
                    obtain ⟨xd, hxd⟩ : ∃ xd, xd = wr.drew := ⟨_, rfl⟩
                    rw [← hxd] at hmD ⊢
                    clear hxd
                    have hPD := hPi.ext hmD
                    have hRD := hRi.ext hmD
                    have hFD : Bs xd (.slice (some ⟨gf, 0, none⟩) z capF) X := hFb.ext hmD
                    have hMD := hMw.ext hmD
                    have hpd : ∀ b ∈ blks (.slice (some ⟨gf, 0, none⟩) z capF), b ≠ p := fun b hb e => hgl (by have e1 : b = gf := (by simpa [blks] using hb); rw [← e1, e]; simp)
                    have c0 := Blk.cell' hRD (i := 0) rfl
                    have c1 := Blk.cell' hRD (i := 1) rfl
                    iterate 12 (refine wpT_n rfl rfl (fun K hK => ?_); go_wp2_with fail)
                    refine wpT_call rfl rfl (fun K hK => ?_)
                    go_wp2_with (go_at_call 171; (with_reducible refine (WR _ _ hPD hFD hpd).mono ?_); rintro e w20 ⟨rfl, L20, hP20, hm20, hL20⟩)
                    refine wpT_n rfl rfl (fun K hK => ?_)
                    go_wp2_with fail
                    refine wpT_nil ?_
                    go_wp2_with fail
                    go_roundw
                    case rel =>
                      obtain ⟨x1, x2, x3, x4⟩ := HV.out
                      exact ⟨s + 1, V2, L20, by go_num, by omega, hP20, hRD.mod hm20 hhL, by rw [gs1]; exact hzU, by rw [gs2]; exact hfU, by omega, by omega, hR0, hMD.then hm20 (fun g hg => (List.mem_cons.1 hg).elim (fun e => .inl (by simp [e])) (fun h => (hL' g h).imp (fun h => List.mem_cons_of_mem _ h) id)), fun k hk => (hL20 k hk).elim (hL' k) (fun h => .inr (by have := hMD.size; omega))⟩
                    case measure => simp [intOf]; omega
          · have hM0 : M = 0 := by omega
            have hT0 : T = z := by omega
            subst hM0 hT0
            have hov : ovl (zeros T) x 0 (T - 0) = x := by
              have e := ovl_all (zeros T) x 0
              rw [hxl, List.take_zero, List.nil_append, List.drop_of_length_le (by simp [zeros]), List.append_nil] at e
              exact e
            have hC : wrC V (f + s) 0 T T x = (V.wr ((f + s : Nat) : Int) (ovl (zeros T) x 0 (T - 0)), V.e 0) := by rw [hov]; exact wrC_whole hpart
            have y10 : ¬ ((T : Int) - 0 < T) := by omega
            have hun : V.n + 1 ≤ 1000000 := by omega
            have hvn : V.n ≤ V.n + 1 := by omega
            have hrv : V.m.row.length = V.m.row.length := rfl
            obtain ⟨F0, hF0⟩ : ∃ x, x = zeros T := ⟨_, rfl⟩
            rw [← hF0] at hC
            have hzl : F0.length = T := by rw [hF0]; simp [zeros]
            have HU := Lib.hid (And.intro hC (And.intro hS (And.intro hVz (And.intro hVd (And.intro hrv (And.intro hvn hzl))))))
            clear hC hS hmn hmm hov hlen hxl hzl hvn hrv
            go_wp2_with (with_reducible refine st_make ?_)
            refine StopOp.go rfl fun K hK => ?_
            refine wp_make (nl := T) (nc := T) stB (by rfl) (by rfl) rfl rfl (Nat.le_refl _) (by omega) (by omega) ?_
            intro gf w6 hg1 hg2 hm6 hB6
            simp only [put_some, List.set_cons_succ, List.set_cons_zero]
            refine hK _ _ ?_
            clear hK K
            rw [show (List.replicate T (Value.int .u8 0).cells.toList).flatten = bv (zeros T) from (bv_zeros T).symm, ← hF0] at hB6
            clear hF0
            have hBF : Blk w6 gf 5 (bv F0 ++ []) := by rw [List.append_nil]; exact hB6
            obtain ⟨rest, hrest⟩ : ∃ r : List Value, r = [] := ⟨_, rfl⟩
            rw [← hrest] at hBF
            have hl1 : (bv F0 ++ rest).length = T * 1 := by rw [hrest, List.append_nil, bv_length, HU.out.2.2.2.2.2.2]; omega
            have hl2 : (bv F0).length = T * 1 := by rw [bv_length, HU.out.2.2.2.2.2.2]; omega
            have hzc : T ≤ T := Nat.le_refl _
            have hcm : T ≤ 9223372036854775807 := by omega
            have hMx : Mod (p :: L) w w6 := hM.ext hm6
            have hPx := hPr.ext hm6
            have hRx := hRr.ext hm6
            have hgl : gf ∉ p :: L' := fun hh => by have := hPr.lt0 gf hh; omega
            have hbx : Bs w6 (.slice aob b.length capb) b := hkp hMx (fun k hk => .inl hk)
            have hgw : gf ≠ h := fun e => by have := hM.size; omega
            have hgfw : w.heap.size ≤ gf := by have := hM.size; omega
            clear hRr hPr hm6 hB6 c0 c1 c2 hrest
            have hzl := HU.out.2.2.2.2.2.2
            have hxl := HX.out.1
            go_wp2_with fail
            go_loopw [14] (fun iv wr => ∃ i : Nat, iv = .int .i64 i ∧ 0 ≤ i ∧ i ≤ T ∧ Blk wr gf 5 (bv (ovl F0 x 0 (i - 0)) ++ rest) ∧ Mod [gf] w6 wr) (fun iv _ => T - (intOf iv).toNat)
            case atStart => exact ⟨0, rfl, Nat.le_refl _, by omega, by rw [Nat.sub_self, ovl_0]; exact hBF, Mod.refl _ _⟩
            case round =>
              clear hBF
              obtain ⟨i, rfl, hi1, hi2, hBi, hMi⟩ := hrel
              have hbi : Bs wr (.slice aob b.length capb) b := hkp (hMx.then hMi (fun g hg => .inr (by have e : g = gf := (by simpa using hg); have := hM.size; omega))) (fun k hk => .inl hk)
              by_cases hit : i < T
              · have yi : (i : Int) < T := by omega
                obtain ⟨j, hj⟩ : ∃ j, j = Z1 + i - A := ⟨_, rfl⟩
                have hjb : j < b.length := by omega
                have qj : (Z1 : Int) + (i : Int) - (A : Int) = (j : Nat) := by omega
                have yj : (j : Int) < b.length := by omega
                have HJ := Lib.hid hj
                clear hj
                obtain ⟨bb, ob, rfl, ca⟩ := sl_at' (hbi : Sl wr 1 (.slice aob b.length capb) b.length (bv b)) (by rw [bv_length]; exact hjb)
                rw [bvx_get _ _ _ (List.getElem?_eq_getElem hjb)] at ca
                have hol := ovl_len (P := F0) (B := x) (A := 0) (k := i - 0) (by omega) (by omega)
                go_wp2_with (with_reducible refine st_store ?_)
                refine StopOp.go rfl fun K hK => ?_
                refine wp_store1 (by kernel_rfl) (by rfl) (u := .int .u8 b[j].toNat) (by rfl) ⟨rfl, rfl⟩ hBi (by rw [List.length_append, bv_length, hol]; omega) ?_
                intro w10 hm10 hB10
                refine hK _ _ ?_
                clear hK K
                rw [bv_set _ _ _ _ (by rw [hol]; omega)] at hB10
                have hst := ovl_step (P := F0) (B := x) (A := 0) (k := i - 0) (by omega) (by omega)
                rw [HX.out.2 _ _ (by have := HJ.out; omega)] at hst
                have e1 : 0 + (i - 0) = i := by omega
                have e2 : i + 1 - 0 = i - 0 + 1 := by omega
                have e3 : Z1 + 0 - A + (i - 0) = j := by have := HJ.out; omega
                rw [e1] at hst
                simp only [e3] at hst
                go_wp2_with fail
                go_roundw
                case rel => exact ⟨i + 1, by go_num, by omega, by omega, by rw [e2, ← hst]; exact hB10, hMi.trans hm10⟩
                case measure => simp [intOf]; omega
              · obtain rfl : T = i := by omega
                have hol := ovl_len (P := F0) (B := x) (A := 0) (k := T - 0) (by omega) (by omega)
                obtain ⟨X, hX⟩ : ∃ X, X = ovl F0 x 0 (T - 0) := ⟨_, rfl⟩
                rw [← hX] at hol hBi
                have hFu : Ow wr 5 1 (.slice (some ⟨gf, 0, none⟩) T T) T (bv X) := Ow.of_blk (rest := rest) hBi hzc hcm (by rw [List.length_append] at hl1 ⊢; rw [bv_length] at hl1 ⊢; omega) (by rw [bv_length]; omega)
                have hFb : Bs wr (.slice (some ⟨gf, 0, none⟩) T T) X := by
                  have h1 := hFu.sl
                  unfold Bs
                  rw [show X.length = T from by rw [hol, hzl]]
                  exact h1
                have hPi := hPx.keep0 hMi (fun k hk hh => hgl (by have e : k = gf := (by simpa using hh); exact e ▸ hk))
                have hRi := hRx.mod hMi (by simpa using fun e : h = gf => hgw e.symm)
                obtain ⟨hC, hSU, hzU, hfU, hrU, hnU, _⟩ := HU.out
                rw [← hX] at hC
                have WR := fun w bw h hb hbp => qWrite_any p q V L' ((f + s : Nat) : Int) X bw w h hb hbp (by omega) (by omega)
                rw [writeE_ok hSU (by rw [hol, hzl, hzU]), q0] at WR
                obtain ⟨gs1, gs2, gs3, gs4⟩ := wr_sz V ((f + s : Nat) : Int) X
                rw [q0] at gs1 gs2 gs3 gs4 hC
                have hEW := HE.out _ hC.symm
                obtain ⟨V2, hV2⟩ : ∃ x, x = V.wr ((f : Int) + (s : Nat)) X := ⟨_, rfl⟩
                rw [← hV2] at WR gs1 gs2 gs3 gs4 hEW
                have hMw : Mod (p :: L) w wr := hMx.then hMi (fun g hg => .inr (by have e : g = gf := (by simpa using hg); have := hM.size; omega))
                cases hgo : V.go with
                | false =>
                  have e0 : V.e 0 = 60 := if_neg (by rw [hgo]; decide)
                  rw [e0] at WR hEW
                  have hR0 := hEW.1 (by exact (by decide : (60 : Int) ≠ 0))
                  clear hBi hFu hC hEW hX hV2 hol
                  go_wp2_with fail
                  refine wp_region_T [⟨0, true, []⟩, ⟨1, true, []⟩, ⟨2, true, []⟩, ⟨3, true, []⟩, ⟨4, true, []⟩, ⟨5, true, []⟩, ⟨6, true, []⟩, ⟨7, true, []⟩, ⟨8, true, []⟩, ⟨9, true, []⟩, ⟨10, true, []⟩, ⟨11, true, []⟩, ⟨12, false, []⟩, ⟨13, true, []⟩] (by kernel_rfl) (by kernel_rfl) ?_
                  have hmD := Mod.drew [] wr
                  obtain ⟨xd, hxd⟩ : ∃ xd, xd = wr.drew := ⟨_, rfl⟩
                  rw [← hxd] at hmD ⊢
                  clear hxd
                  have hPD := hPi.ext hmD
                  have hRD := hRi.ext hmD
                  have hFD : Bs xd (.slice (some ⟨gf, 0, none⟩) T T) X := hFb.ext hmD
                  have hMD := hMw.ext hmD
                  have hpd : ∀ b ∈ blks (.slice (some ⟨gf, 0, none⟩) T T), b ≠ p := fun b hb e => hgl (by have e1 : b = gf := (by simpa [blks] using hb); rw [← e1, e]; simp)
                  have c0 := Blk.cell' hRD (i := 0) rfl
                  have c1 := Blk.cell' hRD (i := 1) rfl
                  iterate 12 (refine wpT_n rfl rfl (fun K hK => ?_); go_wp2_with fail)
                  refine wpT_call rfl rfl (fun K hK => ?_)
                  go_wp2_with (go_at_call 171; (with_reducible refine (WR _ _ hPD hFD hpd).mono ?_); rintro e w20 ⟨rfl, L20, hP20, hm20, hL20⟩)
                  refine wpT_n rfl rfl (fun K hK => ?_)
                  go_wp2_with fail
                  refine wpT_nil ?_
                  go_wp2_with fail
                  go_ret
                  rw [hR0]
                  exact ⟨rfl, L20, hP20, hMD.then hm20 (fun g hg => (List.mem_cons.1 hg).elim (fun e => .inl (by simp [e])) (fun h => (hL' g h).imp (fun h => List.mem_cons_of_mem _ h) id)), fun k hk => (hL20 k hk).elim (hL' k) (fun h => .inr (by have := hMD.size; omega))⟩
                | true =>
                  have e0 : V.e 0 = 0 := if_pos hgo
                  rw [e0] at WR hEW
                  have hR0 := hEW.2 rfl
                  clear hBi hFu hC hEW hX hV2 hol
                  go_wp2_with fail
                  refine wp_region_T [⟨0, true, []⟩, ⟨1, true, []⟩, ⟨2, true, []⟩, ⟨3, true, []⟩, ⟨4, true, []⟩, ⟨5, true, []⟩, ⟨6, true, []⟩, ⟨7, true, []⟩, ⟨8, true, []⟩, ⟨9, true, []⟩, ⟨10, true, []⟩, ⟨11, true, []⟩, ⟨12, false, []⟩, ⟨13, true, []⟩] (by kernel_rfl) (by kernel_rfl) ?_
                  have hmD := Mod.drew [] wr
                  obtain ⟨xd, hxd⟩ : ∃ xd, xd = wr.drew := ⟨_, rfl⟩
                  rw [← hxd] at hmD ⊢
                  clear hxd
                  have hPD := hPi.ext hmD
                  have hRD := hRi.ext hmD
                  have hFD : Bs xd (.slice (some ⟨gf, 0, none⟩) T T) X := hFb.ext hmD
                  have hMD := hMw.ext hmD
                  have hpd : ∀ b ∈ blks (.slice (some ⟨gf, 0, none⟩) T T), b ≠ p := fun b hb e => hgl (by have e1 : b = gf := (by simpa [blks] using hb); rw [← e1, e]; simp)
                  have c0 := Blk.cell' hRD (i := 0) rfl
                  have c1 := Blk.cell' hRD (i := 1) rfl
                  iterate 12 (refine wpT_n rfl rfl (fun K hK => ?_); go_wp2_with fail)
                  refine wpT_call rfl rfl (fun K hK => ?_)
                  go_wp2_with (go_at_call 171; (with_reducible refine (WR _ _ hPD hFD hpd).mono ?_); rintro e w20 ⟨rfl, L20, hP20, hm20, hL20⟩)
                  refine wpT_n rfl rfl (fun K hK => ?_)
                  go_wp2_with fail
                  refine wpT_nil ?_
                  go_wp2_with fail
                  go_roundw
                  case rel =>
                    obtain ⟨x1, x2, x3, x4⟩ := HV.out
                    exact ⟨s + 1, V2, L20, by go_num, by omega, hP20, hRD.mod hm20 hhL, by rw [gs1]; exact hzU, by rw [gs2]; exact hfU, by omega, by omega, hR0, hMD.then hm20 (fun g hg => (List.mem_cons.1 hg).elim (fun e => .inl (by simp [e])) (fun h => (hL' g h).imp (fun h => List.mem_cons_of_mem _ h) id)), fun k hk => (hL20 k hk).elim (hL' k) (fun h => .inr (by have := hMD.size; omega))⟩
                  case measure => simp [intOf]; omega
        · have hK' := hK (by omega)
          obtain rfl : cc = true := by rw [HCC.out]; exact decide_eq_true (by omega)
          clear hG hK
          go_wp2_with fail
          go_roundw
          case rel =>
            obtain ⟨x1, x2, x3, x4⟩ := HV.out
            exact ⟨s + 1, V, L', by go_num, by omega, hPr, hRr, hVz, hVd, by omega, by omega, by rw [hK']; exact hRG, hM, hL'⟩
          case measure => simp [intOf]; omega
      · obtain rfl : c = s := by omega
        go_wp2_with fail
        go_ret
        rw [posH_end hAE H0.out.2.1, wrG_end] at hRG
        rw [← hRG]
        exact ⟨rfl, L', hPr, hM, hL'⟩
end Go.Proofs.YtfepggdljhiemaaGreatDoor
