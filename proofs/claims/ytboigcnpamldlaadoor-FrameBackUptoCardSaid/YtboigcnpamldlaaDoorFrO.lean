import Derived.Test.YtboigcnpamldlaaDoorFrN
/-! FrameBack: its walk. -/
set_option linter.unusedVariables false
set_option linter.unusedSimpArgs false
set_option maxRecDepth 100000
namespace Go.Proofs.YtboigcnpamldlaaDoor
open Go.RowKit Gw

/-- rows of bytes, readable -/
def RowsF (w : World) (v : Value) (L : List (Value × List UInt8)) : Prop := Sl w 1 v L.length (L.map (·.1)) ∧ ∀ p ∈ L, Bs w p.1 p.2
theorem RowsF.ext {w w' : World} {v : Value} {L : List (Value × List UInt8)} (h : RowsF w v L) (hm : Mod [] w w') : RowsF w' v L := ⟨Sl.ext h.1 hm, fun p hp => (h.2 p hp).ext hm⟩
theorem RowsF.nil (w : World) : RowsF w (.slice none 0 0) [] := ⟨Sl.nil w 1, fun _ h => nomatch h⟩
theorem RowsF.at {w : World} {n cap : Nat} {ao : Option Addr} {L : List (Value × List UInt8)} (h : RowsF w (.slice ao n cap) L) {i : Nat} (hi : i < L.length) :
    ∃ g o, ao = some ⟨g, o, none⟩ ∧ w.cell? ⟨g, o + i, none⟩ = some L[i].1 ∧ Bs w L[i].1 L[i].2 := by
  have hne : L.map (·.1) ≠ [] := fun h0 => by have := congrArg List.length h0; simp at this; rw [this] at hi; simp at hi
  obtain ⟨b, o, c, hv, _, _, hc⟩ := h.1.at hne
  injection hv with e1 e2 e3
  exact ⟨b, o, e1, hc i _ (by simp [hi]), h.2 _ (List.getElem_mem hi)⟩
/-- what the loop of FrameBack keeps -/
structure Bk (w wr : World) (e s : Nat) (av wv pv : Value) (ls : List (List UInt8)) (L : List Fi) : Prop where
  d : L.map Fi.d = rowB e s 0 ls
  l : ∀ l ∈ ls, l.length ≤ 32
  sm : s + ls.length < 18446744073709551616
  c : ls.length ≤ 300
  all : Ob wr av (catB e s ls)
  an : ∀ k ∈ blks av, w.heap.size ≤ k
  fr : Frs wr w.heap.size wv L
  pl : Ow wr 3 1 pv L.length (iN (L.map Fi.p))
  pn : ∀ k ∈ blks pv, w.heap.size ≤ k
  m : Mod [] w wr
  ap : ∀ x ∈ L, ∀ k ∈ blks x.v, k ∉ blks av
theorem Bk.ext {w wr wx : World} {e s : Nat} {av wv pv : Value} {ls : List (List UInt8)} {L : List Fi} (h : Bk w wr e s av wv pv ls L) (hm : Mod [] wr wx) : Bk w wx e s av wv pv ls L :=
  ⟨h.d, h.l, h.sm, h.c, Ob.ext h.all hm, h.an, h.fr.ext hm, h.pl.ext hm, h.pn, h.m.ext hm, h.ap⟩
theorem Bk.n {w wr : World} {e s : Nat} {av wv pv : Value} {ls : List (List UInt8)} {L : List Fi} (h : Bk w wr e s av wv pv ls L) : L.length = ls.length := by
  have := congrArg List.length h.d
  rwa [List.length_map, rowB_len] at this
theorem catB_len (e : Nat) : ∀ (s : Nat) (ls : List (List UInt8)), (∀ l ∈ ls, l.length ≤ 32) → (catB e s ls).length ≤ 54 * ls.length
  | _, [], _ => Nat.zero_le _
  | s, x :: ls, h => by
    have h1 := catB_len e (s + 1) ls (fun l hl => h l (by simp [hl]))
    have h2 := h x (by simp)
    show (frame e (s + 1) x ++ catB e (s + 1) ls).length ≤ _
    rw [List.length_append, frame_len, List.length_cons]
    omega
theorem d_f {A B : List Fi} (h : A.map Fi.d = B.map Fi.d) : A.map Fi.f = B.map Fi.f ∧ A.map Fi.p = B.map Fi.p ∧ A.length = B.length :=
  ⟨by have := congrArg (List.map Prod.snd) h; simpa [Function.comp_def, Fi.d] using this, by have := congrArg (List.map Prod.fst) h; simpa [Function.comp_def, Fi.d] using this, by have := congrArg List.length h; simpa using this⟩
theorem flat_take3 : ∀ (k : Nat) (L : List Fi), (L.flatMap Fi.cells).take (k * 3) = (L.take k).flatMap Fi.cells
  | 0, _ => by simp
  | k + 1, [] => by simp
  | k + 1, x :: L => by
    rw [List.take_succ_cons, List.flatMap_cons, List.flatMap_cons, ← flat_take3 k L, show (k + 1) * 3 = k * 3 + 3 by omega]
    rfl
theorem FrsR.take {w : World} {ao : Option Addr} {n cap k : Nat} {L : List Fi} (h : FrsR w (.slice ao n cap) L) (hn : n = L.length) (hk : k ≤ n) (hc : k ≤ cap) : FrsR w (.slice ao k cap) (L.take k) := by
  subst hn
  have h2 := Sl.cut (lo := 0) (hi := k) (m := cap) h.1 (Nat.zero_le _) hk hc (Nat.le_refl _)
  have hl : (L.take k).length = k := by rw [List.length_take]; omega
  refine ⟨?_, fun x hx => h.2 x (List.mem_of_mem_take hx)⟩
  rw [hl]
  have e : (L.take k).flatMap Fi.cells = ((L.flatMap Fi.cells).drop (0 * 3)).take ((k - 0) * 3) := by rw [Nat.zero_mul, List.drop_zero, Nat.sub_zero, flat_take3]
  rw [e]
  have e2 : ao.map (·.add (0 * 3)) = ao := by cases ao <;> simp [Addr.add]
  rw [e2] at h2
  simpa using h2
set_option maxRecDepth 1000000 in
set_option maxHeartbeats 8000000 in
theorem frameBack_core (I : List (Value × List UInt8)) (v : Value) (e s : Nat) (W : World) (hI : RowsF W v I) (hl : ∀ p ∈ I, p.2.length ≤ 1048576) (hIl : I.length ≤ 1048576) (he : e < 18446744073709551616) (hs : s < 18446744073709551616) (hT : TabC W) :
    Calls Tryd.prog 6 #[v, .int .u64 (e : Nat), .int .u64 (s : Nat)] W fun e w' => e = .returned (.bool true) ∧ Mod [] W w' := by
  have AW := fun w h => frawake_any w h
  obtain ⟨ao, cap, rfl, hc1, hc2⟩ := hI.1.form
  go_enter Tryd.func6, Tryd.ntmps6
  go_wp2_with (go_at_call 10; (with_reducible refine (AW _ hT).mono ?_); rintro e w1 ⟨rfl, hm1⟩)
  have hI1 := hI.ext hm1
  have hT1 := hT.ext hm1
  go_loopw [7, 8, 9, 10] (fun av wv pv iv wr => ∃ (j : Nat) (ls : List (List UInt8)) (L : List Fi), iv = .int .i64 (j : Nat) ∧ ls.length = j ∧ j ≤ I.length ∧ Bk w1 wr e s av wv pv ls L) (fun _ _ _ iv _ => I.length - (intOf iv).toNat)
  case atStart => exact ⟨0, [], [], rfl, rfl, Nat.zero_le _, rfl, by simp, by simpa using hs, by simp, Ob.nil _, by simp [blks], Frs.nil _ _, Ow.nil _ _ _, by simp [blks], Mod.refl _ _, fun _ h => nomatch h⟩
  case round =>
    obtain ⟨j, ls, L, rfl, hj, hjI, hB⟩ := hrel
    have hn := hB.n
    obtain ⟨q, hq⟩ : ∃ q, q = (catB e s ls).length := ⟨_, rfl⟩
    obtain ⟨aoa, capa, rfl, _, _⟩ := Ob.nx hB.all hq.symm
    have hqb : q ≤ 16200 := by have := catB_len e s ls hB.l; have := hB.c; omega
    have HQ := Lib.hid hq
    have HJ := Lib.hid hj
    clear hq
    obtain ⟨aow, capw, rfl, _, _⟩ := hB.fr.nx (hn.trans hj)
    obtain ⟨aop, capp, rfl, _, _⟩ := (hn.trans hj ▸ hB.pl : Ow wr 3 1 _ j _).sl.form
    by_cases hgo : j < I.length ∧ j < 300
    · obtain ⟨hj1, hj2⟩ := hgo
      have y1 : (j : Int) < I.length := by omega
      have y2 : (j : Int) < 300 := by omega
      obtain ⟨g0, o0, rfl, c0, hb0⟩ := (hI1.ext hB.m).at hj1
      have hl0 := hl _ (List.getElem_mem hj1)
      obtain ⟨u, hu⟩ : ∃ u, u = I[j].1 := ⟨_, rfl⟩
      obtain ⟨l, hll⟩ : ∃ u, u = I[j].2 := ⟨_, rfl⟩
      rw [← hu] at c0 hb0
      rw [← hll] at hb0 hl0
      clear hu hll
      obtain ⟨aou, capu, rfl, _, _⟩ := hb0.form
      by_cases hsq : s + j + 1 < 18446744073709551616
      · have y3 : (s : Int) + j ≤ 18446744073709551614 := by omega
        have CP := fun w h => copy_any l (.slice aou l.length capu) w h (by omega)
        go_wp2_with (first
                      | (with_reducible refine st_alloc ?_)
                      | (go_at_call 29; refine (CP _ hb0).mono ?_; rintro e w2 ⟨v2, rfl, ho2, hn2, hm2⟩; obtain ⟨ao2, cap2, rfl, _, _⟩ := ho2.sl.form))
        refine StopOp.go rfl fun K hK => ?_
        refine wp_alloc zero_frame ?_
        intro g w3 hg1 hg2 hm3 hB3
        simp only [put_some, List.set_cons_succ, List.set_cons_zero]
        refine hK _ _ ?_
        clear hK K
        go_wp2_with (with_reducible refine st_store ?_)
        refine StopOp.go rfl fun K hK => ?_
        refine wp_store (u := .agg #[.int .u64 e, .int .u64 ((s : Nat) + (j : Nat) + 1), .slice ao2 l.length cap2]) (by rfl) (by rfl) (by kernel_rfl) hB3 (by simp [Value.cells]) (by simp [Value.cells, Value.oneCell']) ?_
        intro w4 hm4 hB4
        refine hK _ _ ?_
        clear hK K
        have hF4 : Blk w4 g 25 [.int .u64 (e : Nat), .int .u64 ((s : Nat) + (j : Nat) + 1), .slice ao2 l.length cap2] := hB4
        have hm24 : Mod [] w2 w4 := hm3.fresh hm4 (by simpa using hg1)
        have hmr4 : Mod [] wr w4 := hm2.ext hm24
        have ho4 := ho2.ext hm24
        have hb4 := ho4.bs
        have hT4 := hT1.ext (hB.m.ext hmr4)
        have hsj : (((s + j + 1 : Nat)) : Int) = (s : Int) + (j : Nat) + 1 := by omega
        have x0 := hF4.cell' (i := 0) rfl
        have x1 := hF4.cell' (i := 1) rfl
        have x2 := hF4.cell' (i := 2) rfl
        clear hB3 hB4 hm3 hm4 hm24 ho2 c0 hb0
        by_cases h32 : l.length ≤ 32
        · have y5 : (l.length : Int) ≤ 32 := by omega
          have PU := fun w v h hT => fput_any e (s + j + 1) l v w h he hsq hT
          unfold PutF at PU
          rw [if_neg (by omega), if_neg (by omega), hsj] at PU
          have hgo := getF_of he hsq h32 []
          rw [List.append_nil] at hgo
          obtain ⟨g1, g2, g3⟩ := hgo
          have hRl := frame_len e (s + j + 1) l
          have hgf : getF (frame e (s + j + 1) l) = ⟨e, s + j + 1, l⟩ := by unfold getF; rw [if_pos g1, g2]
          have hnf : numF (frame e (s + j + 1) l) = 22 + l.length := by unfold numF; rw [if_pos g1, g3]
          have GE := fun w v h hT => fget_any (frame e (s + j + 1) l) v w h (by omega) hT
          unfold GetF at GE
          rw [hgf, hnf, g1] at GE
          dsimp only at GE
          rw [hsj] at GE
          have SZ := fun w => size_any (l.length : Nat) w
          rw [show sizeF (l.length : Nat) = ((22 + l.length : Nat) : Int) by unfold sizeF; rw [if_neg (by omega)]; omega] at SZ
          have SF := fun w va vb h1 h2 => sameF_yes ⟨e, s + j + 1, l⟩ va vb w h1 h2
          unfold Fv.v at SF
          dsimp only at SF
          rw [hsj] at SF
          obtain ⟨R, hR⟩ : ∃ R, R = frame e (s + j + 1) l := ⟨_, rfl⟩
          rw [← hR] at PU hRl GE
          obtain ⟨N, hN⟩ : ∃ N, N = 22 + l.length := ⟨_, rfl⟩
          rw [← hN] at hRl GE SZ
          have HR := Lib.hid (And.intro hR (And.intro hN hRl))
          have y6 : (N : Int) ≤ 54 := by omega
          clear hR hN hRl g1 g2 g3 hgf hnf
          go_wp2_with (first
                        | (with_reducible refine st_alloc ?_)
                        | (go_at_call 12; refine (PU _ _ hb4 hT4).mono ?_; rintro e w5 ⟨v5, rfl, ho5, hn5, hm5⟩; obtain ⟨ao5, cap5, rfl, _, _⟩ := Ob.nx ho5 HR.out.2.2; have hF5 := hF4.ext hm5; have u2 := hF5.cell' (i := 2) rfl; have hs5 := ho5.bs; have hT5 := hT4.ext hm5)
                        | (go_at_call 20; refine (GE _ _ hs5 hT5).mono ?_; rintro e w6 ⟨v6, rfl, ho6, hn6, hm6⟩; obtain ⟨ao6, cap6, rfl, _, _⟩ := ho6.sl.form))
          refine StopOp.go rfl fun K hK => ?_
          refine wp_alloc zero_frame ?_
          intro h w7 hh1 hh2 hm7 hB7
          simp only [put_some, List.set_cons_succ, List.set_cons_zero]
          refine hK _ _ ?_
          clear hK K
          go_wp2_with (with_reducible refine st_store ?_)
          refine StopOp.go rfl fun K hK => ?_
          refine wp_store (u := .agg #[.int .u64 e, .int .u64 ((s : Nat) + (j : Nat) + 1), .slice ao6 l.length cap6]) (by rfl) (by rfl) (by kernel_rfl) hB7 (by simp [Value.cells]) (by simp [Value.cells, Value.oneCell']) ?_
          intro w8 hm8 hB8
          refine hK _ _ ?_
          clear hK K
          have hH8 : Blk w8 h 25 [.int .u64 (e : Nat), .int .u64 ((s : Nat) + (j : Nat) + 1), .slice ao6 l.length cap6] := hB8
          have hm68 : Mod [] w6 w8 := hm7.fresh hm8 (by simpa using hh1)
          have hm48 : Mod [] w4 w8 := (hm5.ext hm6).ext hm68
          have hF8 := hF4.ext hm48
          have hb8 := hb4.ext hm48
          have hs8 := (ho6.ext hm68).bs
          have p0 := hH8.cell' (i := 0) rfl
          have p1 := hH8.cell' (i := 1) rfl
          have p2 := hH8.cell' (i := 2) rfl
          have r0 := hF8.cell' (i := 0) rfl
          have r1 := hF8.cell' (i := 1) rfl
          have r2 := hF8.cell' (i := 2) rfl
          clear hB7 hB8 hm7 hm8 x0 x1 x2
          go_wp2_with (first
                        | (with_reducible refine st_bslice ?_)
                        | (go_at_call 17; (with_reducible refine (SZ _).mono ?_); rintro e w8' ⟨rfl, rfl⟩)
                        | (go_at_call 24; refine (SF _ _ _ hb8 hs8).mono ?_; rintro e w9 ⟨rfl, hm9⟩; have hF9 := hF8.ext hm9; have t0 := hF9.cell' (i := 0) rfl; have t1 := hF9.cell' (i := 1) rfl; have t2 := hF9.cell' (i := 2) rfl))
          have hm49 := hm48.ext hm9
          have hB9 := (hB.ext hmr4).ext hm49
          have hR9 := ((ho5.ext hm6).ext hm68).ext hm9
          have ho9 := ho4.ext hm49
          refine StopOp.go rfl fun K hK => ?_
          refine wp_bslice stInt [.int .i64 (q : Nat)] rfl (by decide) (by rfl) (by simp [Value.cells]) ?_
          intro k1 wa ha1 ha2 hma hBa
          simp only [put_some, List.set_cons_succ, List.set_cons_zero]
          refine hK _ _ ?_
          clear hK K
          have hSa : Sl wa 1 (.slice (some ⟨k1, 0, none⟩) 1 1) 1 [.int .i64 (q : Nat)] := (Ow.of_blk (rest := []) hBa (Nat.le_refl _) (by omega) rfl rfl : Ow wa 3 1 (.slice (some ⟨k1, 0, none⟩) 1 1) 1 [.int .i64 (q : Nat)]).sl
          have hBa' := hB9.ext hma
          have hpa := hBa'.pl
          rw [hn.trans HJ.out] at hpa
          have hRa := hR9.ext hma
          have hoa := ho9.ext hma
          have hFa := hF9.ext hma
          go_wp2_with (with_reducible refine st_append ?_)
          refine StopOp.go rfl fun K hK => ?_
          refine wp_append_ow stInt (by rfl) (by rfl) hpa hSa (by simp [Value.oneCell']) (by omega) (by omega) ?_
          intro vb wb hvb hmb hbb
          simp only [put_some, List.set_cons_succ, List.set_cons_zero]
          refine hK _ _ ?_
          clear hK K
          obtain ⟨aob, capb, rfl, _, _⟩ := hvb.sl.form
          have hAb : Ob wb (.slice aoa q capa) (catB e s ls) := Ow.mod hBa'.all hmb (ow_far hBa'.all hpa (by decide))
          have hRb : Ob wb (.slice ao5 N cap5) R := Ow.mod hRa hmb (ow_far hRa hpa (by decide))
          have hob : Ob wb (.slice ao2 l.length cap2) l := Ow.mod hoa hmb (ow_far hoa hpa (by decide))
          have hfb : Frs wb w1.heap.size (.slice aow j capw) L := hBa'.fr.mod hmb (ow_far hBa'.fr.ow hpa (by decide)) (fun x hx => ow_far (hBa'.fr.ob hx).1 hpa (by decide))
          have hFb := hFa.mod hmb (hpa.ne hFa (by decide))
          have hAx := Ob.onx hAb HQ.out.symm
          have hSx := Bs.onx hRb.bs HR.out.2.2
          go_wp2_with (with_reducible refine st_append ?_)
          refine StopOp.go rfl fun K hK => ?_
          refine wp_append_ow stB (by rfl) (by rfl) hAx hSx (bv_one R) (by omega) (by omega) ?_
          intro vc wc hvc hmc hbc
          simp only [put_some, List.set_cons_succ, List.set_cons_zero]
          refine hK _ _ ?_
          clear hK K
          obtain ⟨aoc, capc, rfl, _, _⟩ := hvc.sl.form
          have hfar : ∀ k ∈ blks (.slice aoa q capa), k < wr.heap.size := hB.all.lt
          have hob2 : ∀ k ∈ blks (.slice ao2 l.length cap2), wr.heap.size ≤ k := fun k hk => hn2 k hk
          have hoc : Ob wc (.slice ao2 l.length cap2) l := Ow.mod hob hmc (fun k hk hh => by have := hfar k hh; have := hob2 k hk; omega)
          have hpc := Ow.mod hvb hmc (ow_far hvb hAx (by decide))
          have hFc := hFb.mod hmc (hAx.ne hFb (by decide))
          have f0 := hFc.cell' (i := 0) rfl
          have f1 := hFc.cell' (i := 1) rfl
          have f2 := hFc.cell' (i := 2) rfl
          clear r0 r1 r2 t0 t1 t2 p0 p1 p2 u2
          have hfc : Frs wc w1.heap.size (.slice aow j capw) L := hfb.mod hmc (ow_far hfb.ow hAx (by decide)) (fun x hx k hk => hB.ap x hx k hk)
          have z1 := hm2.size
          have z2 := hm49.size
          have z3 := hma.size
          have z4 := hmb.size
          have z5 := hmc.size
          have z6 := hmr4.size
          go_wp2_with (with_reducible refine st_bslice ?_)
          refine StopOp.go rfl fun K hK => ?_
          refine wp_bslice stFr [.agg #[.int .u64 e, .int .u64 ((s : Nat) + (j : Nat) + 1), .slice ao2 l.length cap2]] rfl (by decide) (by rfl) (by simp [Value.cells]) ?_
          intro k2 wd hd1 hd2 hmd hBd
          simp only [put_some, List.set_cons_succ, List.set_cons_zero]
          refine hK _ _ ?_
          clear hK K
          have hsE : Fi.cells ⟨q, .slice ao2 l.length cap2, ⟨e, s + j + 1, l⟩⟩ = [.int .u64 (e : Nat), .int .u64 ((s : Nat) + (j : Nat) + 1), .slice ao2 l.length cap2] := by unfold Fi.cells; dsimp only; rw [hsj]
          have hSd : Sl wd 3 (.slice (some ⟨k2, 0, none⟩) 1 1) 1 (Fi.cells ⟨q, .slice ao2 l.length cap2, ⟨e, s + j + 1, l⟩⟩) := by
            have h : Ow wd 25 3 (.slice (some ⟨k2, 0, none⟩) 1 1) 1 [.int .u64 (e : Nat), .int .u64 ((s : Nat) + (j : Nat) + 1), .slice ao2 l.length cap2] := Ow.of_blk (rest := []) hBd (Nat.le_refl _) (by omega) rfl rfl
            rw [hsE]
            exact h.sl
          have hfd := hfc.ext hmd
          have hfdo := hfd.ow
          rw [hn.trans HJ.out] at hfdo
          have hod := hoc.ext hmd
          go_wp2_with (with_reducible refine st_append ?_)
          refine StopOp.go rfl fun K hK => ?_
          refine wp_append_ow stFr (by rfl) (by rfl) hfdo hSd (by simp [Fi.cells, Value.oneCell']) (by omega) (by omega) ?_
          intro ve we hve hme hbe
          simp only [put_some, List.set_cons_succ, List.set_cons_zero]
          refine hK _ _ ?_
          clear hK K
          obtain ⟨aoe, cape, rfl, _, _⟩ := hve.sl.form
          have hfe := hfd.snoc (B := wr.heap.size) (v' := .slice aoe (j + 1) cape) ⟨q, .slice ao2 l.length cap2, ⟨e, s + j + 1, l⟩⟩ hB.m.size (by have := hmd.size; omega) hB.fr.lt hod hob2 (by rw [hn.trans HJ.out]; exact hve) hme hbe
          have hce : Ow we 5 1 (.slice aoc (q + N) capc) (q + N) (bv (catB e s ls) ++ bv R) := (Ow.ext hvc hmd).mod hme (ow_far (Ow.ext hvc hmd) hfdo (by decide))
          have hpe := (Ow.ext hpc hmd).mod hme (ow_far (Ow.ext hpc hmd) hfdo (by decide))
          have hlt2 : ∀ k ∈ blks (.slice ao2 l.length cap2), k < wb.heap.size := hob.lt
          go_wp2_with fail
          go_roundw
          case rel =>
            refine ⟨j + 1, ls ++ [l], L ++ [⟨q, .slice ao2 l.length cap2, ⟨e, s + j + 1, l⟩⟩], by go_num, by rw [List.length_append, HJ.out]; rfl, by omega, ?_⟩
            have hcat : catB e s (ls ++ [l]) = catB e s ls ++ R := by rw [catB_snoc, HJ.out, HR.out.1]
            refine ⟨?_, fun x hx => ?_, ?_, ?_, ?_, fun k hk => ?_, hfe, ?_, fun k hk => ?_, ?_, fun x hx k hk hh => ?_⟩
            · rw [List.map_append, hB.d, rowB_snoc, ← HQ.out, HJ.out, Nat.zero_add]; rfl
            · rcases List.mem_append.1 hx with hx | hx
              · exact hB.l x hx
              · rw [List.mem_singleton.1 hx]; exact h32
            · rw [List.length_append, HJ.out, List.length_singleton]; omega
            · rw [List.length_append, HJ.out, List.length_singleton]; omega
            · rw [hcat]
              exact Ob.of_onx (n := q + N) (by unfold bv; rw [List.map_append]; exact hce) (by rw [List.length_append, ← HQ.out, HR.out.2.2])
            · rcases hbc k hk with hk | hk
              · exact hB.an k hk
              · have := hB.m.size; omega
            · rw [List.map_append, List.length_append, hn.trans HJ.out]
              have := hpe
              rw [show iN (L.map Fi.p) ++ [.int .i64 (q : Nat)] = iN (L.map Fi.p ++ [q]) from iN_snoc _ _] at this
              exact this
            · rcases hbb k hk with hk | hk
              · exact hB.pn k hk
              · have := hB.m.size; omega
            · exact ((((((hB.m.ext hmr4).ext hm49).ext hma).fresh hmb (fun k hk => hB.pn k hk)).fresh hmc (fun k hk => hB.an k hk)).ext hmd).fresh hme (fun k hk => hB.fr.nw k hk)
            · rcases List.mem_append.1 hx with hx | hx
              · have := hB.fr.lt x hx k hk
                rcases hbc k hh with h | h
                · exact hB.ap x hx k hk h
                · omega
              · rw [List.mem_singleton.1 hx] at hk
                have := hob2 k hk
                have := hlt2 k hk
                rcases hbc k hh with h | h
                · have := hfar k h; omega
                · omega
          case measure => simp [intOf]; omega
        · have y5 : (32 : Int) < l.length := by omega
          have PC := fun w v h hT => fput_any e (s + j + 1) l v w h he hsq hT
          unfold PutF at PC
          rw [if_pos (by omega), if_pos (by omega), hsj] at PC
          have hsm := hB.sm
          rw [HJ.out] at hsm
          have w0 : (s : Int) + j ≤ 18446744073709551615 := by omega
          obtain ⟨E, hE⟩ : ∃ E, E = (e + 1) % 18446744073709551616 := ⟨_, rfl⟩
          obtain ⟨S, hS⟩ : ∃ S, S = (s + j + 1) % 18446744073709551616 := ⟨_, rfl⟩
          have hE1 : E < 18446744073709551616 := by omega
          have hS1 : S < 18446744073709551616 := by omega
          have hEe : E ≠ e := by omega
          have hEI : (E : Int) = IntKind.u64.wrap ((e : Int) + 1) := by rw [IntKind.wrap_u64]; omega
          have hSI : (S : Int) = (s : Int) + j + 1 := by omega
          have PU := fun w v h hT => fput_any E S [] v w h hE1 hS1 hT
          unfold PutF at PU
          rw [if_neg (by decide), if_neg (by decide), hEI, hSI] at PU
          have hOl : (frame E S []).length = 22 := frame_len _ _ _
          have hrow := back_row (e := e) (s := s) ls he hB.l (by rw [HJ.out]; exact hsm) hE1 hS1 hEe
          have hpart := fun k hk => back_part (e := e) (s := s) (k := k) ls (frame E S []) he hB.l (by rw [HJ.out]; exact hsm) hk
          obtain ⟨O, hO⟩ : ∃ O, O = frame E S [] := ⟨_, rfl⟩
          rw [← hO] at PU hOl hrow
          simp only [← hO] at hpart
          have HP := Lib.hid hpart
          have HROW := Lib.hid hrow
          have HOL := Lib.hid hOl
          clear hpart hrow hOl hO hE hS hE1 hS1 hEe hEI hSI
          go_wp2_with (first
                        | (with_reducible refine st_append ?_)
                        | (go_at_call 12; refine (PU _ _ hz hTx).mono ?_; rintro e x1 ⟨vo, rfl, hoo, hno, hmo⟩; obtain ⟨aoo, capo, rfl, _, _⟩ := Ob.nx hoo HOL.out)
                        | (go_at_call 12; (with_reducible refine (PC _ _ hb4 hT4).mono ?_); rintro e w5 ⟨v5, rfl, ho5, hn5, hm5⟩; obtain ⟨ao5, cap5, rfl, _, _⟩ := Ob.nx ho5 (n := 0) rfl; have hF5 := hF4.ext hm5; have u2 := hF5.cell' (i := 2) rfl; have hBx := (hB.ext hmr4).ext hm5; have hz := (Ob.nil w5).bs; have hTx := hT4.ext hm5))
          have hB1 := hBx.ext hmo
          have hA1 := Ob.onx hB1.all HQ.out.symm
          have hS1 := Bs.onx hoo.bs HOL.out
          refine StopOp.go rfl fun K hK => ?_
          refine wp_append_ow stB (by rfl) (by rfl) hA1 hS1 (bv_one O) (by omega) (by omega) ?_
          intro vz x2 hvz hmz hbz
          simp only [put_some, List.set_cons_succ, List.set_cons_zero]
          refine hK _ _ ?_
          clear hK K
          have hZ : Ob x2 vz (catB e s ls ++ O) := Ob.of_onx (n := q + 22) (by unfold bv; rw [List.map_append]; exact hvz) (by rw [List.length_append, ← HQ.out, HOL.out])
          obtain ⟨aoz, capz, rfl, hcz1, hcz2⟩ := hvz.sl.form
          have hW2 : Frs x2 w1.heap.size (.slice aow j capw) L := hB1.fr.mod hmz (ow_far hB1.fr.ow hA1 (by decide)) (fun x hx k hk => hB1.ap x hx k hk)
          have hP2 := hB1.pl.mod hmz (ow_far hB1.pl hA1 (by decide))
          have hMz : Mod [] w1 x2 := hB1.m.fresh hmz (fun k hk => hB1.an k hk)
          have hTz := hT1.ext hMz
          have hzl : (catB e s ls ++ O).length ≤ 1099511627776 := by rw [List.length_append, ← HQ.out, HOL.out]; omega
          have hzn : (catB e s ls ++ O).length = q + 22 := by rw [List.length_append, ← HQ.out, HOL.out]
          have SC := fun w v h hT => scan_any (catB e s ls ++ O) e s v w h hzl hs he hT
          have TO := fun w v h hT => told_any (catB e s ls ++ O) e s v w h hzl hs he hT
          unfold ScanP at SC
          unfold ToldP at TO
          rw [HROW.out, rowB_end, Nat.zero_add, ← HQ.out] at SC
          rw [HROW.out] at TO
          rw [← hB.d] at SC TO
          have hPP : ((catB e s ls ++ O).take (q + 22)).length = q + 22 := by rw [List.length_take, hzn]; omega
          have SI : ∀ va vb w, Sl w 1 va j (iN (L.map Fi.p)) → Sl w 1 vb j (iN (L.map Fi.p)) → Calls Tryd.prog 31 #[va, vb] w fun e w' => e = .returned (.bool true) ∧ Mod [] w w' := fun va vb w h1 h2 => by
            have hl : (L.map Fi.p).length = j := by rw [List.length_map]; exact hn.trans HJ.out
            exact sameInts_yes _ va vb w (by rw [hl]; exact h1) (by rw [hl]; exact h2)
          have hLj : L.length = j := hn.trans HJ.out
          rw [hLj] at hP2
          have HLJ := Lib.hid hLj
          have dF : ∀ L1 : List Fi, L1.map Fi.d = L.map Fi.d → L1.map Fi.f = L.map Fi.f ∧ L1.map Fi.p = L.map Fi.p ∧ L1.length = L.length := fun L1 h => d_f h
          have SF := sameFrs_yes
          have hZb := hZ.bs
          obtain ⟨Z, hZZ⟩ : ∃ Z, Z = catB e s ls ++ O := ⟨_, rfl⟩
          rw [← hZZ] at hZb SC TO
          have HZZ := Lib.hid hZZ
          clear hZZ hPP hzl hzn hLj hZ
          by_cases hj1 : 1 < j
          · have y5 : (1 : Int) < j := by omega
            obtain ⟨K, hK⟩ : ∃ K, K = j / 2 := ⟨_, rfl⟩
            have hKI : (j : Int) / 2 = (K : Int) := by omega
            have hKj : K < ls.length := by rw [HJ.out]; omega
            obtain ⟨qk, _, hq1, hq2, hq3, hq4, hq5⟩ := HP.out K hKj
            clear hK
            have hq2' : (L.map Fi.p)[K]? = some qk := by
              have := hq2
              rw [← hB.d, List.map_map] at this
              exact this
            rw [← HQ.out] at hq3
            rw [← HZZ.out] at hq4
            have S3 := fun w v h hT => scan_any (Z.take (qk + 5)) e s v w h (by rw [List.length_take]; omega) hs he hT
            unfold ScanP at S3
            rw [hq4, hq5] at S3
            rcases Ow.blk hP2 with ⟨_, h0, _⟩ | ⟨gp, capp', restp, hep, hBk, _⟩
            · omega
            injection hep with e1 e2 e3
            subst e1 e3
            have hcK : (iN (L.map Fi.p) ++ restp)[K]? = some (.int .i64 (qk : Nat)) := by
              rw [List.getElem?_append_left (by rw [iN_len, List.length_map, HLJ.out]; omega)]
              unfold iN
              rw [List.getElem?_map, hq2']
              rfl
            have hd3' : ∀ L3 : List Fi, L3.map Fi.d = (rowB e s 0 ls).take K → L3.map Fi.f = (L.take K).map Fi.f ∧ L3.length = K := fun L3 h => by
              rw [← hB.d, ← List.map_take] at h
              have := d_f h
              exact ⟨this.1, by rw [this.2.2, List.length_take, HLJ.out]; omega⟩
            have hZn : q + 22 = Z.length := by rw [HZZ.out, List.length_append, ← HQ.out, HOL.out]
            have y6 : (qk : Int) + 5 ≤ capz := by omega
            have y7 : (K : Int) < j := by omega
            have y8 : (K : Int) ≤ capw := by omega
            have HC := Lib.hid hcK
            have HD := Lib.hid hd3'
            have HZN := Lib.hid hZn
            have hq33 : (qk : Int) + 22 ≤ q := by omega
            clear hq1 hq2 hq2' hq3 hq4 hq5 hKj hcK hd3' hZn
            go_wp2_with (first
                          | (go_at_call 25; (with_reducible refine (SC _ _ hZb hTz).mono ?_); rintro e x3 ⟨v3, L1, rfl, hd1, hf1, hm3⟩; obtain ⟨ao3, cap3, rfl, _, _⟩ := hf1.nx (n := j) ((dF L1 hd1).2.2.trans HLJ.out); have hZ3 := hZb.ext hm3; have hT3 := hTz.ext hm3)
                          | (go_at_call 30; refine (TO _ _ hZ3 hT3).mono ?_; rintro e x4 ⟨v4, pv4, L2, rfl, hd2, hf2, ho2x, hn2x, hm4x⟩; obtain ⟨ao4, cap4, rfl, _, _⟩ := hf2.nx (n := j) ((dF L2 hd2).2.2.trans HLJ.out); rw [(dF L2 hd2).2.1, (dF L2 hd2).2.2, HLJ.out] at ho2x; obtain ⟨ao5, cap5, rfl, _, _⟩ := ho2x.sl.form; have r1 := hf1.r.ext hm4x; have r2 := hf2.r; have r0 := (hW2.r.ext hm3).ext hm4x; have i1 := ho2x.sl; have i0 := (hP2.sl.ext hm3).ext hm4x)
                          | (go_at_call 28; (with_reducible refine (SF L1 L _ _ _ r1 r0 (dF L1 hd1).1).mono ?_); rintro e x5 ⟨rfl, hm5x⟩; have r2' := r2.ext hm5x; have r0' := r0.ext hm5x; have i0' := i0.ext hm5x; have i1' := i1.ext hm5x)
                          | (go_at_call 28; (with_reducible refine (SF L2 L _ _ _ r2' r0' (dF L2 hd2).1).mono ?_); rintro e x6 ⟨rfl, hm6x⟩; have i0'' := i0'.ext hm6x; have i1'' := i1'.ext hm6x)
                          | (go_at_call 31; (with_reducible refine (SI _ _ _ i1'' i0'').mono ?_); rintro e x7 ⟨rfl, hm7x⟩; have b7 := ((((hBk.ext hm3).ext hm4x).ext hm5x).ext hm6x).ext hm7x; have cK := b7.cell' HC.out; have z7 := ((((hZb.ext hm3).ext hm4x).ext hm5x).ext hm6x).ext hm7x; have z8 := z7.pref HZN.out (k := qk + 5) (by omega) (by omega); have T7 := ((((hTz.ext hm3).ext hm4x).ext hm5x).ext hm6x).ext hm7x; have q7 := (((((hW2.r.ext hm3).ext hm4x).ext hm5x).ext hm6x).ext hm7x).take HLJ.out.symm (k := K) (by omega) (by omega))
                          | (go_at_call 25; (with_reducible refine (S3 _ _ z8 T7).mono ?_); rintro e x8 ⟨v8, L3, rfl, hd3, hf3, hm8⟩; obtain ⟨ao8, cap8, rfl, _, _⟩ := hf3.nx (n := K) (HD.out L3 hd3).2; have cK8 := (b7.ext hm8).cell' HC.out; have q8 := q7.ext hm8; have f8 := hf3.r)
                          | (go_at_call 28; (with_reducible refine (SF L3 (L.take K) _ _ _ f8 q8 (HD.out L3 hd3).1).mono ?_); rintro e x9 ⟨rfl, hm9⟩))
            go_ret
            exact ⟨rfl, hm1.ext (((((((hMz.ext hm3).ext hm4x).ext hm5x).ext hm6x).ext hm7x).ext hm8).ext hm9)⟩
          · have y5 : (j : Int) ≤ 1 := by omega
            go_wp2_with (first
                          | (go_at_call 25; (with_reducible refine (SC _ _ hZb hTz).mono ?_); rintro e x3 ⟨v3, L1, rfl, hd1, hf1, hm3⟩; obtain ⟨ao3, cap3, rfl, _, _⟩ := hf1.nx (n := j) ((dF L1 hd1).2.2.trans HLJ.out); have hZ3 := hZb.ext hm3; have hT3 := hTz.ext hm3)
                          | (go_at_call 30; refine (TO _ _ hZ3 hT3).mono ?_; rintro e x4 ⟨v4, pv4, L2, rfl, hd2, hf2, ho2x, hn2x, hm4x⟩; obtain ⟨ao4, cap4, rfl, _, _⟩ := hf2.nx (n := j) ((dF L2 hd2).2.2.trans HLJ.out); rw [(dF L2 hd2).2.1, (dF L2 hd2).2.2, HLJ.out] at ho2x; obtain ⟨ao5, cap5, rfl, _, _⟩ := ho2x.sl.form; have r1 := hf1.r.ext hm4x; have r2 := hf2.r; have r0 := (hW2.r.ext hm3).ext hm4x; have i1 := ho2x.sl; have i0 := (hP2.sl.ext hm3).ext hm4x)
                          | (go_at_call 28; (with_reducible refine (SF L1 L _ _ _ r1 r0 (dF L1 hd1).1).mono ?_); rintro e x5 ⟨rfl, hm5x⟩; have r2' := r2.ext hm5x; have r0' := r0.ext hm5x; have i0' := i0.ext hm5x; have i1' := i1.ext hm5x)
                          | (go_at_call 28; (with_reducible refine (SF L2 L _ _ _ r2' r0' (dF L2 hd2).1).mono ?_); rintro e x6 ⟨rfl, hm6x⟩; have i0'' := i0'.ext hm6x; have i1'' := i1'.ext hm6x)
                          | (go_at_call 31; (with_reducible refine (SI _ _ _ i1'' i0'').mono ?_); rintro e x7 ⟨rfl, hm7x⟩))
            all_goals (go_ret; exact ⟨rfl, hm1.ext (((((hMz.ext hm3).ext hm4x).ext hm5x).ext hm6x).ext hm7x)⟩)
      · have hsm0 := hB.sm
        rw [HJ.out] at hsm0
        have w00 : (s : Int) + j ≤ 18446744073709551615 := by omega
        have hW0 : IntKind.u64.wrap ((s : Int) + j + 1) = 0 := by rw [IntKind.wrap_u64]; omega
        have CP := fun w h => copy_any l (.slice aou l.length capu) w h (by omega)
        clear hsm0
        go_wp2_with (first
                      | (with_reducible refine st_alloc ?_)
                      | (go_at_call 29; refine (CP _ hb0).mono ?_; rintro e w2 ⟨v2, rfl, ho2, hn2, hm2⟩; obtain ⟨ao2, cap2, rfl, _, _⟩ := ho2.sl.form))
        refine StopOp.go rfl fun K hK => ?_
        refine wp_alloc zero_frame ?_
        intro g w3 hg1 hg2 hm3 hB3
        simp only [put_some, List.set_cons_succ, List.set_cons_zero]
        refine hK _ _ ?_
        clear hK K
        go_wp2_with (with_reducible refine st_store ?_)
        refine StopOp.go rfl fun K hK => ?_
        refine wp_store (u := .agg #[.int .u64 e, .int .u64 0, .slice ao2 l.length cap2]) (by rfl) (by rfl) (by kernel_rfl) hB3 (by simp [Value.cells]) (by simp [Value.cells, Value.oneCell']) ?_
        intro w4 hm4 hB4
        refine hK _ _ ?_
        clear hK K
        have hF4 : Blk w4 g 25 [.int .u64 (e : Nat), .int .u64 0, .slice ao2 l.length cap2] := hB4
        have hmr4 : Mod [] wr w4 := hm2.ext (hm3.fresh hm4 (by simpa using hg1))
        have hBx := hB.ext hmr4
        have x0 := hF4.cell' (i := 0) rfl
        have x1 := hF4.cell' (i := 1) rfl
        have x2 := hF4.cell' (i := 2) rfl
        clear hB3 hB4 hm3 hm4 ho2 c0 hb0
        have hsm := hB.sm
        rw [HJ.out] at hsm
        have w0 : (s : Int) + j ≤ 18446744073709551615 := by omega
        obtain ⟨E, hE⟩ : ∃ E, E = (e + 1) % 18446744073709551616 := ⟨_, rfl⟩
        obtain ⟨S, hS⟩ : ∃ S, S = (s + j + 1) % 18446744073709551616 := ⟨_, rfl⟩
        have hE1 : E < 18446744073709551616 := by omega
        have hS1 : S < 18446744073709551616 := by omega
        have hEe : E ≠ e := by omega
        have hEI : (E : Int) = IntKind.u64.wrap ((e : Int) + 1) := by rw [IntKind.wrap_u64]; omega
        have hSI : (S : Int) = 0 := by omega
        have PU := fun w v h hT => fput_any E S [] v w h hE1 hS1 hT
        unfold PutF at PU
        rw [if_neg (by decide), if_neg (by decide), hEI, hSI] at PU
        have hOl : (frame E S []).length = 22 := frame_len _ _ _
        have hrow := back_row (e := e) (s := s) ls he hB.l (by rw [HJ.out]; exact hsm) hE1 hS1 hEe
        have hpart := fun k hk => back_part (e := e) (s := s) (k := k) ls (frame E S []) he hB.l (by rw [HJ.out]; exact hsm) hk
        obtain ⟨O, hO⟩ : ∃ O, O = frame E S [] := ⟨_, rfl⟩
        rw [← hO] at PU hOl hrow
        simp only [← hO] at hpart
        have HP := Lib.hid hpart
        have HROW := Lib.hid hrow
        have HOL := Lib.hid hOl
        clear hpart hrow hOl hO hE hS hE1 hS1 hEe hEI hSI
        have hz := (Ob.nil w4).bs
        have hTx := hT1.ext hBx.m
        go_wp2_with (first
                      | (with_reducible refine st_append ?_)
                      | (go_at_call 12; refine (PU _ _ hz hTx).mono ?_; rintro e x1 ⟨vo, rfl, hoo, hno, hmo⟩; obtain ⟨aoo, capo, rfl, _, _⟩ := Ob.nx hoo HOL.out))
        have hB1 := hBx.ext hmo
        have hA1 := Ob.onx hB1.all HQ.out.symm
        have hS1 := Bs.onx hoo.bs HOL.out
        refine StopOp.go rfl fun K hK => ?_
        refine wp_append_ow stB (by rfl) (by rfl) hA1 hS1 (bv_one O) (by omega) (by omega) ?_
        intro vz x2 hvz hmz hbz
        simp only [put_some, List.set_cons_succ, List.set_cons_zero]
        refine hK _ _ ?_
        clear hK K
        have hZ : Ob x2 vz (catB e s ls ++ O) := Ob.of_onx (n := q + 22) (by unfold bv; rw [List.map_append]; exact hvz) (by rw [List.length_append, ← HQ.out, HOL.out])
        obtain ⟨aoz, capz, rfl, hcz1, hcz2⟩ := hvz.sl.form
        have hW2 : Frs x2 w1.heap.size (.slice aow j capw) L := hB1.fr.mod hmz (ow_far hB1.fr.ow hA1 (by decide)) (fun x hx k hk => hB1.ap x hx k hk)
        have hP2 := hB1.pl.mod hmz (ow_far hB1.pl hA1 (by decide))
        have hMz : Mod [] w1 x2 := hB1.m.fresh hmz (fun k hk => hB1.an k hk)
        have hTz := hT1.ext hMz
        have hzl : (catB e s ls ++ O).length ≤ 1099511627776 := by rw [List.length_append, ← HQ.out, HOL.out]; omega
        have hzn : (catB e s ls ++ O).length = q + 22 := by rw [List.length_append, ← HQ.out, HOL.out]
        have SC := fun w v h hT => scan_any (catB e s ls ++ O) e s v w h hzl hs he hT
        have TO := fun w v h hT => told_any (catB e s ls ++ O) e s v w h hzl hs he hT
        unfold ScanP at SC
        unfold ToldP at TO
        rw [HROW.out, rowB_end, Nat.zero_add, ← HQ.out] at SC
        rw [HROW.out] at TO
        rw [← hB.d] at SC TO
        have hPP : ((catB e s ls ++ O).take (q + 22)).length = q + 22 := by rw [List.length_take, hzn]; omega
        have SI : ∀ va vb w, Sl w 1 va j (iN (L.map Fi.p)) → Sl w 1 vb j (iN (L.map Fi.p)) → Calls Tryd.prog 31 #[va, vb] w fun e w' => e = .returned (.bool true) ∧ Mod [] w w' := fun va vb w h1 h2 => by
          have hl : (L.map Fi.p).length = j := by rw [List.length_map]; exact hn.trans HJ.out
          exact sameInts_yes _ va vb w (by rw [hl]; exact h1) (by rw [hl]; exact h2)
        have hLj : L.length = j := hn.trans HJ.out
        rw [hLj] at hP2
        have HLJ := Lib.hid hLj
        have dF : ∀ L1 : List Fi, L1.map Fi.d = L.map Fi.d → L1.map Fi.f = L.map Fi.f ∧ L1.map Fi.p = L.map Fi.p ∧ L1.length = L.length := fun L1 h => d_f h
        have SF := sameFrs_yes
        have hZb := hZ.bs
        obtain ⟨Z, hZZ⟩ : ∃ Z, Z = catB e s ls ++ O := ⟨_, rfl⟩
        rw [← hZZ] at hZb SC TO
        have HZZ := Lib.hid hZZ
        clear hZZ hPP hzl hzn hLj hZ
        by_cases hj1 : 1 < j
        · have y5 : (1 : Int) < j := by omega
          obtain ⟨K, hK⟩ : ∃ K, K = j / 2 := ⟨_, rfl⟩
          have hKI : (j : Int) / 2 = (K : Int) := by omega
          have hKj : K < ls.length := by rw [HJ.out]; omega
          obtain ⟨qk, _, hq1, hq2, hq3, hq4, hq5⟩ := HP.out K hKj
          clear hK
          have hq2' : (L.map Fi.p)[K]? = some qk := by
            have := hq2
            rw [← hB.d, List.map_map] at this
            exact this
          rw [← HQ.out] at hq3
          rw [← HZZ.out] at hq4
          have S3 := fun w v h hT => scan_any (Z.take (qk + 5)) e s v w h (by rw [List.length_take]; omega) hs he hT
          unfold ScanP at S3
          rw [hq4, hq5] at S3
          rcases Ow.blk hP2 with ⟨_, h0, _⟩ | ⟨gp, capp', restp, hep, hBk, _⟩
          · omega
          injection hep with e1 e2 e3
          subst e1 e3
          have hcK : (iN (L.map Fi.p) ++ restp)[K]? = some (.int .i64 (qk : Nat)) := by
            rw [List.getElem?_append_left (by rw [iN_len, List.length_map, HLJ.out]; omega)]
            unfold iN
            rw [List.getElem?_map, hq2']
            rfl
          have hd3' : ∀ L3 : List Fi, L3.map Fi.d = (rowB e s 0 ls).take K → L3.map Fi.f = (L.take K).map Fi.f ∧ L3.length = K := fun L3 h => by
            rw [← hB.d, ← List.map_take] at h
            have := d_f h
            exact ⟨this.1, by rw [this.2.2, List.length_take, HLJ.out]; omega⟩
          have hZn : q + 22 = Z.length := by rw [HZZ.out, List.length_append, ← HQ.out, HOL.out]
          have y6 : (qk : Int) + 5 ≤ capz := by omega
          have y7 : (K : Int) < j := by omega
          have y8 : (K : Int) ≤ capw := by omega
          have HC := Lib.hid hcK
          have HD := Lib.hid hd3'
          have HZN := Lib.hid hZn
          have hq33 : (qk : Int) + 22 ≤ q := by omega
          clear hq1 hq2 hq2' hq3 hq4 hq5 hKj hcK hd3' hZn
          go_wp2_with (first
                        | (go_at_call 25; (with_reducible refine (SC _ _ hZb hTz).mono ?_); rintro e x3 ⟨v3, L1, rfl, hd1, hf1, hm3⟩; obtain ⟨ao3, cap3, rfl, _, _⟩ := hf1.nx (n := j) ((dF L1 hd1).2.2.trans HLJ.out); have hZ3 := hZb.ext hm3; have hT3 := hTz.ext hm3)
                        | (go_at_call 30; refine (TO _ _ hZ3 hT3).mono ?_; rintro e x4 ⟨v4, pv4, L2, rfl, hd2, hf2, ho2x, hn2x, hm4x⟩; obtain ⟨ao4, cap4, rfl, _, _⟩ := hf2.nx (n := j) ((dF L2 hd2).2.2.trans HLJ.out); rw [(dF L2 hd2).2.1, (dF L2 hd2).2.2, HLJ.out] at ho2x; obtain ⟨ao5, cap5, rfl, _, _⟩ := ho2x.sl.form; have r1 := hf1.r.ext hm4x; have r2 := hf2.r; have r0 := (hW2.r.ext hm3).ext hm4x; have i1 := ho2x.sl; have i0 := (hP2.sl.ext hm3).ext hm4x)
                        | (go_at_call 28; (with_reducible refine (SF L1 L _ _ _ r1 r0 (dF L1 hd1).1).mono ?_); rintro e x5 ⟨rfl, hm5x⟩; have r2' := r2.ext hm5x; have r0' := r0.ext hm5x; have i0' := i0.ext hm5x; have i1' := i1.ext hm5x)
                        | (go_at_call 28; (with_reducible refine (SF L2 L _ _ _ r2' r0' (dF L2 hd2).1).mono ?_); rintro e x6 ⟨rfl, hm6x⟩; have i0'' := i0'.ext hm6x; have i1'' := i1'.ext hm6x)
                        | (go_at_call 31; (with_reducible refine (SI _ _ _ i1'' i0'').mono ?_); rintro e x7 ⟨rfl, hm7x⟩; have b7 := ((((hBk.ext hm3).ext hm4x).ext hm5x).ext hm6x).ext hm7x; have cK := b7.cell' HC.out; have z7 := ((((hZb.ext hm3).ext hm4x).ext hm5x).ext hm6x).ext hm7x; have z8 := z7.pref HZN.out (k := qk + 5) (by omega) (by omega); have T7 := ((((hTz.ext hm3).ext hm4x).ext hm5x).ext hm6x).ext hm7x; have q7 := (((((hW2.r.ext hm3).ext hm4x).ext hm5x).ext hm6x).ext hm7x).take HLJ.out.symm (k := K) (by omega) (by omega))
                        | (go_at_call 25; (with_reducible refine (S3 _ _ z8 T7).mono ?_); rintro e x8 ⟨v8, L3, rfl, hd3, hf3, hm8⟩; obtain ⟨ao8, cap8, rfl, _, _⟩ := hf3.nx (n := K) (HD.out L3 hd3).2; have cK8 := (b7.ext hm8).cell' HC.out; have q8 := q7.ext hm8; have f8 := hf3.r)
                        | (go_at_call 28; (with_reducible refine (SF L3 (L.take K) _ _ _ f8 q8 (HD.out L3 hd3).1).mono ?_); rintro e x9 ⟨rfl, hm9⟩))
          go_ret
          exact ⟨rfl, hm1.ext (((((((hMz.ext hm3).ext hm4x).ext hm5x).ext hm6x).ext hm7x).ext hm8).ext hm9)⟩
        · have y5 : (j : Int) ≤ 1 := by omega
          go_wp2_with (first
                        | (go_at_call 25; (with_reducible refine (SC _ _ hZb hTz).mono ?_); rintro e x3 ⟨v3, L1, rfl, hd1, hf1, hm3⟩; obtain ⟨ao3, cap3, rfl, _, _⟩ := hf1.nx (n := j) ((dF L1 hd1).2.2.trans HLJ.out); have hZ3 := hZb.ext hm3; have hT3 := hTz.ext hm3)
                        | (go_at_call 30; refine (TO _ _ hZ3 hT3).mono ?_; rintro e x4 ⟨v4, pv4, L2, rfl, hd2, hf2, ho2x, hn2x, hm4x⟩; obtain ⟨ao4, cap4, rfl, _, _⟩ := hf2.nx (n := j) ((dF L2 hd2).2.2.trans HLJ.out); rw [(dF L2 hd2).2.1, (dF L2 hd2).2.2, HLJ.out] at ho2x; obtain ⟨ao5, cap5, rfl, _, _⟩ := ho2x.sl.form; have r1 := hf1.r.ext hm4x; have r2 := hf2.r; have r0 := (hW2.r.ext hm3).ext hm4x; have i1 := ho2x.sl; have i0 := (hP2.sl.ext hm3).ext hm4x)
                        | (go_at_call 28; (with_reducible refine (SF L1 L _ _ _ r1 r0 (dF L1 hd1).1).mono ?_); rintro e x5 ⟨rfl, hm5x⟩; have r2' := r2.ext hm5x; have r0' := r0.ext hm5x; have i0' := i0.ext hm5x; have i1' := i1.ext hm5x)
                        | (go_at_call 28; (with_reducible refine (SF L2 L _ _ _ r2' r0' (dF L2 hd2).1).mono ?_); rintro e x6 ⟨rfl, hm6x⟩; have i0'' := i0'.ext hm6x; have i1'' := i1'.ext hm6x)
                        | (go_at_call 31; (with_reducible refine (SI _ _ _ i1'' i0'').mono ?_); rintro e x7 ⟨rfl, hm7x⟩))
          all_goals (go_ret; exact ⟨rfl, hm1.ext (((((hMz.ext hm3).ext hm4x).ext hm5x).ext hm6x).ext hm7x)⟩)
    · by_cases hjl : j = I.length
      · have y1 : (I.length : Int) ≤ j := by omega
        clear hgo hjl
        have hsm := hB.sm
        rw [HJ.out] at hsm
        have w0 : (s : Int) + j ≤ 18446744073709551615 := by omega
        obtain ⟨E, hE⟩ : ∃ E, E = (e + 1) % 18446744073709551616 := ⟨_, rfl⟩
        obtain ⟨S, hS⟩ : ∃ S, S = (s + j + 1) % 18446744073709551616 := ⟨_, rfl⟩
        have hE1 : E < 18446744073709551616 := by omega
        have hS1 : S < 18446744073709551616 := by omega
        have hEe : E ≠ e := by omega
        have hEI : (E : Int) = IntKind.u64.wrap ((e : Int) + 1) := by rw [IntKind.wrap_u64]; omega
        have hSI : (S : Int) = IntKind.u64.wrap ((s : Int) + j + 1) := by rw [IntKind.wrap_u64]; omega
        have PU := fun w v h hT => fput_any E S [] v w h hE1 hS1 hT
        unfold PutF at PU
        rw [if_neg (by decide), if_neg (by decide), hEI, hSI] at PU
        have hOl : (frame E S []).length = 22 := frame_len _ _ _
        have hrow := back_row (e := e) (s := s) ls he hB.l (by rw [HJ.out]; exact hsm) hE1 hS1 hEe
        have hpart := fun k hk => back_part (e := e) (s := s) (k := k) ls (frame E S []) he hB.l (by rw [HJ.out]; exact hsm) hk
        obtain ⟨O, hO⟩ : ∃ O, O = frame E S [] := ⟨_, rfl⟩
        rw [← hO] at PU hOl hrow
        simp only [← hO] at hpart
        have HP := Lib.hid hpart
        have HROW := Lib.hid hrow
        have HOL := Lib.hid hOl
        clear hpart hrow hOl hO hE hS hE1 hS1 hEe hEI hSI
        have hz := (Ob.nil wr).bs
        have hTx := hT1.ext hB.m
        go_wp2_with (first
                      | (with_reducible refine st_append ?_)
                      | (go_at_call 12; refine (PU _ _ hz hTx).mono ?_; rintro e x1 ⟨vo, rfl, hoo, hno, hmo⟩; obtain ⟨aoo, capo, rfl, _, _⟩ := Ob.nx hoo HOL.out))
        have hB1 := hB.ext hmo
        have hA1 := Ob.onx hB1.all HQ.out.symm
        have hS1 := Bs.onx hoo.bs HOL.out
        refine StopOp.go rfl fun K hK => ?_
        refine wp_append_ow stB (by rfl) (by rfl) hA1 hS1 (bv_one O) (by omega) (by omega) ?_
        intro vz x2 hvz hmz hbz
        simp only [put_some, List.set_cons_succ, List.set_cons_zero]
        refine hK _ _ ?_
        clear hK K
        have hZ : Ob x2 vz (catB e s ls ++ O) := Ob.of_onx (n := q + 22) (by unfold bv; rw [List.map_append]; exact hvz) (by rw [List.length_append, ← HQ.out, HOL.out])
        obtain ⟨aoz, capz, rfl, hcz1, hcz2⟩ := hvz.sl.form
        have hW2 : Frs x2 w1.heap.size (.slice aow j capw) L := hB1.fr.mod hmz (ow_far hB1.fr.ow hA1 (by decide)) (fun x hx k hk => hB1.ap x hx k hk)
        have hP2 := hB1.pl.mod hmz (ow_far hB1.pl hA1 (by decide))
        have hMz : Mod [] w1 x2 := hB1.m.fresh hmz (fun k hk => hB1.an k hk)
        have hTz := hT1.ext hMz
        have hzl : (catB e s ls ++ O).length ≤ 1099511627776 := by rw [List.length_append, ← HQ.out, HOL.out]; omega
        have hzn : (catB e s ls ++ O).length = q + 22 := by rw [List.length_append, ← HQ.out, HOL.out]
        have SC := fun w v h hT => scan_any (catB e s ls ++ O) e s v w h hzl hs he hT
        have TO := fun w v h hT => told_any (catB e s ls ++ O) e s v w h hzl hs he hT
        unfold ScanP at SC
        unfold ToldP at TO
        rw [HROW.out, rowB_end, Nat.zero_add, ← HQ.out] at SC
        rw [HROW.out] at TO
        rw [← hB.d] at SC TO
        have hPP : ((catB e s ls ++ O).take (q + 22)).length = q + 22 := by rw [List.length_take, hzn]; omega
        have SI : ∀ va vb w, Sl w 1 va j (iN (L.map Fi.p)) → Sl w 1 vb j (iN (L.map Fi.p)) → Calls Tryd.prog 31 #[va, vb] w fun e w' => e = .returned (.bool true) ∧ Mod [] w w' := fun va vb w h1 h2 => by
          have hl : (L.map Fi.p).length = j := by rw [List.length_map]; exact hn.trans HJ.out
          exact sameInts_yes _ va vb w (by rw [hl]; exact h1) (by rw [hl]; exact h2)
        have hLj : L.length = j := hn.trans HJ.out
        rw [hLj] at hP2
        have HLJ := Lib.hid hLj
        have dF : ∀ L1 : List Fi, L1.map Fi.d = L.map Fi.d → L1.map Fi.f = L.map Fi.f ∧ L1.map Fi.p = L.map Fi.p ∧ L1.length = L.length := fun L1 h => d_f h
        have SF := sameFrs_yes
        have hZb := hZ.bs
        obtain ⟨Z, hZZ⟩ : ∃ Z, Z = catB e s ls ++ O := ⟨_, rfl⟩
        rw [← hZZ] at hZb SC TO
        have HZZ := Lib.hid hZZ
        clear hZZ hPP hzl hzn hLj hZ
        by_cases hj1 : 1 < j
        · have y5 : (1 : Int) < j := by omega
          obtain ⟨K, hK⟩ : ∃ K, K = j / 2 := ⟨_, rfl⟩
          have hKI : (j : Int) / 2 = (K : Int) := by omega
          have hKj : K < ls.length := by rw [HJ.out]; omega
          obtain ⟨qk, _, hq1, hq2, hq3, hq4, hq5⟩ := HP.out K hKj
          clear hK
          have hq2' : (L.map Fi.p)[K]? = some qk := by
            have := hq2
            rw [← hB.d, List.map_map] at this
            exact this
          rw [← HQ.out] at hq3
          rw [← HZZ.out] at hq4
          have S3 := fun w v h hT => scan_any (Z.take (qk + 5)) e s v w h (by rw [List.length_take]; omega) hs he hT
          unfold ScanP at S3
          rw [hq4, hq5] at S3
          rcases Ow.blk hP2 with ⟨_, h0, _⟩ | ⟨gp, capp', restp, hep, hBk, _⟩
          · omega
          injection hep with e1 e2 e3
          subst e1 e3
          have hcK : (iN (L.map Fi.p) ++ restp)[K]? = some (.int .i64 (qk : Nat)) := by
            rw [List.getElem?_append_left (by rw [iN_len, List.length_map, HLJ.out]; omega)]
            unfold iN
            rw [List.getElem?_map, hq2']
            rfl
          have hd3' : ∀ L3 : List Fi, L3.map Fi.d = (rowB e s 0 ls).take K → L3.map Fi.f = (L.take K).map Fi.f ∧ L3.length = K := fun L3 h => by
            rw [← hB.d, ← List.map_take] at h
            have := d_f h
            exact ⟨this.1, by rw [this.2.2, List.length_take, HLJ.out]; omega⟩
          have hZn : q + 22 = Z.length := by rw [HZZ.out, List.length_append, ← HQ.out, HOL.out]
          have y6 : (qk : Int) + 5 ≤ capz := by omega
          have y7 : (K : Int) < j := by omega
          have y8 : (K : Int) ≤ capw := by omega
          have HC := Lib.hid hcK
          have HD := Lib.hid hd3'
          have HZN := Lib.hid hZn
          have hq33 : (qk : Int) + 22 ≤ q := by omega
          clear hq1 hq2 hq2' hq3 hq4 hq5 hKj hcK hd3' hZn
          go_wp2_with (first
                        | (go_at_call 25; (with_reducible refine (SC _ _ hZb hTz).mono ?_); rintro e x3 ⟨v3, L1, rfl, hd1, hf1, hm3⟩; obtain ⟨ao3, cap3, rfl, _, _⟩ := hf1.nx (n := j) ((dF L1 hd1).2.2.trans HLJ.out); have hZ3 := hZb.ext hm3; have hT3 := hTz.ext hm3)
                        | (go_at_call 30; refine (TO _ _ hZ3 hT3).mono ?_; rintro e x4 ⟨v4, pv4, L2, rfl, hd2, hf2, ho2x, hn2x, hm4x⟩; obtain ⟨ao4, cap4, rfl, _, _⟩ := hf2.nx (n := j) ((dF L2 hd2).2.2.trans HLJ.out); rw [(dF L2 hd2).2.1, (dF L2 hd2).2.2, HLJ.out] at ho2x; obtain ⟨ao5, cap5, rfl, _, _⟩ := ho2x.sl.form; have r1 := hf1.r.ext hm4x; have r2 := hf2.r; have r0 := (hW2.r.ext hm3).ext hm4x; have i1 := ho2x.sl; have i0 := (hP2.sl.ext hm3).ext hm4x)
                        | (go_at_call 28; (with_reducible refine (SF L1 L _ _ _ r1 r0 (dF L1 hd1).1).mono ?_); rintro e x5 ⟨rfl, hm5x⟩; have r2' := r2.ext hm5x; have r0' := r0.ext hm5x; have i0' := i0.ext hm5x; have i1' := i1.ext hm5x)
                        | (go_at_call 28; (with_reducible refine (SF L2 L _ _ _ r2' r0' (dF L2 hd2).1).mono ?_); rintro e x6 ⟨rfl, hm6x⟩; have i0'' := i0'.ext hm6x; have i1'' := i1'.ext hm6x)
                        | (go_at_call 31; (with_reducible refine (SI _ _ _ i1'' i0'').mono ?_); rintro e x7 ⟨rfl, hm7x⟩; have b7 := ((((hBk.ext hm3).ext hm4x).ext hm5x).ext hm6x).ext hm7x; have cK := b7.cell' HC.out; have z7 := ((((hZb.ext hm3).ext hm4x).ext hm5x).ext hm6x).ext hm7x; have z8 := z7.pref HZN.out (k := qk + 5) (by omega) (by omega); have T7 := ((((hTz.ext hm3).ext hm4x).ext hm5x).ext hm6x).ext hm7x; have q7 := (((((hW2.r.ext hm3).ext hm4x).ext hm5x).ext hm6x).ext hm7x).take HLJ.out.symm (k := K) (by omega) (by omega))
                        | (go_at_call 25; (with_reducible refine (S3 _ _ z8 T7).mono ?_); rintro e x8 ⟨v8, L3, rfl, hd3, hf3, hm8⟩; obtain ⟨ao8, cap8, rfl, _, _⟩ := hf3.nx (n := K) (HD.out L3 hd3).2; have cK8 := (b7.ext hm8).cell' HC.out; have q8 := q7.ext hm8; have f8 := hf3.r)
                        | (go_at_call 28; (with_reducible refine (SF L3 (L.take K) _ _ _ f8 q8 (HD.out L3 hd3).1).mono ?_); rintro e x9 ⟨rfl, hm9⟩))
          go_ret
          exact ⟨rfl, hm1.ext (((((((hMz.ext hm3).ext hm4x).ext hm5x).ext hm6x).ext hm7x).ext hm8).ext hm9)⟩
        · have y5 : (j : Int) ≤ 1 := by omega
          go_wp2_with (first
                        | (go_at_call 25; (with_reducible refine (SC _ _ hZb hTz).mono ?_); rintro e x3 ⟨v3, L1, rfl, hd1, hf1, hm3⟩; obtain ⟨ao3, cap3, rfl, _, _⟩ := hf1.nx (n := j) ((dF L1 hd1).2.2.trans HLJ.out); have hZ3 := hZb.ext hm3; have hT3 := hTz.ext hm3)
                        | (go_at_call 30; refine (TO _ _ hZ3 hT3).mono ?_; rintro e x4 ⟨v4, pv4, L2, rfl, hd2, hf2, ho2x, hn2x, hm4x⟩; obtain ⟨ao4, cap4, rfl, _, _⟩ := hf2.nx (n := j) ((dF L2 hd2).2.2.trans HLJ.out); rw [(dF L2 hd2).2.1, (dF L2 hd2).2.2, HLJ.out] at ho2x; obtain ⟨ao5, cap5, rfl, _, _⟩ := ho2x.sl.form; have r1 := hf1.r.ext hm4x; have r2 := hf2.r; have r0 := (hW2.r.ext hm3).ext hm4x; have i1 := ho2x.sl; have i0 := (hP2.sl.ext hm3).ext hm4x)
                        | (go_at_call 28; (with_reducible refine (SF L1 L _ _ _ r1 r0 (dF L1 hd1).1).mono ?_); rintro e x5 ⟨rfl, hm5x⟩; have r2' := r2.ext hm5x; have r0' := r0.ext hm5x; have i0' := i0.ext hm5x; have i1' := i1.ext hm5x)
                        | (go_at_call 28; (with_reducible refine (SF L2 L _ _ _ r2' r0' (dF L2 hd2).1).mono ?_); rintro e x6 ⟨rfl, hm6x⟩; have i0'' := i0'.ext hm6x; have i1'' := i1'.ext hm6x)
                        | (go_at_call 31; (with_reducible refine (SI _ _ _ i1'' i0'').mono ?_); rintro e x7 ⟨rfl, hm7x⟩))
          all_goals (go_ret; exact ⟨rfl, hm1.ext (((((hMz.ext hm3).ext hm4x).ext hm5x).ext hm6x).ext hm7x)⟩)
      · have y1 : (300 : Int) ≤ j := by omega
        have y2 : (j : Int) < I.length := by omega
        clear hgo hjl
        have hsm := hB.sm
        rw [HJ.out] at hsm
        have w0 : (s : Int) + j ≤ 18446744073709551615 := by omega
        obtain ⟨E, hE⟩ : ∃ E, E = (e + 1) % 18446744073709551616 := ⟨_, rfl⟩
        obtain ⟨S, hS⟩ : ∃ S, S = (s + j + 1) % 18446744073709551616 := ⟨_, rfl⟩
        have hE1 : E < 18446744073709551616 := by omega
        have hS1 : S < 18446744073709551616 := by omega
        have hEe : E ≠ e := by omega
        have hEI : (E : Int) = IntKind.u64.wrap ((e : Int) + 1) := by rw [IntKind.wrap_u64]; omega
        have hSI : (S : Int) = IntKind.u64.wrap ((s : Int) + j + 1) := by rw [IntKind.wrap_u64]; omega
        have PU := fun w v h hT => fput_any E S [] v w h hE1 hS1 hT
        unfold PutF at PU
        rw [if_neg (by decide), if_neg (by decide), hEI, hSI] at PU
        have hOl : (frame E S []).length = 22 := frame_len _ _ _
        have hrow := back_row (e := e) (s := s) ls he hB.l (by rw [HJ.out]; exact hsm) hE1 hS1 hEe
        have hpart := fun k hk => back_part (e := e) (s := s) (k := k) ls (frame E S []) he hB.l (by rw [HJ.out]; exact hsm) hk
        obtain ⟨O, hO⟩ : ∃ O, O = frame E S [] := ⟨_, rfl⟩
        rw [← hO] at PU hOl hrow
        simp only [← hO] at hpart
        have HP := Lib.hid hpart
        have HROW := Lib.hid hrow
        have HOL := Lib.hid hOl
        clear hpart hrow hOl hO hE hS hE1 hS1 hEe hEI hSI
        have hz := (Ob.nil wr).bs
        have hTx := hT1.ext hB.m
        go_wp2_with (first
                      | (with_reducible refine st_append ?_)
                      | (go_at_call 12; refine (PU _ _ hz hTx).mono ?_; rintro e x1 ⟨vo, rfl, hoo, hno, hmo⟩; obtain ⟨aoo, capo, rfl, _, _⟩ := Ob.nx hoo HOL.out))
        have hB1 := hB.ext hmo
        have hA1 := Ob.onx hB1.all HQ.out.symm
        have hS1 := Bs.onx hoo.bs HOL.out
        refine StopOp.go rfl fun K hK => ?_
        refine wp_append_ow stB (by rfl) (by rfl) hA1 hS1 (bv_one O) (by omega) (by omega) ?_
        intro vz x2 hvz hmz hbz
        simp only [put_some, List.set_cons_succ, List.set_cons_zero]
        refine hK _ _ ?_
        clear hK K
        have hZ : Ob x2 vz (catB e s ls ++ O) := Ob.of_onx (n := q + 22) (by unfold bv; rw [List.map_append]; exact hvz) (by rw [List.length_append, ← HQ.out, HOL.out])
        obtain ⟨aoz, capz, rfl, hcz1, hcz2⟩ := hvz.sl.form
        have hW2 : Frs x2 w1.heap.size (.slice aow j capw) L := hB1.fr.mod hmz (ow_far hB1.fr.ow hA1 (by decide)) (fun x hx k hk => hB1.ap x hx k hk)
        have hP2 := hB1.pl.mod hmz (ow_far hB1.pl hA1 (by decide))
        have hMz : Mod [] w1 x2 := hB1.m.fresh hmz (fun k hk => hB1.an k hk)
        have hTz := hT1.ext hMz
        have hzl : (catB e s ls ++ O).length ≤ 1099511627776 := by rw [List.length_append, ← HQ.out, HOL.out]; omega
        have hzn : (catB e s ls ++ O).length = q + 22 := by rw [List.length_append, ← HQ.out, HOL.out]
        have SC := fun w v h hT => scan_any (catB e s ls ++ O) e s v w h hzl hs he hT
        have TO := fun w v h hT => told_any (catB e s ls ++ O) e s v w h hzl hs he hT
        unfold ScanP at SC
        unfold ToldP at TO
        rw [HROW.out, rowB_end, Nat.zero_add, ← HQ.out] at SC
        rw [HROW.out] at TO
        rw [← hB.d] at SC TO
        have hPP : ((catB e s ls ++ O).take (q + 22)).length = q + 22 := by rw [List.length_take, hzn]; omega
        have SI : ∀ va vb w, Sl w 1 va j (iN (L.map Fi.p)) → Sl w 1 vb j (iN (L.map Fi.p)) → Calls Tryd.prog 31 #[va, vb] w fun e w' => e = .returned (.bool true) ∧ Mod [] w w' := fun va vb w h1 h2 => by
          have hl : (L.map Fi.p).length = j := by rw [List.length_map]; exact hn.trans HJ.out
          exact sameInts_yes _ va vb w (by rw [hl]; exact h1) (by rw [hl]; exact h2)
        have hLj : L.length = j := hn.trans HJ.out
        rw [hLj] at hP2
        have HLJ := Lib.hid hLj
        have dF : ∀ L1 : List Fi, L1.map Fi.d = L.map Fi.d → L1.map Fi.f = L.map Fi.f ∧ L1.map Fi.p = L.map Fi.p ∧ L1.length = L.length := fun L1 h => d_f h
        have SF := sameFrs_yes
        have hZb := hZ.bs
        obtain ⟨Z, hZZ⟩ : ∃ Z, Z = catB e s ls ++ O := ⟨_, rfl⟩
        rw [← hZZ] at hZb SC TO
        have HZZ := Lib.hid hZZ
        clear hZZ hPP hzl hzn hLj hZ
        by_cases hj1 : 1 < j
        · have y5 : (1 : Int) < j := by omega
          obtain ⟨K, hK⟩ : ∃ K, K = j / 2 := ⟨_, rfl⟩
          have hKI : (j : Int) / 2 = (K : Int) := by omega
          have hKj : K < ls.length := by rw [HJ.out]; omega
          obtain ⟨qk, _, hq1, hq2, hq3, hq4, hq5⟩ := HP.out K hKj
          clear hK
          have hq2' : (L.map Fi.p)[K]? = some qk := by
            have := hq2
            rw [← hB.d, List.map_map] at this
            exact this
          rw [← HQ.out] at hq3
          rw [← HZZ.out] at hq4
          have S3 := fun w v h hT => scan_any (Z.take (qk + 5)) e s v w h (by rw [List.length_take]; omega) hs he hT
          unfold ScanP at S3
          rw [hq4, hq5] at S3
          rcases Ow.blk hP2 with ⟨_, h0, _⟩ | ⟨gp, capp', restp, hep, hBk, _⟩
          · omega
          injection hep with e1 e2 e3
          subst e1 e3
          have hcK : (iN (L.map Fi.p) ++ restp)[K]? = some (.int .i64 (qk : Nat)) := by
            rw [List.getElem?_append_left (by rw [iN_len, List.length_map, HLJ.out]; omega)]
            unfold iN
            rw [List.getElem?_map, hq2']
            rfl
          have hd3' : ∀ L3 : List Fi, L3.map Fi.d = (rowB e s 0 ls).take K → L3.map Fi.f = (L.take K).map Fi.f ∧ L3.length = K := fun L3 h => by
            rw [← hB.d, ← List.map_take] at h
            have := d_f h
            exact ⟨this.1, by rw [this.2.2, List.length_take, HLJ.out]; omega⟩
          have hZn : q + 22 = Z.length := by rw [HZZ.out, List.length_append, ← HQ.out, HOL.out]
          have y6 : (qk : Int) + 5 ≤ capz := by omega
          have y7 : (K : Int) < j := by omega
          have y8 : (K : Int) ≤ capw := by omega
          have HC := Lib.hid hcK
          have HD := Lib.hid hd3'
          have HZN := Lib.hid hZn
          have hq33 : (qk : Int) + 22 ≤ q := by omega
          clear hq1 hq2 hq2' hq3 hq4 hq5 hKj hcK hd3' hZn
          go_wp2_with (first
                        | (go_at_call 25; (with_reducible refine (SC _ _ hZb hTz).mono ?_); rintro e x3 ⟨v3, L1, rfl, hd1, hf1, hm3⟩; obtain ⟨ao3, cap3, rfl, _, _⟩ := hf1.nx (n := j) ((dF L1 hd1).2.2.trans HLJ.out); have hZ3 := hZb.ext hm3; have hT3 := hTz.ext hm3)
                        | (go_at_call 30; refine (TO _ _ hZ3 hT3).mono ?_; rintro e x4 ⟨v4, pv4, L2, rfl, hd2, hf2, ho2x, hn2x, hm4x⟩; obtain ⟨ao4, cap4, rfl, _, _⟩ := hf2.nx (n := j) ((dF L2 hd2).2.2.trans HLJ.out); rw [(dF L2 hd2).2.1, (dF L2 hd2).2.2, HLJ.out] at ho2x; obtain ⟨ao5, cap5, rfl, _, _⟩ := ho2x.sl.form; have r1 := hf1.r.ext hm4x; have r2 := hf2.r; have r0 := (hW2.r.ext hm3).ext hm4x; have i1 := ho2x.sl; have i0 := (hP2.sl.ext hm3).ext hm4x)
                        | (go_at_call 28; (with_reducible refine (SF L1 L _ _ _ r1 r0 (dF L1 hd1).1).mono ?_); rintro e x5 ⟨rfl, hm5x⟩; have r2' := r2.ext hm5x; have r0' := r0.ext hm5x; have i0' := i0.ext hm5x; have i1' := i1.ext hm5x)
                        | (go_at_call 28; (with_reducible refine (SF L2 L _ _ _ r2' r0' (dF L2 hd2).1).mono ?_); rintro e x6 ⟨rfl, hm6x⟩; have i0'' := i0'.ext hm6x; have i1'' := i1'.ext hm6x)
                        | (go_at_call 31; (with_reducible refine (SI _ _ _ i1'' i0'').mono ?_); rintro e x7 ⟨rfl, hm7x⟩; have b7 := ((((hBk.ext hm3).ext hm4x).ext hm5x).ext hm6x).ext hm7x; have cK := b7.cell' HC.out; have z7 := ((((hZb.ext hm3).ext hm4x).ext hm5x).ext hm6x).ext hm7x; have z8 := z7.pref HZN.out (k := qk + 5) (by omega) (by omega); have T7 := ((((hTz.ext hm3).ext hm4x).ext hm5x).ext hm6x).ext hm7x; have q7 := (((((hW2.r.ext hm3).ext hm4x).ext hm5x).ext hm6x).ext hm7x).take HLJ.out.symm (k := K) (by omega) (by omega))
                        | (go_at_call 25; (with_reducible refine (S3 _ _ z8 T7).mono ?_); rintro e x8 ⟨v8, L3, rfl, hd3, hf3, hm8⟩; obtain ⟨ao8, cap8, rfl, _, _⟩ := hf3.nx (n := K) (HD.out L3 hd3).2; have cK8 := (b7.ext hm8).cell' HC.out; have q8 := q7.ext hm8; have f8 := hf3.r)
                        | (go_at_call 28; (with_reducible refine (SF L3 (L.take K) _ _ _ f8 q8 (HD.out L3 hd3).1).mono ?_); rintro e x9 ⟨rfl, hm9⟩))
          go_ret
          exact ⟨rfl, hm1.ext (((((((hMz.ext hm3).ext hm4x).ext hm5x).ext hm6x).ext hm7x).ext hm8).ext hm9)⟩
        · have y5 : (j : Int) ≤ 1 := by omega
          go_wp2_with (first
                        | (go_at_call 25; (with_reducible refine (SC _ _ hZb hTz).mono ?_); rintro e x3 ⟨v3, L1, rfl, hd1, hf1, hm3⟩; obtain ⟨ao3, cap3, rfl, _, _⟩ := hf1.nx (n := j) ((dF L1 hd1).2.2.trans HLJ.out); have hZ3 := hZb.ext hm3; have hT3 := hTz.ext hm3)
                        | (go_at_call 30; refine (TO _ _ hZ3 hT3).mono ?_; rintro e x4 ⟨v4, pv4, L2, rfl, hd2, hf2, ho2x, hn2x, hm4x⟩; obtain ⟨ao4, cap4, rfl, _, _⟩ := hf2.nx (n := j) ((dF L2 hd2).2.2.trans HLJ.out); rw [(dF L2 hd2).2.1, (dF L2 hd2).2.2, HLJ.out] at ho2x; obtain ⟨ao5, cap5, rfl, _, _⟩ := ho2x.sl.form; have r1 := hf1.r.ext hm4x; have r2 := hf2.r; have r0 := (hW2.r.ext hm3).ext hm4x; have i1 := ho2x.sl; have i0 := (hP2.sl.ext hm3).ext hm4x)
                        | (go_at_call 28; (with_reducible refine (SF L1 L _ _ _ r1 r0 (dF L1 hd1).1).mono ?_); rintro e x5 ⟨rfl, hm5x⟩; have r2' := r2.ext hm5x; have r0' := r0.ext hm5x; have i0' := i0.ext hm5x; have i1' := i1.ext hm5x)
                        | (go_at_call 28; (with_reducible refine (SF L2 L _ _ _ r2' r0' (dF L2 hd2).1).mono ?_); rintro e x6 ⟨rfl, hm6x⟩; have i0'' := i0'.ext hm6x; have i1'' := i1'.ext hm6x)
                        | (go_at_call 31; (with_reducible refine (SI _ _ _ i1'' i0'').mono ?_); rintro e x7 ⟨rfl, hm7x⟩))
          all_goals (go_ret; exact ⟨rfl, hm1.ext (((((hMz.ext hm3).ext hm4x).ext hm5x).ext hm6x).ext hm7x)⟩)
end Go.Proofs.YtboigcnpamldlaaDoor
