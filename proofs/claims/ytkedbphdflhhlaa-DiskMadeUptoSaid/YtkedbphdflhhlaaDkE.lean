import Derived.Test.YtkedbphdflhhlaaDkG
/-! Disks: the reference's Of. -/
set_option linter.unusedVariables false
set_option linter.unusedSimpArgs false
set_option maxRecDepth 100000
namespace Go.Proofs.Ytkedbphdflhhlaa
open Go.RowKit Gw

theorem rof_nil (ao : Option Addr) (cap : Nat) (w : World) : Calls Try.prog 68 #[.slice ao 0 cap] w (OfR none w) := by
  go_enter Try.func68, Try.ntmps68
  go_wp2_with (with_reducible refine st_box ?_)
  refine StopOp.go rfl fun K hK => ?_
  refine wp_box (v := .agg #[.slice none 0 0, .slice none 0 0]) (by rfl) ?_
  intro p w2 hp1 hp2 hmp hB2
  simp only [put_some, List.set_cons_succ, List.set_cons_zero]
  refine hK _ _ ?_
  clear hK K
  go_wp2_with fail
  go_ret2
  exact ⟨some ⟨p, 0, none⟩, [p], rfl, ⟨⟨p, rfl, hB2⟩, by simp [blks]⟩, by simpa using hp1, hmp⟩
set_option maxHeartbeats 1000000 in
theorem rof_may (L : List (Value × List UInt8)) (v : Value) (w : World) (h : RowsR w v L) (h0 : 0 < L.length) (hm : mayD L.length (headL (L.map (·.2))) = false) : Calls Try.prog 68 #[v] w (OfR none w) := by
  obtain ⟨ao, cap, rfl, hc1, hc2⟩ := h.1.form
  rw [headL_cons h0] at hm
  have hel : ∀ w', Mod [] w w' → RowsR w' (.slice ao L.length cap) L := fun w' hm => h.ext hm
  have MD := fun w => rmay_any L.length L[0].2.length false w hm
  have y0 : (0 : Int) < L.length := by omega
  have e0 : ((L.length : Int) == 0) = false := by rw [beq_eq_false_iff_ne]; omega
  clear hm
  go_enter Try.func68, Try.ntmps68
  go_wp2_with (with_reducible refine st_box ?_)
  refine StopOp.go rfl fun K hK => ?_
  refine wp_box (v := .agg #[.slice none 0 0, .slice none 0 0]) (by rfl) ?_
  intro p w2 hp1 hp2 hmp hB2
  simp only [put_some, List.set_cons_succ, List.set_cons_zero]
  refine hK _ _ ?_
  clear hK K
  obtain ⟨b, o, rfl, _, c1, hb1⟩ := (hel w2 hmp).at h0
  rw [Nat.add_zero] at c1
  obtain ⟨l, hl⟩ : ∃ u, u = L[0].2 := ⟨_, rfl⟩
  obtain ⟨u, hu⟩ : ∃ u, u = L[0].1 := ⟨_, rfl⟩
  rw [← hl] at hb1 MD
  rw [← hu] at c1 hb1
  clear hl hu
  obtain ⟨ao1, cap1, rfl, _, _⟩ := hb1.form
  go_wp2_with (go_at_call 59; (with_reducible refine (MD _).mono ?_); rintro e w1 ⟨rfl, rfl⟩)
  go_ret2
  exact ⟨some ⟨p, 0, none⟩, [p], rfl, ⟨⟨p, rfl, hB2⟩, by simp [blks]⟩, by simpa using hp1, hmp⟩
set_option maxRecDepth 1000000 in
set_option maxHeartbeats 4000000 in
theorem rof_more (L : List (Value × List UInt8)) (v : Value) (w : World) (h : RowsR w v L) (hm : mayD L.length (headL (L.map (·.2))) = true) : Calls Try.prog 68 #[v] w (OfR (mkO (L.map (·.2))) w) := by
  obtain ⟨p1, p2, p3, p4⟩ := mayD_parts hm
  have h0 : 0 < L.length := by omega
  obtain ⟨ao, cap, rfl, hc1, hc2⟩ := h.1.form
  have hz := headL_cons h0
  obtain ⟨z, hzz⟩ : ∃ z, z = headL (L.map (·.2)) := ⟨_, rfl⟩
  rw [← hzz] at hm hz p3 p4
  have MD := fun w => rmay_any L.length z true w hm
  have hM : mkO (L.map (·.2)) = if ∀ r ∈ L.map (·.2), r.length = z then some ⟨z, L.map (·.2), []⟩ else none := by
    unfold mkO
    rw [← hzz, List.length_map]
    simp only [hm, true_and]
  obtain ⟨M, hMM⟩ : ∃ M, M = mkO (L.map (·.2)) := ⟨_, rfl⟩
  rw [← hMM] at hM ⊢
  have HM := Lib.hid hM
  have HO := Lib.hid (show ∀ m, M = some m → m.ok from fun m hm => mkO_ok (hMM ▸ hm))
  clear hMM hM hzz hm
  have hel : ∀ w', Mod [] w w' → RowsR w' (.slice ao L.length cap) L := fun w' hm => h.ext hm
  obtain ⟨b, o, rfl, _, c1, hb1⟩ := h.at h0
  rw [Nat.add_zero] at c1
  obtain ⟨l, hl⟩ : ∃ u, u = L[0].2 := ⟨_, rfl⟩
  obtain ⟨u, hu⟩ : ∃ u, u = L[0].1 := ⟨_, rfl⟩
  rw [← hl] at hz hb1
  rw [← hu] at c1 hb1
  have HU := Lib.hid hu
  clear hu hl
  subst hz
  obtain ⟨ao1, cap1, rfl, _, _⟩ := hb1.form
  have hc0 : ∀ w', Mod [] w w' → w'.cell? ⟨b, o, none⟩ = some (.slice ao1 l.length cap1) := fun w' hm => by
    obtain ⟨b', o', he, _, c1', _⟩ := (hel w' hm).at h0
    injection he with he
    injection he with e1 e2
    subst e1 e2
    rw [HU.out]
    exact c1'
  clear c1 hb1
  have y0 : (0 : Int) < L.length := by omega
  have e0 : ((L.length : Int) == 0) = false := by rw [beq_eq_false_iff_ne]; omega
  have hK1 : ∀ j (hj : j < L.length), j < offK l.length L → L[j].2.length = l.length := fun j _ hj => offK_lt hj
  have hK2 : ∀ j (hj : j < L.length), j = offK l.length L → L[j].2.length ≠ l.length := fun j hj he => by subst he; exact offK_at hj
  have hK0 := offK_le l.length L
  have HK3 := Lib.hid (show (∀ r ∈ L.map (·.2), r.length = l.length) ↔ offK l.length L = L.length from ⟨offK_all, fun he => by
    rcases Classical.em (∀ r ∈ L.map (·.2), r.length = l.length) with h1 | h1
    · exact h1
    · have := offK_not h1; omega⟩)
  obtain ⟨N, hN⟩ : ∃ N, N = offK l.length L := ⟨_, rfl⟩
  simp only [← hN] at hK1 hK2 hK0 HK3
  clear hN
  have HK1 := Lib.hid hK1
  have HK2 := Lib.hid hK2
  clear hK1 hK2
  go_enter Try.func68, Try.ntmps68
  go_wp2_with (with_reducible refine st_box ?_)
  refine StopOp.go rfl fun K hK => ?_
  refine wp_box (v := .agg #[.slice none 0 0, .slice none 0 0]) (by rfl) ?_
  intro p w2 hp1 hp2 hmp hB2
  simp only [put_some, List.set_cons_succ, List.set_cons_zero]
  refine hK _ _ ?_
  clear hK K
  have hDk : RkB w2 p (.slice none 0 0) (.slice none 0 0) [] [] := ⟨hB2, Ow.nil _ _ _, Ow.nil _ _ _, Fam.nil _ _⟩
  have hfp : ∀ k ∈ fpR p (.slice none 0 0) (.slice none 0 0) [] [], w.heap.size ≤ k := by
    intro k hk
    simp [fpR, blks] at hk
    omega
  have c2 := hc0 w2 hmp
  clear hB2
  go_wp2_with (go_at_call 59; (with_reducible refine (MD _).mono ?_); rintro e w3 ⟨rfl, rfl⟩)
  clear c2
  go_loopw [5] (fun i wr => ∃ (k : Nat) (D : Value) (dp : List (Value × List UInt8)), k ≤ N ∧ i = .int .i64 k ∧ RkB wr p D (.slice none 0 0) dp [] ∧ dp.map (·.2) = (L.map (·.2)).take k ∧ (∀ k ∈ fpR p D (.slice none 0 0) dp [], w.heap.size ≤ k) ∧ Mod [] w wr) (fun i _ => N - (intOf i).toNat)
  case atStart => exact ⟨0, _, [], by omega, rfl, hDk, rfl, hfp, hmp⟩
  case round =>
    obtain ⟨k, D, dp, hk, rfl, hB, hdp, hf, hMr⟩ := hrel
    by_cases hlt : k < L.length
    · obtain ⟨aoD, capD, rfl, hcD, _⟩ := hB.dur.sl.form
      have hdl : dp.length = k := by have := congrArg List.length hdp; simp at this; omega
      have y1 : (k : Int) < L.length := by omega
      have HDP := Lib.hid hdp
      have HDL := Lib.hid hdl
      clear hdp hdl
      have hck : ∀ w', Mod [] w w' → w'.cell? ⟨b, o + k, none⟩ = some L[k].1 ∧ Bs w' L[k].1 L[k].2 := fun w' hm => by
        obtain ⟨b', o', he, _, c1', hb'⟩ := (hel w' hm).at hlt
        injection he with he
        injection he with e1 e2
        subst e1 e2
        exact ⟨c1', hb'⟩
      have hrk := HK1.out k hlt
      have hrN := HK2.out k hlt
      obtain ⟨r, hr⟩ : ∃ u, u = L[k].2 := ⟨_, rfl⟩
      obtain ⟨u, hu⟩ : ∃ u, u = L[k].1 := ⟨_, rfl⟩
      rw [← hu, ← hr] at hck
      have HR := Lib.hid hr
      have hm0 : Mod [] wr wr.drew := Mod.drew [] _
      obtain ⟨w0, hw0⟩ : ∃ x, x = wr.drew := ⟨_, rfl⟩
      rw [← hw0] at hm0
      have hMr0 := hMr.ext hm0
      obtain ⟨ck, hbk⟩ := hck w0 hMr0
      obtain ⟨aok, capk, rfl, _, _⟩ := hbk.form
      have c0 := hc0 w0 hMr0
      go_wp2_with fail
      refine wp_region_T [⟨0, true, []⟩, ⟨1, true, []⟩, ⟨2, true, []⟩, ⟨3, true, []⟩, ⟨4, true, []⟩, ⟨5, true, []⟩, ⟨6, true, []⟩, ⟨7, true, []⟩, ⟨8, true, []⟩, ⟨9, true, []⟩] (by kernel_rfl) (by kernel_rfl) ?_
      rw [← hw0]
      by_cases hkN : k < N
      · have hrl : r.length = l.length := by rw [hr]; exact hrk hkN
        rw [hrl] at ck hbk hck
        clear hw0 hr hu hrk hrN
        iterate 10 (refine wpT_n rfl rfl (fun K hK => ?_); go_wp2_with fail)
        refine wpT_nil ?_
        go_wp2_with fail
        refine wp_region_T [⟨0, true, []⟩, ⟨1, true, []⟩, ⟨2, true, []⟩, ⟨3, true, []⟩, ⟨4, true, []⟩, ⟨5, true, []⟩, ⟨6, true, []⟩, ⟨7, true, []⟩, ⟨8, true, []⟩, ⟨9, false, [2, 4]⟩, ⟨10, false, [2, 4]⟩, ⟨11, false, []⟩, ⟨12, true, []⟩, ⟨13, true, []⟩, ⟨14, false, []⟩] (by kernel_rfl) (by kernel_rfl) ?_
        have hm00 : Mod [] w0 w0.drew := Mod.drew [] _
        have hB0 := (hB.ext hm0).ext hm00
        have hMr1 := hMr0.ext hm00
        obtain ⟨w00, hw00⟩ : ∃ x, x = w0.drew := ⟨_, rfl⟩
        rw [← hw00] at hB0 hMr1 hm00 ⊢
        clear hw00 ck hbk c0
        obtain ⟨ck, hbk⟩ := hck w00 hMr1
        have hbk' : Bs w00 (.slice aok r.length capk) r := by rw [hrl]; exact hbk
        have c1 := hB0.blk.cell' (i := 0) rfl
        iterate 9 (refine wpT_n rfl rfl (fun K hK => ?_); go_wp2_with fail)
        refine wpT_callh rfl rfl (fun K hK => ?_)
        have TW := twin_any r (.slice aok r.length capk) w00 hbk' (by omega)
        rw [hrl] at TW
        go_wp2_with (go_at_call 96; (with_reducible refine TW.mono ?_); rintro e x1 ⟨u1, rfl, hob1, hn1, hmx1⟩)
        refine ⟨agains_cons rfl (again_const (fun _ => rfl)) (agains_cons rfl (again_load rfl rfl (hmx1.block p hB0.blk.lt (by simp)) hB0.blk.kinds) agains_nil), ?_⟩
        obtain ⟨aou, capu, rfl, _, _⟩ := hob1.sl.form
        refine wpT_e rfl rfl (fun K hK => ?_)
        refine wp_bslice stDR [.slice aou r.length capu] rfl (by decide) (by rfl) (by simp [Value.cells]) ?_
        intro q' x2 hq1' hq2' hmx2 hBx2
        simp only [put_some, List.set_cons_succ, List.set_cons_zero]
        have hB1 := hB0.ext hmx1
        refine hK _ _ ⟨agains_cons rfl (again_const (fun _ => rfl)) (agains_cons rfl (again_load rfl rfl (hmx2.block p hB1.blk.lt (by simp)) hB1.blk.kinds) agains_nil), ?_⟩
        clear hK K
        have hS2 : Sl x2 1 (.slice (some ⟨q', 0, none⟩) 1 1) 1 [.slice aou r.length capu] := (Ow.of_blk (rest := []) hBx2 (Nat.le_refl _) (by omega) rfl rfl : Ow x2 23 1 (.slice (some ⟨q', 0, none⟩) 1 1) 1 [.slice aou r.length capu]).sl
        have hB2 := hB1.ext hmx2
        refine wpT_e0 rfl rfl (fun K hK => ?_)
        refine wp_append_ow stDR (by rfl) (by rfl) hB2.dur hS2 (by simp [Value.oneCell']) (by have := HDL.out; omega) (by have := HDL.out; omega) ?_
        intro D4 x4 hD4 hmx4 hb4
        simp only [put_some, List.set_cons_succ, List.set_cons_zero]
        refine hK _ _ ?_
        clear hK K
        have hp4 : Blk x4 p 106 _ := hB2.blk.mod hmx4 (Ow.ne hB2.dur hB2.blk (by decide))
        iterate 2 (refine wpT_n rfl rfl (fun K hK => ?_); go_wp2_with fail)
        refine wpT_e0 rfl rfl (fun K hK => ?_)
        refine wp_store1 (by kernel_rfl) (by rfl) (by rfl) hD4.sl.one hp4 (by simp) ?_
        intro x5 hmx5 hBx5
        refine hK _ _ ?_
        clear hK K
        have hfin := hB0.sector (hmx1.ext hmx2) (hob1.ext hmx2) hn1 hD4 hmx4 hb4 hmx5 (by simpa using hBx5)
        have hs0 := hMr1.size
        have hM5 : Mod [] w x5 := hMr1.fresh hfin.2.2 hf
        refine wpT_nil ?_
        go_wp2_with fail
        go_roundw
        case rel => exact ⟨k + 1, D4, _, by omega, by go_num, hfin.1, by rw [List.map_append, HDP.out, List.map_cons, List.map_nil, HR.out]; exact take_map_succ L k hlt, fun q hq => (hfin.2.1 q hq).elim (hf q) (fun h => by omega), hM5⟩
        case measure => simp [intOf]; omega
      · obtain rfl : N = k := by omega
        have hrl : r.length ≠ l.length := by rw [hr]; exact hrN rfl
        have e9 : ((r.length : Int) != (l.length : Int)) = true := by rw [bne_iff_ne]; omega
        have hMN : M = none := by rw [HM.out, if_neg (fun hh => by have := HK3.out.1 hh; omega)]
        have HMN := Lib.hid hMN
        clear hMN hw0 hr hu hrk hrN
        iterate 10 (refine wpT_n rfl rfl (fun K hK => ?_); go_wp2_with fail)
        refine wpT_nil ?_
        go_wp2_with (with_reducible refine st_box ?_)
        refine StopOp.go rfl fun K hK => ?_
        refine wp_box (v := .agg #[.slice none 0 0, .slice none 0 0]) (by rfl) ?_
        intro p' w5 hp1' hp2' hmp' hB5
        simp only [put_some, List.set_cons_succ, List.set_cons_zero]
        refine hK _ _ ?_
        clear hK K
        go_wp2_with fail
        go_ret2
        rw [HMN.out]
        have := hMr0.size
        exact ⟨some ⟨p', 0, none⟩, [p'], rfl, ⟨⟨p', rfl, hB5⟩, by simp [blks]⟩, by simp; omega, hMr0.ext hmp'⟩
    · have hNL : N = L.length := by omega
      obtain rfl : k = L.length := by omega
      have hdm : dp.map (·.2) = L.map (·.2) := by rw [hdp, List.take_of_length_le (by simp)]
      have hMS : M = some ⟨l.length, L.map (·.2), []⟩ := by rw [HM.out, if_pos (HK3.out.2 hNL)]
      have HMM := Lib.hid hMS
      have HDM := Lib.hid hdm
      clear hMS hdm hdp hNL
      go_wp2_with fail
      go_ret2
      refine ⟨some ⟨p, 0, none⟩, fpR p D (.slice none 0 0) dp [], ?_, ?_, hf, hMr⟩
      · rw [HMM.out]; rfl
      · have ho := HO.out _ HMM.out
        rw [HMM.out]
        exact ⟨p, rfl, ⟨_, _, _, _, hB, by unfold Dm.of; rw [HDM.out]; rfl, rfl⟩, ho⟩
theorem rof_any (L : List (Value × List UInt8)) (v : Value) (w : World) (h : RowsR w v L) : Calls Try.prog 68 #[v] w (OfR (mkO (L.map (·.2))) w) := by
  cases hm : mayD L.length (headL (L.map (·.2))) with
  | true => exact rof_more L v w h hm
  | false =>
    have hM : mkO (L.map (·.2)) = none := by unfold mkO; rw [if_neg]; intro hh; rw [List.length_map] at hh; rw [hm] at hh; exact Bool.noConfusion hh.1
    rw [hM]
    by_cases h0 : 0 < L.length
    · exact rof_may L v w h h0 hm
    · obtain ⟨ao, cap, rfl, _, _⟩ := h.1.form
      rw [show L.length = 0 by omega]
      exact rof_nil ao cap w
end Go.Proofs.Ytkedbphdflhhlaa
