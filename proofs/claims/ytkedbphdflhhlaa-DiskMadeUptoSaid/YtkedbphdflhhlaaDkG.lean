import Derived.Test.YtkedbphdflhhlaaDkH
/-! Disks: Of, of both. -/
set_option linter.unusedVariables false
set_option linter.unusedSimpArgs false
set_option maxRecDepth 100000
namespace Go.Proofs.Ytkedbphdflhhlaa
open Go.RowKit Gw

def headL : List (List UInt8) → Nat | [] => 0 | r :: _ => r.length
def mkO (R : List (List UInt8)) : Option Dm := if mayD R.length (headL R) = true ∧ ∀ r ∈ R, r.length = headL R then some ⟨headL R, R, []⟩ else none
def oE : Option Dm → Int | some _ => 0 | none => 2
def OfD (M : Option Dm) (w : World) (e : Ending) (w' : World) : Prop := ∃ a L, e = .returned (.tuple #[.pointer a, .int .i64 (oE M)]) ∧ Ld w' (.pointer a) M L ∧ (∀ k ∈ L, w.heap.size ≤ k) ∧ Mod [] w w' ∧ (a = none ↔ M = none)
def OfR (M : Option Dm) (w : World) (e : Ending) (w' : World) : Prop := ∃ a L, e = .returned (.tuple #[.pointer a, .int .i64 (oE M)]) ∧ Lr w' (.pointer a) M L ∧ (∀ k ∈ L, w.heap.size ≤ k) ∧ Mod [] w w'
theorem mkO_ok {R : List (List UInt8)} {m : Dm} (h : mkO R = some m) : m.ok := by
  unfold mkO at h
  split at h
  · rename_i h0
    obtain ⟨h1, h2⟩ := h0
    obtain ⟨a, b, c, d⟩ := mayD_parts h1
    cases h
    refine ⟨by dsimp only; omega, by dsimp only; omega, by dsimp only; omega, by dsimp only; omega, h2, by simp⟩
  · cases h
theorem offK_all {n : Nat} {L : List (Value × List UInt8)} (h : ∀ r ∈ L.map (·.2), r.length = n) : offK n L = L.length := by
  have h0 := offK_le n L
  by_cases hk : offK n L < L.length
  · exact absurd (h _ (List.mem_map.2 ⟨_, List.getElem_mem hk, rfl⟩)) (offK_at hk)
  · omega
theorem offK_not {n : Nat} {L : List (Value × List UInt8)} (h : ¬ ∀ r ∈ L.map (·.2), r.length = n) : offK n L < L.length := by
  have h0 := offK_le n L
  by_cases hk : offK n L < L.length
  · exact hk
  · refine absurd (fun r hr => ?_) h
    obtain ⟨p, hp, rfl⟩ := List.mem_map.1 hr
    obtain ⟨i, hi, rfl⟩ := List.getElem_of_mem hp
    exact offK_lt (by omega)
theorem zero_int : (Try.prog.info? 3).map (·.zero) = some (some (.int .i64 0)) := by kernel_rfl
theorem headL_cons {L : List (Value × List UInt8)} (h : 0 < L.length) : headL (L.map (·.2)) = L[0].2.length := by
  cases L with
  | nil => simp at h
  | cons p L => rfl
theorem take_map_succ (L : List (Value × List UInt8)) (k : Nat) (h : k < L.length) : (L.map (·.2)).take k ++ [L[k].2] = (L.map (·.2)).take (k + 1) := by
  rw [List.take_add_one, List.getElem?_map, List.getElem?_eq_getElem h]
  rfl
theorem dof_nil (ao : Option Addr) (cap : Nat) (w : World) : Calls Try.prog 67 #[.slice ao 0 cap] w fun e w' => e = .returned (.tuple #[.pointer none, .int .i64 2]) ∧ w = w' := by
  go_enter Try.func67, Try.ntmps67
  go_wp2_with fail
  go_ret2
  exact ⟨rfl, rfl⟩
set_option maxHeartbeats 1000000 in
theorem dof_may (L : List (Value × List UInt8)) (v : Value) (w : World) (h : RowsR w v L) (h0 : 0 < L.length) (hm : mayD L.length (headL (L.map (·.2))) = false) : Calls Try.prog 67 #[v] w fun e w' => e = .returned (.tuple #[.pointer none, .int .i64 2]) ∧ w = w' := by
  obtain ⟨ao, cap, rfl, hc1, hc2⟩ := h.1.form
  rw [headL_cons h0] at hm
  obtain ⟨b, o, rfl, _, c1, hb1⟩ := h.at h0
  rw [Nat.add_zero] at c1
  obtain ⟨l, hl⟩ : ∃ u, u = L[0].2 := ⟨_, rfl⟩
  obtain ⟨u, hu⟩ : ∃ u, u = L[0].1 := ⟨_, rfl⟩
  rw [← hl] at hm hb1
  rw [← hu] at c1 hb1
  clear hl hu
  obtain ⟨ao1, cap1, rfl, _, _⟩ := hb1.form
  have MD := fun w => may_any L.length l.length false w hm
  have y0 : (0 : Int) < L.length := by omega
  have e0 : ((L.length : Int) == 0) = false := by rw [beq_eq_false_iff_ne]; omega
  clear hm
  go_enter Try.func67, Try.ntmps67
  go_wp2_with (go_at_call 77; (with_reducible refine (MD _).mono ?_); rintro e w1 ⟨rfl, rfl⟩)
  go_ret2
  exact ⟨rfl, rfl⟩
set_option maxRecDepth 1000000 in
set_option maxHeartbeats 4000000 in
theorem dof_more (L : List (Value × List UInt8)) (v : Value) (w : World) (h : RowsR w v L) (hm : mayD L.length (headL (L.map (·.2))) = true) : Calls Try.prog 67 #[v] w (OfD (mkO (L.map (·.2))) w) := by
  obtain ⟨p1, p2, p3, p4⟩ := mayD_parts hm
  have h0 : 0 < L.length := by omega
  obtain ⟨ao, cap, rfl, hc1, hc2⟩ := h.1.form
  have hz := headL_cons h0
  obtain ⟨z, hzz⟩ : ∃ z, z = headL (L.map (·.2)) := ⟨_, rfl⟩
  rw [← hzz] at hm hz p3 p4
  have MD := fun w => may_any L.length z true w hm
  have hM : mkO (L.map (·.2)) = if ∀ r ∈ L.map (·.2), r.length = z then some ⟨z, L.map (·.2), []⟩ else none := by
    unfold mkO
    rw [← hzz, List.length_map]
    simp only [hm, true_and]
  obtain ⟨M, hMM⟩ : ∃ M, M = mkO (L.map (·.2)) := ⟨_, rfl⟩
  rw [← hMM] at hM ⊢
  have HM := Lib.hid hM
  have HO := Lib.hid (show ∀ m, M = some m → m.ok from fun m hm => mkO_ok (hMM ▸ hm))
  clear hMM hM hzz hm
  have hel : ∀ w', Mod [] w w' → RowsR w' (.slice ao L.length cap) L := fun w' hm => h.ext hm
  obtain ⟨b, o, rfl, _, c1, hb1⟩ := h.at h0
  rw [Nat.add_zero] at c1
  obtain ⟨l, hl⟩ : ∃ u, u = L[0].2 := ⟨_, rfl⟩
  obtain ⟨u, hu⟩ : ∃ u, u = L[0].1 := ⟨_, rfl⟩
  rw [← hl] at hz hb1
  rw [← hu] at c1 hb1
  clear hl hu
  subst hz
  obtain ⟨ao1, cap1, rfl, _, _⟩ := hb1.form
  have y0 : (0 : Int) < L.length := by omega
  have e0 : ((L.length : Int) == 0) = false := by rw [beq_eq_false_iff_ne]; omega
  go_enter Try.func67, Try.ntmps67
  go_wp2_with (first
                | (with_reducible refine st_alloc ?_)
                | (go_at_call 77; (with_reducible refine (MD _).mono ?_); rintro e w1 ⟨rfl, rfl⟩))
  refine StopOp.go rfl fun K hK => ?_
  refine wp_alloc zero_int ?_
  intro q w1 hq1 hq2 hm1 hQ0
  simp only [put_some, List.set_cons_succ, List.set_cons_zero]
  refine hK _ _ ?_
  clear hK K
  go_wp2_with (with_reducible refine st_store ?_)
  refine StopOp.go rfl fun K hK => ?_
  refine wp_store1 (by kernel_rfl) (by rfl) (u := .int .i64 (l.length : Nat)) (by rfl) ⟨rfl, rfl⟩ hQ0 (by simp [Value.cells]) ?_
  intro w2 hm2 hQ2
  refine hK _ _ ?_
  clear hK K
  have hQ : Blk w2 q 3 [.int .i64 (l.length : Nat)] := hQ2
  have hM2 := hm1.fresh hm2 (by simpa using hq1)
  clear hQ0 hQ2 hm1 hm2 c1
  by_cases hall : ∀ r ∈ L.map (·.2), r.length = l.length
  · have CN := fun w h hq => cont_any L (.slice (some ⟨b, o, none⟩) L.length cap) q l.length false w h hq (by rw [offK_all hall, decide_eq_false (by omega)])
    have h2 := hel w2 hM2
    rw [if_pos hall] at HM
    have HMM := Lib.hid HM.out
    clear HM
    go_wp2_with (first | (go_at_call 97; (with_reducible refine (CN _ h2 hQ).mono ?_); rintro e w3 ⟨rfl, hm3⟩; have hQ3 := hQ.ext hm3; have q0 := hQ3.cell' (i := 0) rfl) | (with_reducible refine st_makeMap ?_))
    refine StopOp.go rfl fun K hK => ?_
    refine wp_makeMap ?_
    intro m w4 hm41 hm42 hmm hM1
    simp only [put_some, List.set_cons_succ, List.set_cons_zero]
    refine hK _ _ ?_
    clear hK K
    go_wp2_with (with_reducible refine st_box ?_)
    refine StopOp.go rfl fun K hK => ?_
    refine wp_box (v := .agg #[.int .i64 (l.length : Nat), .slice none 0 0, .slice none 0 0, .map (some m)]) (by rfl) ?_
    intro p w5 hp1 hp2 hmp hB2
    simp only [put_some, List.set_cons_succ, List.set_cons_zero]
    refine hK _ _ ?_
    clear hK K
    have hDk : DkB w5 p l.length (.slice none 0 0) (.slice none 0 0) m [] [] := ⟨hB2, Ow.nil _ _ _, Ow.nil _ _ _, hM1.ext hmp, Fam.nil _ _⟩
    have hM5 := ((hM2.ext hm3).ext hmm).ext hmp
    have hfp : ∀ k ∈ fpD p (.slice none 0 0) (.slice none 0 0) m [] [], w.heap.size ≤ k := by
      intro k hk
      have := hM2.size
      have := hm3.size
      have := hmm.size
      simp [fpD, blks] at hk
      omega
    clear hB2 hM1 hmm hmp hQ hQ3 q0 hm3 hM2 h2 CN
    go_wp2_with fail
    go_loopw [34] (fun i wr => ∃ (k : Nat) (D : Value) (dp : List (Value × List UInt8)), k ≤ L.length ∧ i = .int .i64 k ∧ DkB wr p l.length D (.slice none 0 0) m dp [] ∧ dp.map (·.2) = (L.map (·.2)).take k ∧ (∀ k ∈ fpD p D (.slice none 0 0) m dp [], w.heap.size ≤ k) ∧ Mod [] w wr) (fun i _ => L.length - (intOf i).toNat)
    case atStart => exact ⟨0, _, [], by omega, rfl, hDk, rfl, hfp, hM5⟩
    case round =>
      obtain ⟨k, D, dp, hk, rfl, hB, hdp, hf, hMr⟩ := hrel
      by_cases hlt : k < L.length
      · obtain ⟨aoD, capD, rfl, hcD, _⟩ := hB.dur.sl.form
        have hdl : dp.length = k := by have := congrArg List.length hdp; simp at this; omega
        have y1 : (k : Int) < L.length := by omega
        have HDP := Lib.hid hdp
        have HDL := Lib.hid hdl
        clear hdp hdl
        obtain ⟨b', o', he, _, ck, hbk⟩ := (hel wr hMr).at hlt
        injection he with he
        injection he with e1 e2
        subst e1 e2
        have hrk : (L[k]).2.length = l.length := hall _ (List.mem_map.2 ⟨_, List.getElem_mem hlt, rfl⟩)
        obtain ⟨r, hr⟩ : ∃ u, u = L[k].2 := ⟨_, rfl⟩
        obtain ⟨u, hu⟩ : ∃ u, u = L[k].1 := ⟨_, rfl⟩
        rw [← hr] at hrk hbk
        rw [← hu] at ck hbk
        have HR := Lib.hid hr
        have hr1 : 0 < r.length := by omega
        have hr2 : r.length ≤ 4096 := by omega
        clear hr hu hrk
        obtain ⟨aok, capk, rfl, _, _⟩ := hbk.form
        go_wp2_with fail
        refine wp_region_T [⟨0, true, []⟩, ⟨1, true, []⟩, ⟨2, true, []⟩, ⟨3, true, []⟩, ⟨4, true, []⟩, ⟨5, true, []⟩, ⟨6, false, [2, 4]⟩, ⟨7, false, [2, 4]⟩, ⟨8, false, []⟩, ⟨9, true, []⟩, ⟨10, true, []⟩, ⟨11, false, []⟩] (by kernel_rfl) (by kernel_rfl) ?_
        have hm0 : Mod [] wr wr.drew := Mod.drew [] _
        have hB0 := hB.ext hm0
        have hb0 := hbk.ext hm0
        obtain ⟨w0, hw0⟩ : ∃ x, x = wr.drew := ⟨_, rfl⟩
        rw [← hw0] at hB0 hm0 hb0 ⊢
        clear hw0 ck
        have c1 := hB0.blk.cell' (i := 1) rfl
        iterate 6 (refine wpT_n rfl rfl (fun K hK => ?_); go_wp2_with fail)
        refine wpT_callh rfl rfl (fun K hK => ?_)
        go_wp2_with (go_at_call 79; (with_reducible refine (bclone_any r _ _ hb0 (by omega) (by omega)).mono ?_); rintro e x1 ⟨u1, rfl, hob1, hn1, hmx1⟩)
        refine ⟨agains_cons rfl (again_const (fun _ => rfl)) (agains_cons rfl (again_load rfl rfl (hmx1.block p hB0.blk.lt (by simp)) hB0.blk.kinds) agains_nil), ?_⟩
        obtain ⟨aou, capu, rfl, _, _⟩ := hob1.sl.form
        refine wpT_e rfl rfl (fun K hK => ?_)
        refine wp_bslice stDR [.slice aou r.length capu] rfl (by decide) (by rfl) (by simp [Value.cells]) ?_
        intro q' x2 hq1' hq2' hmx2 hBx2
        simp only [put_some, List.set_cons_succ, List.set_cons_zero]
        have hB1 := hB0.ext hmx1
        refine hK _ _ ⟨agains_cons rfl (again_const (fun _ => rfl)) (agains_cons rfl (again_load rfl rfl (hmx2.block p hB1.blk.lt (by simp)) hB1.blk.kinds) agains_nil), ?_⟩
        clear hK K
        have hS2 : Sl x2 1 (.slice (some ⟨q', 0, none⟩) 1 1) 1 [.slice aou r.length capu] := (Ow.of_blk (rest := []) hBx2 (Nat.le_refl _) (by omega) rfl rfl : Ow x2 23 1 (.slice (some ⟨q', 0, none⟩) 1 1) 1 [.slice aou r.length capu]).sl
        have hB2 := hB1.ext hmx2
        refine wpT_e0 rfl rfl (fun K hK => ?_)
        refine wp_append_ow stDR (by rfl) (by rfl) hB2.dur hS2 (by simp [Value.oneCell']) (by have := HDL.out; omega) (by have := HDL.out; omega) ?_
        intro D4 x4 hD4 hmx4 hb4
        simp only [put_some, List.set_cons_succ, List.set_cons_zero]
        refine hK _ _ ?_
        clear hK K
        have hp4 : Blk x4 p 110 _ := hB2.blk.mod hmx4 (Ow.ne hB2.dur hB2.blk (by decide))
        iterate 2 (refine wpT_n rfl rfl (fun K hK => ?_); go_wp2_with fail)
        refine wpT_e0 rfl rfl (fun K hK => ?_)
        refine wp_store1 (by kernel_rfl) (by rfl) (by rfl) hD4.sl.one hp4 (by simp) ?_
        intro x5 hmx5 hBx5
        refine hK _ _ ?_
        clear hK K
        have hfin := hB0.sector (hmx1.ext hmx2) (hob1.ext hmx2) hn1 hD4 hmx4 hb4 hmx5 (by simpa using hBx5)
        have hs0 := hMr.size
        have hs1 := hm0.size
        have hM5 : Mod [] w x5 := (hMr.ext hm0).fresh hfin.2.2 hf
        refine wpT_nil ?_
        go_wp2_with fail
        go_roundw
        case rel => exact ⟨k + 1, D4, _, by omega, by go_num, hfin.1, by rw [List.map_append, HDP.out, List.map_cons, List.map_nil, HR.out]; exact take_map_succ L k hlt, fun q hq => (hfin.2.1 q hq).elim (hf q) (fun h => by omega), hM5⟩
        case measure => simp [intOf]; omega
      · obtain rfl : k = L.length := by omega
        have hdm : dp.map (·.2) = L.map (·.2) := by rw [hdp, List.take_of_length_le (by simp)]
        go_wp2_with fail
        go_ret2
        refine ⟨some ⟨p, 0, none⟩, fpD p D (.slice none 0 0) m dp [], ?_, ?_, hf, hMr, ?_⟩
        · rw [HMM.out]; rfl
        · have ho := HO.out _ HMM.out
          rw [HMM.out]
          exact ⟨p, rfl, ⟨_, _, _, _, _, hB, by unfold Dm.of; rw [hdm]; rfl, rfl⟩, ho⟩
        · rw [HMM.out]; simp
  · have CN := fun w h hq => cont_any L (.slice (some ⟨b, o, none⟩) L.length cap) q l.length true w h hq (by rw [decide_eq_true (offK_not hall)])
    have h2 := hel w2 hM2
    rw [if_neg hall] at HM
    have HMM := Lib.hid HM.out
    clear HM
    go_wp2_with (go_at_call 97; (with_reducible refine (CN _ h2 hQ).mono ?_); rintro e w3 ⟨rfl, hm3⟩)
    go_ret2
    rw [HMM.out]
    exact ⟨none, [], rfl, ⟨.inl rfl, by simp [blks]⟩, by simp, hM2.ext hm3, by simp⟩
theorem dof_any (L : List (Value × List UInt8)) (v : Value) (w : World) (h : RowsR w v L) : Calls Try.prog 67 #[v] w (OfD (mkO (L.map (·.2))) w) := by
  cases hm : mayD L.length (headL (L.map (·.2))) with
  | true => exact dof_more L v w h hm
  | false =>
    have hM : mkO (L.map (·.2)) = none := by unfold mkO; rw [if_neg]; intro hh; rw [List.length_map] at hh; rw [hm] at hh; exact Bool.noConfusion hh.1
    rw [hM]
    by_cases h0 : 0 < L.length
    · exact (dof_may L v w h h0 hm).mono fun e w' ⟨he, hw⟩ => ⟨none, [], he, ⟨.inl rfl, by simp [blks]⟩, by simp, hw ▸ Mod.refl _ _, by simp⟩
    · obtain ⟨ao, cap, rfl, _, _⟩ := h.1.form
      rw [show L.length = 0 by omega]
      exact (dof_nil ao cap w).mono fun e w' ⟨he, hw⟩ => ⟨none, [], he, ⟨.inl rfl, by simp [blks]⟩, by simp, hw ▸ Mod.refl _ _, by simp⟩
end Go.Proofs.Ytkedbphdflhhlaa
