import Derived.Test.YtkedbphdflhhlaaRkS
/-! The reference's disks: Sync, Copy. -/
set_option linter.unusedVariables false
set_option linter.unusedSimpArgs false
set_option maxRecDepth 100000
namespace Go.Proofs.Ytkedbphdflhhlaa
open Go.RowKit Gw

theorem fcells_app (A B : List (Int × Int)) : fcells (A ++ B) = fcells A ++ fcells B := by unfold fcells; rw [List.flatMap_append]
theorem crash_keep {m : Dm} {n : Nat} (hn : m.row.length = n) : m.crash (List.replicate n (1, 0)) = m.sync := by
  unfold Dm.crash Dm.sync Dm.settle
  rw [settleD_congr (g' := fun _ => m.sz) fun i hi => ?_]
  unfold fateK clampN
  rw [List.getElem?_replicate, if_pos (by omega)]
  simp
set_option maxHeartbeats 2000000 in
theorem rsync_any (p : Nat) (m : Dm) (L : List Nat) (w : World) (h : Rk w p m L) (hok : m.ok) (hr : m.row.length ≤ 100000000) :
    Calls Try.prog 90 #[.pointer (some ⟨p, 0, none⟩)] w fun e w' => e = .returned (.int .i64 0) ∧ RkPost w p m.sync L w' := by
  have CR := fun w' fv hm hF hFL => rcrash_any p m L (List.replicate m.row.length (1, 0)) fv w' (h.ext hm) hok (by omega) hF hFL
  rw [crash_keep rfl] at CR
  have hlt := h.lt
  obtain ⟨D, R, hB, _, aoR, capR, rfl, hcR⟩ := h.blk
  obtain ⟨n, hn⟩ : ∃ n, n = m.row.length := ⟨_, rfl⟩
  rw [← hn] at CR hB hcR hr
  obtain ⟨S, hS⟩ : ∃ S, S = m.sync := ⟨_, rfl⟩
  rw [← hS] at CR ⊢
  clear h hok hn hS
  go_enter Try.func90, Try.ntmps90
  go_wp2_with fail
  go_loopw [3, 4] (fun o i wr => ∃ k : Nat, k ≤ n ∧ i = .int .i64 k ∧ Ow wr 54 2 o k (fcells (List.replicate k (1, 0))) ∧ (∀ b ∈ blks o, w.heap.size ≤ b) ∧ Mod [] w wr) (fun _ i _ => n - (intOf i).toNat)
  case atStart => exact ⟨0, by omega, rfl, Ow.nil _ _ _, by simp [blks], Mod.refl _ _⟩
  case round =>
    obtain ⟨k, hk, rfl, hO, hN, hM⟩ := hrel
    have hBr := hB.ext hM
    have c1 := hBr.cell' (i := 1) rfl
    obtain ⟨aoo, capo, rfl, hco, _⟩ := hO.sl.form
    by_cases hlt2 : k < n
    · have y0 : (k : Int) < n := by omega
      go_wp2_with (with_reducible refine st_bslice ?_)
      refine StopOp.go rfl fun K hK => ?_
      refine wp_bslice stF [.agg #[.int .i64 1, .int .i64 0]] rfl (by decide) (by rfl) (by simp [Value.cells]) ?_
      intro g w3 hg1 hg2 hm3 hB3
      simp only [put_some, List.set_cons_succ, List.set_cons_zero]
      refine hK _ _ ?_
      clear hK K
      have hS3 : Sl w3 2 (.slice (some ⟨g, 0, none⟩) 1 1) 1 [.int .i64 1, .int .i64 0] := (Ow.of_blk (rest := []) hB3 (Nat.le_refl _) (by omega) rfl rfl : Ow w3 54 2 (.slice (some ⟨g, 0, none⟩) 1 1) 1 [.int .i64 1, .int .i64 0]).sl
      go_wp2_with (with_reducible refine st_append ?_)
      refine StopOp.go rfl fun K hK => ?_
      refine wp_append_ow stF (by rfl) (by rfl) (hO.ext hm3) hS3 (by simp [Value.oneCell']) (by omega) (by omega) ?_
      intro v4 w4 ho4 hm4 hb4
      simp only [put_some, List.set_cons_succ, List.set_cons_zero]
      refine hK _ _ ?_
      clear hK K
      have hM4 : Mod [] w w4 := (hM.ext hm3).fresh hm4 hN
      have hs3 := (hM.ext hm3).size
      have hO4 : Ow w4 54 2 v4 (k + 1) (fcells (List.replicate (k + 1) (1, 0))) := by rw [List.replicate_succ', fcells_app]; exact ho4
      obtain ⟨ao4, cap4, rfl, _, _⟩ := ho4.sl.form
      go_wp2_with fail
      go_roundw
      case rel => exact ⟨k + 1, by omega, by go_num, hO4, fun b hb => (hb4 b hb).elim (hN b) (fun h => by omega), hM4⟩
      case measure => simp [intOf]; omega
    · obtain rfl : n = k := by omega
      have hF : Fs wr (.slice aoo n capo) (List.replicate n (1, 0)) := by
        unfold Fs
        rw [List.length_replicate]
        exact hO.sl
      have hFL : ∀ b ∈ blks (.slice aoo n capo), b ∉ L := fun b hb hh => by have := hN b hb; have := hlt b hh; omega
      go_wp2_with (go_at_call 94; (with_reducible refine (CR _ _ hM hF (fun _ => hFL)).mono ?_); rintro e w5 ⟨rfl, L5, hR5, hm5, hL5⟩)
      go_ret
      exact ⟨rfl, L5, hR5, (hM.weak (by simp)).trans hm5, fun q hq => (hL5 q hq).imp id fun h => Nat.le_trans hM.size h⟩
theorem rsync_no (v : Value) (w : World) (h : NoRk w v) : Calls Try.prog 90 #[v] w fun e w' => e = .returned (.int .i64 1) ∧ w = w' := by
  have C := fun fv => rcrash_no v fv w h
  obtain ⟨p, rfl, hB⟩ := h
  have c1 := hB.cell' (i := 1) rfl
  clear hB
  go_enter Try.func90, Try.ntmps90
  go_wp2_with fail
  go_loopw [3, 4] (fun o i wr => w = wr ∧ o = .slice none 0 0 ∧ i = .int .i64 0) (fun _ i _ => 0)
  case atStart => exact ⟨rfl, rfl, rfl⟩
  case round =>
    obtain ⟨rfl, rfl, rfl⟩ := hrel
    go_wp2_with (go_at_call 94; (with_reducible refine (C _).mono ?_); rintro e w2 ⟨rfl, rfl⟩)
    go_ret
    exact ⟨rfl, rfl⟩
/-- a copy of a disk of the reference -/
def CopyR (w : World) (m : Dm) (e : Ending) (w' : World) : Prop := ∃ p L, e = .returned (.pointer (some ⟨p, 0, none⟩)) ∧ OwnR w w' p m L ∧ Mod [] w w'
theorem rcopy_no (v : Value) (w : World) (h : NoRk w v) : Calls Try.prog 63 #[v] w fun e w' => ∃ v', e = .returned v' ∧ (∃ q, v' = .pointer (some ⟨q, 0, none⟩) ∧ Blk w' q 106 [.slice none 0 0, .slice none 0 0] ∧ w.heap.size ≤ q) ∧ Mod [] w w' := by
  have C := rimage_no v w h
  obtain ⟨p, rfl, hB⟩ := h
  go_enter Try.func63, Try.ntmps63
  go_wp2_with (first
                | (with_reducible refine st_box ?_)
                | (go_at_call 64; (with_reducible refine (C).mono ?_); rintro e w1 ⟨rfl, rfl⟩))
  refine StopOp.go rfl fun K hK => ?_
  refine wp_box (v := .agg #[.slice none 0 0, .slice none 0 0]) (by rfl) ?_
  intro q w1 hq1 hq2 hm1 hB1
  simp only [put_some, List.set_cons_succ, List.set_cons_zero]
  refine hK _ _ ?_
  clear hK K
  have c1 := (hB.ext hm1).cell' (i := 1) rfl
  go_wp2_with fail
  go_loopw [4] (fun i wr => w1 = wr ∧ i = .int .i64 0) (fun i _ => 0)
  case atStart => exact ⟨rfl, rfl⟩
  case round =>
    obtain ⟨rfl, rfl⟩ := hrel
    go_wp2_with fail
    go_ret
    exact ⟨_, rfl, ⟨q, rfl, hB1, hq1⟩, hm1⟩
set_option maxRecDepth 1000000 in
set_option maxHeartbeats 4000000 in
theorem rcopy_any (p : Nat) (m : Dm) (L : List Nat) (w : World) (h : Rk w p m L) (hok : m.ok) (hr : m.row.length ≤ 100000000) : Calls Try.prog 63 #[.pointer (some ⟨p, 0, none⟩)] w (CopyR w m) := by
  have hs2 := hok.s2
  have hrr := hok.r
  have IM := rimage_any p m L w h hok
  unfold ImgPost at IM
  obtain ⟨D, R, dp, rp, hB, hm, hL⟩ := h
  have e5 : m.row = rp.map fun x => (x.1, x.2.2) := by rw [hm]; rfl
  have e2 : m.row.length = rp.length := by rw [e5, List.length_map]
  have e3 : ∀ (j : Nat) (hj : j < rp.length), rp[j].2.2.length = m.sz := fun j hj => (hrr (rp[j].1, rp[j].2.2) (by rw [e5]; exact List.mem_map.2 ⟨rp[j], List.getElem_mem hj, rfl⟩)).2
  rw [e2] at hr
  obtain ⟨aoR, capR, rfl, hcR, _⟩ := hB.row.sl.form
  obtain ⟨dur, hdur⟩ : ∃ d, d = m.dur := ⟨_, rfl⟩
  rw [← hdur] at IM
  have hfin : ∀ (dq : List (Value × List UInt8)) (rq : List (Nat × Value × List UInt8)), dq.map (·.2) = dur → rq.map (fun x => (x.1, x.2.2)) = rp.map (fun x => (x.1, x.2.2)) → m = Dm.of m.sz dq rq := fun dq rq h1 h2 => by
    unfold Dm.of
    rw [h1, h2, hdur, ← e5]
  have HFIN := Lib.hid hfin
  obtain ⟨sz, hsz⟩ : ∃ n, n = m.sz := ⟨_, rfl⟩
  rw [← hsz] at hs2 e3
  clear hok hrr hm hL e5 e2 hdur hfin hsz
  go_enter Try.func63, Try.ntmps63
  go_wp2_with (first
                | (with_reducible refine st_box ?_)
                | (go_at_call 64; (with_reducible refine (IM).mono ?_); rintro e w1 ⟨v1, dq, rfl, hRo, hdq, hm1⟩; obtain ⟨ao1, cap1, rfl, _, _⟩ := hRo.ow.sl.form))
  refine StopOp.go rfl fun K hK => ?_
  refine wp_box (v := .agg #[.slice ao1 dq.length cap1, .slice none 0 0]) (by rfl) ?_
  intro q w2 hq1 hq2 hm2 hB2
  simp only [put_some, List.set_cons_succ, List.set_cons_zero]
  refine hK _ _ ?_
  clear hK K
  have hR2 := hRo.ext hm2
  have hQ : RkB w2 q (.slice ao1 dq.length cap1) (.slice none 0 0) dq [] := ⟨hB2, hR2.ow, Ow.nil _ _ _, by simpa using hR2.fam.low⟩
  have hQL : ∀ k ∈ fpR q (.slice ao1 dq.length cap1) (.slice none 0 0) dq [], w.heap.size ≤ k := fun k hk => by
    unfold fpR at hk
    simp only [List.mem_cons, List.mem_append, List.mem_flatMap, List.map_nil, List.append_nil] at hk
    rcases hk with rfl | (hk | hk) | ⟨x, hx, hk⟩
    · have := hm1.size; omega
    · exact hR2.nw k hk
    · simp [blks] at hk
    · exact (hR2.fam.ob x hx).2 k hk
  have hM2 := hm1.ext hm2
  clear hB2 hRo hm1 hm2 hR2
  go_wp2_with fail
  go_loopw [4] (fun i wr => ∃ (j : Nat) (R : Value) (rq : List (Nat × Value × List UInt8)), j ≤ rp.length ∧ i = .int .i64 j ∧ RkB wr q (.slice ao1 dq.length cap1) R dq rq ∧ rq.map (fun x => (x.1, x.2.2)) = (rp.map (fun x => (x.1, x.2.2))).take j ∧ (∀ k ∈ fpR q (.slice ao1 dq.length cap1) R dq rq, w.heap.size ≤ k) ∧ Mod [] w wr) (fun i _ => rp.length - (intOf i).toNat)
  case atStart => exact ⟨0, _, [], by omega, rfl, hQ, by simp, hQL, hM2⟩
  case round =>
    obtain ⟨j, R, rq, hj, rfl, hQj, hrq, hQLj, hMj⟩ := hrel
    have hBj := hB.ext hMj
    have c1 := hBj.blk.cell' (i := 1) rfl
    obtain ⟨aoq, capq, rfl, hcq, _⟩ := hQj.row.sl.form
    have HRQ := Lib.hid hrq
    have hrql : rq.length = j := by have := congrArg List.length hrq; simp at this; omega
    have HRL := Lib.hid hrql
    clear hrq hrql
    by_cases hlt : j < rp.length
    · have y0 : (j : Int) < rp.length := by omega
      obtain ⟨gR, hgR, restR, hRb⟩ := ow_head hBj.row (by omega)
      subst hgR
      go_wp2_with fail
      refine wp_region_T [⟨0, true, []⟩, ⟨1, true, []⟩, ⟨2, true, []⟩, ⟨3, true, []⟩, ⟨4, true, []⟩, ⟨5, true, []⟩, ⟨6, true, []⟩, ⟨7, true, []⟩, ⟨8, true, []⟩, ⟨9, true, []⟩, ⟨10, true, []⟩, ⟨11, true, []⟩, ⟨12, true, []⟩, ⟨13, true, []⟩, ⟨14, true, []⟩, ⟨15, true, []⟩, ⟨16, true, []⟩, ⟨17, true, []⟩, ⟨18, true, []⟩, ⟨19, true, []⟩, ⟨20, true, []⟩, ⟨21, false, [2, 4, 6, 8, 12]⟩, ⟨22, true, []⟩, ⟨23, false, [2, 4]⟩, ⟨24, false, []⟩, ⟨25, true, []⟩, ⟨26, true, []⟩, ⟨27, false, []⟩] (by kernel_rfl) (by kernel_rfl) ?_
      have hm0 : Mod [] wr wr.drew := Mod.drew [] _
      have hB0 := hBj.ext hm0
      have hR0 := hRb.ext hm0
      have hQ0 := hQj.ext hm0
      obtain ⟨w0, hw0⟩ : ∃ x, x = wr.drew := ⟨_, rfl⟩
      rw [← hw0] at hB0 hm0 hQ0 hR0 ⊢
      clear hw0 c1
      obtain ⟨hw0, hw1⟩ := wcells_at rp j hlt
      have hwl : 2 * j + 1 < (wcells rp).length := by rw [wcells_len]; omega
      have r0 := hR0.cell' (i := j * 2) (by rw [List.getElem?_append_left (by omega), Nat.mul_comm]; exact hw0)
      have r1 := hR0.cell' (i := j * 2 + 1) (by rw [List.getElem?_append_left (by omega), Nat.mul_comm]; exact hw1)
      have hbo := (hB0.fam.ob rp[j].2 (List.mem_append_right _ (List.mem_map.2 ⟨rp[j], List.getElem_mem hlt, rfl⟩))).1
      have hbl := e3 j hlt
      have hsn : (rp.map fun x => (x.1, x.2.2)).take (j + 1) = (rp.map fun x => (x.1, x.2.2)).take j ++ [(rp[j].1, rp[j].2.2)] := by
        rw [List.take_succ_eq_append_getElem (by simpa using hlt), List.getElem_map]
      obtain ⟨a, hae⟩ : ∃ a, a = rp[j].1 := ⟨_, rfl⟩
      obtain ⟨b, hbe⟩ : ∃ b, b = rp[j].2.2 := ⟨_, rfl⟩
      obtain ⟨vb, hvb⟩ : ∃ b, b = rp[j].2.1 := ⟨_, rfl⟩
      rw [← hvb] at r1 hbo
      rw [← hbe] at hbo hbl hsn
      rw [← hae] at r0 hsn
      obtain ⟨aob, capb, rfl, hcb, _⟩ := Bs.form (Ob.bs hbo)
      have hbl2 : b.length ≤ 4096 := by omega
      have y1 : (0 : Int) ≤ j := by omega
      have HSN := Lib.hid hsn
      clear hae hbe hvb hw0 hw1 hwl hbl hsn hBj hRb hQj
      have c1 := hB0.blk.cell' (i := 1) rfl
      have q1 := hQ0.blk.cell' (i := 1) rfl
      iterate 21 (refine wpT_n rfl rfl (fun K hK => ?_); go_wp2_with fail)
      refine wpT_callh rfl rfl (fun K hK => ?_)
      go_wp2_with (go_at_call 96; refine (twin_any b _ _ (Ob.bs hbo) (by omega)).mono ?_; rintro e w6 ⟨v6, rfl, ho6, hn6, hm6⟩)
      refine ⟨agains_cons rfl (again_const (fun _ => rfl)) (agains_cons rfl (again_load rfl rfl (hm6.block q hQ0.blk.lt (by simp)) hQ0.blk.kinds) (agains_cons rfl (again_const (fun _ => rfl)) (agains_cons rfl (again_load rfl rfl (hm6.block p hB0.blk.lt (by simp)) hB0.blk.kinds) (agains_cons rfl (again_load rfl rfl (hm6.block gR hR0.lt (by simp)) hR0.kinds) agains_nil)))), ?_⟩
      obtain ⟨ao6, cap6, rfl, hc6, _⟩ := Bs.form (Ob.bs ho6)
      have hQ6 := hQ0.ext hm6
      refine wpT_n rfl rfl (fun K hK => ?_)
      go_wp2_with fail
      refine wpT_e rfl rfl (fun K hK => ?_)
      refine wp_bslice stKW [.agg #[.int .i64 (a : Nat), .slice ao6 b.length cap6]] rfl (by decide) (by rfl) (by simp [Value.cells]) ?_
      intro g x1 hg1 hg2 hmx1 hBx1
      simp only [put_some, List.set_cons_succ, List.set_cons_zero]
      refine hK _ _ ⟨agains_cons rfl (again_const (fun _ => rfl)) (agains_cons rfl (again_load rfl rfl (hmx1.block q hQ6.blk.lt (by simp)) hQ6.blk.kinds) agains_nil), ?_⟩
      clear hK K
      have hQ7 := hQ6.ext hmx1
      have hS6 : Sl x1 2 (.slice (some ⟨g, 0, none⟩) 1 1) 1 [.int .i64 (a : Nat), .slice ao6 b.length cap6] := (Ow.of_blk (rest := []) hBx1 (Nat.le_refl _) (by omega) rfl rfl : Ow x1 150 2 (.slice (some ⟨g, 0, none⟩) 1 1) 1 [.int .i64 (a : Nat), .slice ao6 b.length cap6]).sl
      refine wpT_e0 rfl rfl (fun K hK => ?_)
      refine wp_append_ow stKW (by rfl) (by rfl) hQ7.row hS6 (by simp [Value.oneCell']) (by have := HRL.out; omega) (by have := HRL.out; omega) ?_
      intro R7 x2 hR7 hmx2 hb7
      simp only [put_some, List.set_cons_succ, List.set_cons_zero]
      refine hK _ _ ?_
      clear hK K
      have hp4 : Blk x2 q 106 _ := hQ7.blk.mod hmx2 (Ow.ne hQ7.row hQ7.blk (by decide))
      iterate 2 (refine wpT_n rfl rfl (fun K hK => ?_); go_wp2_with fail)
      refine wpT_e0 rfl rfl (fun K hK => ?_)
      refine wp_store1 (by kernel_rfl) (by rfl) (by rfl) hR7.sl.one hp4 (by simp) ?_
      intro x3 hmx3 hBx3
      refine hK _ _ ?_
      clear hK K
      have hfin := hQ0.wait (at_ := a) (l := b) (v := .slice ao6 b.length cap6) (hm6.ext hmx1) (ho6.ext hmx1) hn6 hR7 hmx2 hb7 hmx3 (by simpa using hBx3)
      have hs0 := hMj.size
      have hs1 := hm0.size
      have hM5 : Mod [] w x3 := (hMj.ext hm0).fresh hfin.2.2 hQLj
      refine wpT_nil ?_
      go_wp2_with fail
      go_roundw
      case rel => exact ⟨j + 1, R7, _, by omega, by go_num, hfin.1, by rw [List.map_append, HRQ.out, HSN.out]; rfl, fun k hk => (hfin.2.1 k hk).elim (hQLj k) (fun h => by omega), hM5⟩
      case measure => simp [intOf]; omega
    · obtain rfl : j = rp.length := by omega
      go_wp2_with fail
      go_ret
      exact ⟨q, _, rfl, ⟨⟨_, _, dq, rq, hQj, HFIN.out dq rq hdq (by rw [HRQ.out, List.take_of_length_le (by simp)]), rfl⟩, hQLj⟩, hMj⟩
end Go.Proofs.Ytkedbphdflhhlaa
