import Derived.Test.YtdmnogmhnhjdgaaGreatDkI
/-! Disks: Copy. -/
set_option linter.unusedVariables false
set_option linter.unusedSimpArgs false
set_option maxRecDepth 100000
namespace Go.Proofs.YtdmnogmhnhjdgaaGreat
open Go.RowKit Gw

theorem dcopy_no (v : Value) (w : World) (h : NoDk w v) : Calls Tryz.prog 48 #[v] w fun e w' => e = .returned (.pointer none) ∧ w = w' := by
  have T := fun w h => there_no v w h
  go_enter Tryz.func48, Tryz.ntmps48
  go_wp2_with (go_at_call 80; (with_reducible refine (T _ h).mono ?_); rintro e w1 ⟨rfl, rfl⟩)
  go_ret
  exact ⟨rfl, rfl⟩
theorem zero_waits2 : (Tryz.prog.info? 113).map (·.zero) = some (some (.agg #[.int .i64 0, .slice none 0 0])) := by kernel_rfl
/-- a disk of which the first writes wait -/
def Dm.upto (m : Dm) (j : Nat) : Dm := ⟨m.sz, m.dur, m.row.take j⟩
theorem Dm.ok.upto {m : Dm} (h : m.ok) (j : Nat) : (m.upto j).ok := ⟨h.s1, h.s2, h.n1, h.n2, h.d, fun x hx => h.r x (List.mem_of_mem_take hx)⟩
theorem Dm.upto_succ (m : Dm) {j : Nat} (h : j < m.row.length) : (m.upto j).write m.row[j].1 m.row[j].2 = m.upto (j + 1) := by
  unfold Dm.upto Dm.write
  simp only
  rw [List.take_succ_eq_append_getElem h]
theorem Dm.upto_all (m : Dm) : m.upto m.row.length = m := by unfold Dm.upto; rw [List.take_length]
/-- a copy lies in new memory -/
def CopyPost (w : World) (m : Dm) (e : Ending) (w' : World) : Prop := ∃ p L, e = .returned (.pointer (some ⟨p, 0, none⟩)) ∧ Own w w' p m L ∧ Mod [] w w'
theorem Fam.low {w : World} {base : Nat} {L : List (Value × List UInt8)} (h : Fam w base L) : Fam w 0 L := ⟨fun p hp => ⟨(h.ob p hp).1, fun _ _ => Nat.zero_le _⟩, h.dj⟩
theorem RowsO.weak {w : World} {b c : Nat} {v : Value} {L : List (Value × List UInt8)} (h : RowsO w b v L) (hc : c ≤ b) : RowsO w c v L := ⟨h.ow, ⟨fun p hp => ⟨(h.fam.ob p hp).1, fun k hk => Nat.le_trans hc ((h.fam.ob p hp).2 k hk)⟩, h.fam.dj⟩, fun k hk => Nat.le_trans hc (h.nw k hk)⟩
set_option maxRecDepth 1000000 in
set_option maxHeartbeats 4000000 in
theorem dcopy_any (p : Nat) (m : Dm) (L : List Nat) (w : World) (h : Dk w p m L) (hok : m.ok) (hr : m.row.length ≤ 100000000) : Calls Tryz.prog 48 #[.pointer (some ⟨p, 0, none⟩)] w (CopyPost w m) := by
  have hs1 := hok.s1
  have IM := fun w' hm => dimage_any p m L w' (h.ext hm) hok
  unfold ImgPost at IM
  obtain ⟨D, R, M, dp, rp, hB, hm, hL⟩ := h
  have e5 : m.row = rp.map fun x => (x.1, x.2.2) := by rw [hm]; rfl
  have e2 : m.row.length = rp.length := by rw [e5, List.length_map]
  rw [e2] at hr
  have WR : ∀ (j : Nat) (hj : j < rp.length) (q : Nat) (Lq : List Nat) (w : World) (v : Value), Dk w q (m.upto j) Lq → Bs w v rp[j].2.2 → Calls Tryz.prog 42 #[.pointer (some ⟨q, 0, none⟩), .int .i64 (rp[j].1 : Nat), v] w fun e w' => e = .returned (.int .i64 0) ∧ DkPost w q (m.upto (j + 1)) Lq w' := fun j hj q Lq w v hq hv => by
    have hj' : j < m.row.length := by omega
    have e6 : m.row[j] = (rp[j].1, rp[j].2.2) := by simp [e5]
    rw [← m.upto_succ hj']
    have hx := hok.r _ (List.getElem_mem hj')
    rw [e6] at hx ⊢
    exact dwrite_ok q (m.upto j) Lq rp[j].1 rp[j].2.2 v w hq (hok.upto j) hv hx.1 hx.2 (by show (m.row.take j).length ≤ _; rw [List.length_take]; omega)
  have hup0 : (⟨m.sz, m.dur, []⟩ : Dm) = m.upto 0 := rfl
  have hupn : m.upto rp.length = m := by rw [← e2]; exact m.upto_all
  obtain ⟨aoD, capD, rfl, hcD, _⟩ := hB.dur.sl.form
  have T := fun w h => there_yes p m.sz (.slice aoD dp.length capD) R M w h hs1
  obtain ⟨sz, hsz⟩ : ∃ n, n = m.sz := ⟨_, rfl⟩
  rw [← hsz] at hB T hup0
  obtain ⟨U, hU⟩ : ∃ U, U = m.upto := ⟨_, rfl⟩
  rw [← hU] at WR hup0 hupn
  rw [← hupn]
  obtain ⟨dur, hdur⟩ : ∃ d, d = m.dur := ⟨_, rfl⟩
  rw [← hdur] at IM hup0
  clear hok hsz hs1 hm hL e5 e2 hU hdur hupn
  obtain ⟨aoR, capR, rfl, hcR, _⟩ := hB.row.sl.form
  go_enter Tryz.func48, Tryz.ntmps48
  go_upto_region 3 with (go_at_call 80; (with_reducible refine (T _ hB.blk).mono ?_); rintro e w1 ⟨rfl, rfl⟩)
  go_cut [3] (fun u wx => ∃ pc Lc, u = .pointer (some ⟨pc, 0, none⟩) ∧ Own w wx pc ⟨sz, dur, []⟩ Lc ∧ Mod [] w wx)
  case first =>
    have hB3 := hB.ext (Mod.drew [] _)
    have hM3 : Mod [] w w.drew := Mod.drew [] _
    refine wp_region_T2 5 6 [⟨0, true, []⟩, ⟨1, true, []⟩, ⟨2, true, []⟩, ⟨3, true, []⟩, ⟨4, true, []⟩, ⟨5, false, [1, 3]⟩, ⟨6, false, [1, 3]⟩, ⟨7, true, []⟩, ⟨8, false, []⟩, ⟨9, true, []⟩] [⟨0, true, []⟩, ⟨1, true, []⟩, ⟨2, true, []⟩, ⟨3, true, []⟩, ⟨4, true, []⟩, ⟨6, false, [1, 3]⟩, ⟨5, false, [1, 3]⟩, ⟨7, true, []⟩, ⟨8, false, []⟩, ⟨9, true, []⟩] (by kernel_rfl) (by kernel_rfl) (by kernel_rfl) (by kernel_rfl) (by kernel_rfl) ?_ ?_
    all_goals obtain ⟨w3, hw3⟩ : ∃ x, x = w.drew := ⟨_, rfl⟩
    all_goals rw [← hw3] at hB3 hM3 ⊢
    all_goals clear hw3 WR T
    all_goals have b0 := hB3.blk.cell' (i := 0) rfl
    · skip
      iterate 5 (refine wpT_n rfl rfl (fun K hK => ?_); go_wp2_with fail)
      refine wpT_callh rfl rfl (fun K hK => ?_)
      go_wp2_with (go_at_call 49; (with_reducible refine (IM _ hM3).mono ?_); rintro e w4 ⟨v4, dq, rfl, hR4, hdq, hm4⟩)
      refine ⟨agains_cons rfl (again_const (fun _ => rfl)) (agains_cons rfl (again_load rfl rfl (hm4.block p hB3.blk.lt (by simp)) hB3.blk.kinds) agains_nil), ?_⟩
      have hB4 := hB3.ext hm4
      refine wpT_e rfl rfl (fun K hK => ?_)
      refine wp_makeMap ?_
      intro M5 w5 hg5 hg52 hm5 hP5
      simp only [put_some, List.set_cons_succ, List.set_cons_zero]
      refine hK _ _ ⟨agains_cons rfl (again_const (fun _ => rfl)) (agains_cons rfl (again_load rfl rfl (hm5.block p hB4.blk.lt (by simp)) hB4.blk.kinds) agains_nil), ?_⟩
      clear hK K
      have hs4 := hm4.size
      have hR5 := (hR4.ext hm5).weak hM3.size
      have hM5 := hM3.ext (hm4.ext hm5)
      have hM50 : w.heap.size ≤ M5 := by have := hM3.size; omega
      clear hm4 hm5 hB3 hB4 hM3 hs4 hR4
      obtain ⟨aov, capv, rfl, _, _⟩ := hR5.ow.sl.form
      refine wpT_n rfl rfl (fun K hK => ?_)
      go_wp2_with fail
      refine wpT_e0 rfl rfl (fun K hK => ?_)
      refine wp_box (v := .agg #[.int .i64 (sz : Nat), .slice aov dq.length capv, .slice none 0 0, .map (some M5)]) (by rfl) ?_
      intro pc w6 hp6 hp62 hm6 hB6
      simp only [put_some, List.set_cons_succ, List.set_cons_zero]
      refine hK _ _ ?_
      clear hK K
      have hres : Own w w6 pc ⟨sz, dq.map (·.2), []⟩ (fpD pc (.slice aov dq.length capv) (.slice none 0 0) M5 dq []) := by
        have hR6 := hR5.ext hm6
        refine ⟨⟨_, _, _, dq, [], ⟨hB6, hR6.ow, Ow.nil _ _ _, hP5.ext hm6, by simpa using hR6.fam.low⟩, rfl, rfl⟩, fun k hk => ?_⟩
        unfold fpD at hk
        simp only [List.mem_cons, List.mem_append, List.mem_flatMap, List.map_nil, List.append_nil] at hk
        rcases hk with rfl | rfl | (hk | hk) | ⟨x, hx, hk⟩
        · have := hM5.size; omega
        · exact hM50
        · exact hR5.nw k hk
        · simp [blks] at hk
        · exact (hR5.fam.ob x hx).2 k hk
      rw [hdq] at hres
      have hM6 := hM5.ext hm6
      refine wpT_n rfl rfl (fun K hK => ?_)
      go_wp2_with fail
      refine wpT_nil ?_
      go_wp2_with fail
      go_meet
      exact ⟨pc, _, rfl, hres, hM6⟩
    · skip
      iterate 5 (refine wpT_n rfl rfl (fun K hK => ?_); go_wp2_with fail)
      refine wpT_e rfl rfl (fun K hK => ?_)
      refine wp_makeMap ?_
      intro M5 w4 hg5 hg52 hm4 hP4
      simp only [put_some, List.set_cons_succ, List.set_cons_zero]
      refine hK _ _ ⟨agains_cons rfl (again_const (fun _ => rfl)) (agains_cons rfl (again_load rfl rfl (hm4.block p hB3.blk.lt (by simp)) hB3.blk.kinds) agains_nil), ?_⟩
      clear hK K
      have hB4 := hB3.ext hm4
      refine wpT_callh rfl rfl (fun K hK => ?_)
      go_wp2_with (go_at_call 49; (with_reducible refine (IM _ (hM3.ext hm4)).mono ?_); rintro e w5 ⟨v4, dq, rfl, hR4, hdq, hm5⟩)
      refine ⟨agains_cons rfl (again_const (fun _ => rfl)) (agains_cons rfl (again_load rfl rfl (hm5.block p hB4.blk.lt (by simp)) hB4.blk.kinds) agains_nil), ?_⟩
      have hs4 := hm4.size
      have hR5 := hR4.weak (hM3.ext hm4).size
      have hP5 := hP4.ext hm5
      have hM5 := hM3.ext (hm4.ext hm5)
      have hM50 : w.heap.size ≤ M5 := by have := hM3.size; omega
      clear hm4 hm5 hB3 hB4 hM3 hs4 hR4
      obtain ⟨aov, capv, rfl, _, _⟩ := hR5.ow.sl.form
      refine wpT_n rfl rfl (fun K hK => ?_)
      go_wp2_with fail
      refine wpT_e0 rfl rfl (fun K hK => ?_)
      refine wp_box (v := .agg #[.int .i64 (sz : Nat), .slice aov dq.length capv, .slice none 0 0, .map (some M5)]) (by rfl) ?_
      intro pc w6 hp6 hp62 hm6 hB6
      simp only [put_some, List.set_cons_succ, List.set_cons_zero]
      refine hK _ _ ?_
      clear hK K
      have hres : Own w w6 pc ⟨sz, dq.map (·.2), []⟩ (fpD pc (.slice aov dq.length capv) (.slice none 0 0) M5 dq []) := by
        have hR6 := hR5.ext hm6
        refine ⟨⟨_, _, _, dq, [], ⟨hB6, hR6.ow, Ow.nil _ _ _, hP5.ext hm6, by simpa using hR6.fam.low⟩, rfl, rfl⟩, fun k hk => ?_⟩
        unfold fpD at hk
        simp only [List.mem_cons, List.mem_append, List.mem_flatMap, List.map_nil, List.append_nil] at hk
        rcases hk with rfl | rfl | (hk | hk) | ⟨x, hx, hk⟩
        · have := hM5.size; omega
        · exact hM50
        · exact hR5.nw k hk
        · simp [blks] at hk
        · exact (hR5.fam.ob x hx).2 k hk
      rw [hdq] at hres
      have hM6 := hM5.ext hm6
      refine wpT_n rfl rfl (fun K hK => ?_)
      go_wp2_with fail
      refine wpT_nil ?_
      go_wp2_with fail
      go_meet
      exact ⟨pc, _, rfl, hres, hM6⟩
  case rest =>
  obtain ⟨pc, Lc, rfl, hO3, hM3⟩ := hcut
  rw [hup0] at hO3
  have hB3 := hB.ext hM3
  have b2 := hB3.blk.cell' (i := 2) rfl
  clear T IM hup0 hB3
  go_wp2_with fail
  go_loopw [23] (fun i wr => ∃ (j : Nat) (Lj : List Nat), j ≤ rp.length ∧ i = .int .i64 j ∧ Own w wr pc (U j) Lj ∧ Mod [] w wr) (fun i _ => rp.length - (intOf i).toNat)
  case atStart => exact ⟨0, Lc, by omega, rfl, hO3, hM3⟩
  case round =>
    obtain ⟨j, Lj, hj, rfl, hOj, hMj⟩ := hrel
    by_cases hlt : j < rp.length
    · have y0 : (j : Int) < rp.length := by omega
      have hBj := hB.ext hMj
      obtain ⟨gR, hgR, restR, hRb⟩ : ∃ g, aoR = some ⟨g, 0, none⟩ ∧ ∃ rest, Blk wr g 113 (wcells rp ++ rest) := by
        rcases hBj.row.blk with ⟨_, h0, _⟩ | ⟨g, cap, rest, h1, h2, _⟩
        · omega
        · injection h1 with h1
          exact ⟨g, h1, rest, h2⟩
      subst hgR
      obtain ⟨hw0, hw1⟩ := wcells_at rp j hlt
      have hwl : 2 * j + 1 < (wcells rp).length := by rw [wcells_len]; omega
      have r0 := hRb.cell' (i := j * 2) (by rw [List.getElem?_append_left (by omega), Nat.mul_comm]; exact hw0)
      have r1 := hRb.cell' (i := j * 2 + 1) (by rw [List.getElem?_append_left (by omega), Nat.mul_comm]; exact hw1)
      have hbo := (hBj.fam.ob rp[j].2 (List.mem_append_right _ (List.mem_map.2 ⟨rp[j], List.getElem_mem hlt, rfl⟩))).1
      have WRj := WR j hlt
      obtain ⟨a, hae⟩ : ∃ a, a = rp[j].1 := ⟨_, rfl⟩
      obtain ⟨b, hbe⟩ : ∃ b, b = rp[j].2.2 := ⟨_, rfl⟩
      obtain ⟨vb, hvb⟩ : ∃ b, b = rp[j].2.1 := ⟨_, rfl⟩
      rw [← hvb] at r1 hbo
      rw [← hbe] at hbo WRj
      rw [← hae] at r0 WRj
      obtain ⟨aob, capb, rfl, hcb, _⟩ := Bs.form (Ob.bs hbo)
      clear hae hbe hvb hw0 hw1 hwl hBj hRb WR
      go_wp2_with (with_reducible refine st_alloc ?_)
      refine StopOp.go rfl fun K hK => ?_
      refine wp_alloc zero_waits2 ?_
      intro x w1 hx1 hx2 hm1 hX1
      simp only [put_some, List.set_cons_succ, List.set_cons_zero]
      refine hK _ _ ?_
      clear hK K
      go_wp2_with (with_reducible refine st_store ?_)
      refine StopOp.go rfl fun K hK => ?_
      refine wp_store (u := .agg #[.int .i64 (a : Nat), .slice aob b.length capb]) (by rfl) (by rfl) (by kernel_rfl) hX1 (by simp [Value.cells]) (by simp [Value.cells, Value.oneCell']) ?_
      intro w2 hm2 hX2
      refine hK _ _ ?_
      clear hK K
      have hX : Blk w2 x 113 [.int .i64 (a : Nat), .slice aob b.length capb] := hX2
      have hM12 : Mod [] wr w2 := hm1.fresh hm2 (by simpa using hx1)
      have hO2 := (hOj.ext hM12).2
      have hD2 := (hOj.ext hM12).1
      have hb2 := Ob.bs (Ow.ext hbo hM12)
      have x0 := hX.cell' (i := 0) rfl
      have x1 := hX.cell' (i := 1) rfl
      have hM2 := hMj.ext hM12
      clear hX1 hX2 hm1 hm2 hX hbo hM12 hOj
      go_wp2_with (go_at_call 42; (with_reducible refine (WRj _ _ _ _ hD2 hb2).mono ?_); rintro e w3 ⟨rfl, L3, hD3, hm3, hL3⟩)
      obtain ⟨hM3', hO3'⟩ := own_step hM2 hO2 hm3 hL3
      go_roundw
      case rel => exact ⟨j + 1, L3, by omega, by go_num, ⟨hD3, hO3'⟩, hM3'⟩
      case measure => simp [intOf]; omega
    · obtain rfl : j = rp.length := by omega
      go_wp2_with fail
      go_ret
      exact ⟨pc, Lj, rfl, hOj, hMj⟩
end Go.Proofs.YtdmnogmhnhjdgaaGreat
