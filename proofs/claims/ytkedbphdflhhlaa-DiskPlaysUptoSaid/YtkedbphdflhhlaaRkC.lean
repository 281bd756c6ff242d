import Derived.Test.YtkedbphdflhhlaaRkA
/-! The reference's disks: May, twin, New, Sectors, Size, wrong, Waiting. -/
set_option linter.unusedVariables false
set_option linter.unusedSimpArgs false
set_option maxRecDepth 100000
namespace Go.Proofs.Ytkedbphdflhhlaa
open Go.RowKit Gw

set_option maxHeartbeats 4000000 in
theorem rmay_any (s z : Int) (c : Bool) (w : World) (hc : mayD s z = c) : Calls Try.prog 59 #[.int .i64 s, .int .i64 z] w fun e w' => e = .returned (.bool c) ∧ w = w' := by
  unfold mayD at hc
  by_cases h1 : 64 ≤ z
  · have eh1 : decide (64 ≤ z) = true := decide_eq_true h1
    by_cases h2 : z ≤ 4096
    · have eh2 : decide (z ≤ 4096) = true := decide_eq_true h2
      cases h3 : (bits .and .i64 z (z - 1) == 0) with
      | true =>
        by_cases h4 : 1 ≤ s
        · have eh4 : decide (1 ≤ s) = true := decide_eq_true h4
          by_cases h5 : s ≤ 65536
          · have eh5 : decide (s ≤ 65536) = true := decide_eq_true h5
            have hmb := mul_bound h4 h5 h1 h2
            have q1 := hmb.1
            have q2 := hmb.2
            clear hmb
            have hc' : decide (s * z ≤ 67108864) = c := by simpa [h1, h2, h4, h5, h3] using hc
            clear hc
            go_enter Try.func59, Try.ntmps59
            go_wp2
            go_ret
            exact ⟨rfl, rfl⟩
          · have eh5 : decide (s ≤ 65536) = false := decide_eq_false h5
            obtain rfl : c = false := by rw [← hc, eh5]; simp
            clear hc
            go_enter Try.func59, Try.ntmps59
            go_wp2
            go_ret
            exact ⟨rfl, rfl⟩
        · have eh4 : decide (1 ≤ s) = false := decide_eq_false h4
          obtain rfl : c = false := by rw [← hc, eh4]; simp
          clear hc
          go_enter Try.func59, Try.ntmps59
          go_wp2
          go_ret
          exact ⟨rfl, rfl⟩
      | false =>
        obtain rfl : c = false := by rw [← hc, h3]; simp
        clear hc
        go_enter Try.func59, Try.ntmps59
        go_wp2
        go_ret
        exact ⟨rfl, rfl⟩
    · have eh2 : decide (z ≤ 4096) = false := decide_eq_false h2
      obtain rfl : c = false := by rw [← hc, eh2]; simp
      clear hc
      go_enter Try.func59, Try.ntmps59
      go_wp2
      go_ret
      exact ⟨rfl, rfl⟩
  · have eh1 : decide (64 ≤ z) = false := decide_eq_false h1
    obtain rfl : c = false := by rw [← hc, eh1]; simp
    clear hc
    go_enter Try.func59, Try.ntmps59
    go_wp2
    go_ret
    exact ⟨rfl, rfl⟩
set_option maxHeartbeats 400000 in
theorem twin_any (l : List UInt8) (v : Value) (w : World) (hv : Bs w v l) (hl : l.length ≤ 140737488355328) :
    Calls Try.prog 96 #[v] w fun e w' => ∃ v', e = .returned v' ∧ Ob w' v' l ∧ New w v' ∧ Mod [] w w' := by
  obtain ⟨ao, cap, rfl, hc1, hc2⟩ := hv.form
  go_enter Try.func96, Try.ntmps96
  go_wp2_with (with_reducible refine st_bslice ?_)
  refine StopOp.go rfl fun K hK => ?_
  refine wp_bslice stB [] rfl (by decide) (by rfl) (by simp) ?_
  intro p w1 hp1 hp2 hm1 hB1
  simp only [put_some, List.set_cons_succ, List.set_cons_zero]
  refine hK _ _ ?_
  clear hK K
  have ho1 : Ow w1 5 1 (.slice (some ⟨p, 0, none⟩) 0 0) 0 [] := Ow.of_blk (rest := []) hB1 (by omega) (by omega) (by simp) (by simp)
  go_wp2_with (with_reducible refine st_append ?_)
  refine StopOp.go rfl fun K hK => ?_
  refine wp_append_ow stB (by rfl) (by rfl) ho1 (hv.ext hm1) (bv_one l) (by omega) (by omega) ?_
  intro v2 w2 ho2 hm2 hb2
  simp only [put_some, List.set_cons_succ, List.set_cons_zero]
  refine hK _ _ ?_
  clear hK K
  rw [List.nil_append, Nat.zero_add] at ho2
  obtain ⟨ao2, cap2, rfl, _, _⟩ := ho2.sl.form
  go_wp2_with fail
  go_ret
  exact ⟨_, rfl, ho2, fun k hk => (hb2 k hk).elim (fun h => by rw [show k = p by simpa [blks] using h]; exact hp1) (fun h => Nat.le_trans hm1.size h), hm1.fresh hm2 (by simpa [blks] using hp1)⟩
/-- a disk of the reference that is none -/
def NoRk (w : World) (v : Value) : Prop := ∃ p, v = .pointer (some ⟨p, 0, none⟩) ∧ Blk w p 106 [.slice none 0 0, .slice none 0 0]
theorem NoRk.ext {w w' : World} {v : Value} (h : NoRk w v) (hm : Mod [] w w') : NoRk w' v := by
  obtain ⟨p, h1, h2⟩ := h
  exact ⟨p, h1, h2.ext hm⟩
def OwnR (w0 w : World) (p : Nat) (m : Dm) (L : List Nat) : Prop := Rk w p m L ∧ ∀ k ∈ L, w0.heap.size ≤ k
theorem OwnR.ext {w0 w w' : World} {p : Nat} {m : Dm} {L : List Nat} (h : OwnR w0 w p m L) (hm : Mod [] w w') : OwnR w0 w' p m L := ⟨h.1.ext hm, h.2⟩
theorem rnew_no (s z : Int) (w : World) (h : mayD s z = false) : Calls Try.prog 61 #[.int .i64 s, .int .i64 z] w fun e w' => ∃ q, e = .returned (.tuple #[.pointer (some ⟨q, 0, none⟩), .int .i64 2]) ∧ Blk w' q 106 [.slice none 0 0, .slice none 0 0] ∧ w.heap.size ≤ q ∧ Mod [] w w' := by
  have M := fun w => rmay_any s z false w h
  clear h
  go_enter Try.func61, Try.ntmps61
  go_wp2_with (with_reducible refine st_box ?_)
  refine StopOp.go rfl fun K hK => ?_
  refine wp_box (v := .agg #[.slice none 0 0, .slice none 0 0]) (by rfl) ?_
  intro p w1 hp1 hp2 hm1 hB1
  simp only [put_some, List.set_cons_succ, List.set_cons_zero]
  refine hK _ _ ?_
  clear hK K
  go_wp2_with (go_at_call 59; (with_reducible refine (M _).mono ?_); rintro e w2 ⟨rfl, rfl⟩)
  go_ret2
  exact ⟨p, rfl, hB1, hp1, hm1⟩
def NewR (s z : Nat) (w : World) (e : Ending) (w' : World) : Prop := ∃ p L, e = .returned (.tuple #[.pointer (some ⟨p, 0, none⟩), .int .i64 0]) ∧ OwnR w w' p ⟨z, List.replicate s (zeros z), []⟩ L ∧ Mod [] w w'
set_option maxRecDepth 1000000 in
set_option maxHeartbeats 4000000 in
theorem rnew_yes (s z : Nat) (w : World) (h : mayD s z = true) : Calls Try.prog 61 #[.int .i64 (s : Nat), .int .i64 (z : Nat)] w (NewR s z w) := by
  have M := fun w => rmay_any s z true w h
  obtain ⟨h1, h2, h3, h4⟩ := mayD_parts h
  clear h
  go_enter Try.func61, Try.ntmps61
  go_wp2_with (with_reducible refine st_box ?_)
  refine StopOp.go rfl fun K hK => ?_
  refine wp_box (v := .agg #[.slice none 0 0, .slice none 0 0]) (by rfl) ?_
  intro p w2 hp1 hp2 hmp hB2
  simp only [put_some, List.set_cons_succ, List.set_cons_zero]
  refine hK _ _ ?_
  clear hK K
  have hDk : RkB w2 p (.slice none 0 0) (.slice none 0 0) [] [] := ⟨hB2, Ow.nil _ _ _, Ow.nil _ _ _, Fam.nil _ _⟩
  have hfp : ∀ k ∈ fpR p (.slice none 0 0) (.slice none 0 0) [] [], w.heap.size ≤ k := by
    intro k hk
    simp [fpR, blks] at hk
    omega
  clear hB2
  go_wp2_with (go_at_call 59; (with_reducible refine (M _).mono ?_); rintro e w3 ⟨rfl, rfl⟩)
  go_loopw [7] (fun i wr => ∃ (k : Nat) (D : Value) (dp : List (Value × List UInt8)), k ≤ s ∧ i = .int .i64 k ∧ RkB wr p D (.slice none 0 0) dp [] ∧ dp.map (·.2) = List.replicate k (zeros z) ∧ (∀ k ∈ fpR p D (.slice none 0 0) dp [], w.heap.size ≤ k) ∧ Mod [] w wr) (fun i _ => s - (intOf i).toNat)
  case atStart => exact ⟨0, _, [], by omega, rfl, hDk, rfl, hfp, hmp⟩
  case round =>
    obtain ⟨k, D, dp, hk, rfl, hB, hdp, hf, hMr⟩ := hrel
    by_cases hlt : k < s
    · obtain ⟨aoD, capD, rfl, hcD, _⟩ := hB.dur.sl.form
      have hdl : dp.length = k := by have := congrArg List.length hdp; simpa using this
      have y0 : (k : Int) < s := by omega
      have y1 : (z : Int) ≤ 4096 := h4
      have HDP := Lib.hid hdp
      have HDL := Lib.hid hdl
      clear hdp hdl
      go_wp2_with fail
      refine wp_region_T [⟨0, true, []⟩, ⟨1, true, []⟩, ⟨2, true, []⟩, ⟨3, true, []⟩, ⟨4, true, []⟩, ⟨5, true, []⟩, ⟨6, false, [2, 4]⟩, ⟨7, false, [2, 4]⟩, ⟨8, false, []⟩, ⟨9, true, []⟩, ⟨10, true, []⟩, ⟨11, false, []⟩] (by kernel_rfl) (by kernel_rfl) ?_
      have hm0 : Mod [] wr wr.drew := Mod.drew [] _
      have hB0 := hB.ext hm0
      obtain ⟨w0, hw0⟩ : ∃ x, x = wr.drew := ⟨_, rfl⟩
      rw [← hw0] at hB0 hm0 ⊢
      clear hw0
      have c1 := hB0.blk.cell' (i := 0) rfl
      iterate 6 (refine wpT_n rfl rfl (fun K hK => ?_); go_wp2_with fail)
      refine wpT_e rfl rfl (fun K hK => ?_)
      refine wp_make (nl := z) (nc := z) stB (by rfl) (by rfl) rfl rfl (Nat.le_refl _) (by omega) (by omega) ?_
      intro g x1 hg1 hg2 hmx1 hBx1
      simp only [put_some, List.set_cons_succ, List.set_cons_zero]
      refine hK _ _ ⟨agains_cons rfl (again_const (fun _ => rfl)) (agains_cons rfl (again_load rfl rfl (hmx1.block p hB0.blk.lt (by simp)) hB0.blk.kinds) agains_nil), ?_⟩
      clear hK K
      have hob1 := Ob.made hBx1 (by omega)
      have hn1 : New w0 (.slice (some ⟨g, 0, none⟩) z z) := fun q hq => by rw [show q = g by simpa [blks] using hq]; exact hg1
      refine wpT_e rfl rfl (fun K hK => ?_)
      refine wp_bslice stDR [.slice (some ⟨g, 0, none⟩) z z] rfl (by decide) (by rfl) (by simp [Value.cells]) ?_
      intro q x2 hq1 hq2 hmx2 hBx2
      simp only [put_some, List.set_cons_succ, List.set_cons_zero]
      have hB1 := hB0.ext hmx1
      refine hK _ _ ⟨agains_cons rfl (again_const (fun _ => rfl)) (agains_cons rfl (again_load rfl rfl (hmx2.block p hB1.blk.lt (by simp)) hB1.blk.kinds) agains_nil), ?_⟩
      clear hK K
      have hS2 : Sl x2 1 (.slice (some ⟨q, 0, none⟩) 1 1) 1 [.slice (some ⟨g, 0, none⟩) z z] := (Ow.of_blk (rest := []) hBx2 (Nat.le_refl _) (by omega) rfl rfl : Ow x2 23 1 (.slice (some ⟨q, 0, none⟩) 1 1) 1 [.slice (some ⟨g, 0, none⟩) z z]).sl
      have hB2 := hB1.ext hmx2
      refine wpT_e0 rfl rfl (fun K hK => ?_)
      refine wp_append_ow stDR (by rfl) (by rfl) hB2.dur hS2 (by simp [Value.oneCell']) (by have := HDL.out; omega) (by have := HDL.out; omega) ?_
      intro D4 x4 hD4 hmx4 hb4
      simp only [put_some, List.set_cons_succ, List.set_cons_zero]
      refine hK _ _ ?_
      clear hK K
      have hp4 : Blk x4 p 106 _ := hB2.blk.mod hmx4 (Ow.ne hB2.dur hB2.blk (by decide))
      iterate 2 (refine wpT_n rfl rfl (fun K hK => ?_); go_wp2_with fail)
      refine wpT_e0 rfl rfl (fun K hK => ?_)
      refine wp_store1 (by kernel_rfl) (by rfl) (by rfl) hD4.sl.one hp4 (by simp) ?_
      intro x5 hmx5 hBx5
      refine hK _ _ ?_
      clear hK K
      have hfin := hB0.sector (hmx1.ext hmx2) (hob1.ext hmx2) hn1 hD4 hmx4 hb4 hmx5 (by simpa using hBx5)
      have hs0 := hMr.size
      have hs1 := hm0.size
      have hM5 : Mod [] w x5 := (hMr.ext hm0).fresh hfin.2.2 hf
      refine wpT_nil ?_
      go_wp2_with fail
      go_roundw
      case rel => exact ⟨k + 1, D4, _, by omega, by go_num, hfin.1, by rw [List.map_append, HDP.out, List.replicate_succ']; rfl, fun q hq => (hfin.2.1 q hq).elim (hf q) (fun h => by omega), hM5⟩
      case measure => simp [intOf]; omega
    · obtain rfl : k = s := by omega
      go_wp2_with fail
      go_ret2
      exact ⟨p, _, rfl, ⟨⟨_, _, _, _, hB, by unfold Dm.of; rw [hdp]; rfl, rfl⟩, hf⟩, hMr⟩
theorem rSectors_any (p : Nat) (m : Dm) (L : List Nat) (w : World) (h : Rk w p m L) : Calls Try.prog 92 #[.pointer (some ⟨p, 0, none⟩)] w fun e w' => e = .returned (.int .i64 (m.dur.length : Nat)) ∧ w = w' := by
  obtain ⟨D, R, hB, ⟨ao, cap, rfl, _⟩, ao', cap', rfl, _⟩ := h.blk
  have c0 := hB.cell' (i := 0) rfl
  clear h
  go_enter Try.func92, Try.ntmps92
  go_wp2
  go_ret
  exact ⟨rfl, rfl⟩
theorem rSectors_no (v : Value) (w : World) (h : NoRk w v) : Calls Try.prog 92 #[v] w fun e w' => e = .returned (.int .i64 0) ∧ w = w' := by
  obtain ⟨p, rfl, hB⟩ := h
  have c0 := hB.cell' (i := 0) rfl
  clear hB
  go_enter Try.func92, Try.ntmps92
  go_wp2
  go_ret
  exact ⟨rfl, rfl⟩
theorem rWaiting_any (p : Nat) (m : Dm) (L : List Nat) (w : World) (h : Rk w p m L) : Calls Try.prog 91 #[.pointer (some ⟨p, 0, none⟩)] w fun e w' => e = .returned (.int .i64 (m.row.length : Nat)) ∧ w = w' := by
  obtain ⟨D, R, hB, ⟨ao, cap, rfl, _⟩, ao', cap', rfl, _⟩ := h.blk
  have c0 := hB.cell' (i := 1) rfl
  clear h
  go_enter Try.func91, Try.ntmps91
  go_wp2
  go_ret
  exact ⟨rfl, rfl⟩
theorem rWaiting_no (v : Value) (w : World) (h : NoRk w v) : Calls Try.prog 91 #[v] w fun e w' => e = .returned (.int .i64 0) ∧ w = w' := by
  obtain ⟨p, rfl, hB⟩ := h
  have c0 := hB.cell' (i := 1) rfl
  clear hB
  go_enter Try.func91, Try.ntmps91
  go_wp2
  go_ret
  exact ⟨rfl, rfl⟩
theorem rSize_any (p : Nat) (m : Dm) (L : List Nat) (w : World) (h : Rk w p m L) (hok : m.ok) : Calls Try.prog 87 #[.pointer (some ⟨p, 0, none⟩)] w fun e w' => e = .returned (.int .i64 (m.sz : Nat)) ∧ w = w' := by
  obtain ⟨D, R, dp, rp, hB, hm, hL⟩ := h
  have e1 : m.dur = dp.map (·.2) := by rw [hm]; rfl
  have h1 := hok.n1
  rw [e1, List.length_map] at h1
  have hz : dp[0].2.length = m.sz := hok.d _ (by rw [e1]; exact List.mem_map.2 ⟨dp[0], List.getElem_mem h1, rfl⟩)
  obtain ⟨aoD, capD, rfl, hcD, _⟩ := hB.dur.sl.form
  obtain ⟨b0, o0, rfl, hc⟩ := sl_at hB.dur.sl (i := 0) (by simp; omega)
  have hv := (hB.fam.ob dp[0] (List.mem_append_left _ (List.getElem_mem h1))).1
  rw [List.getElem_map] at hc
  obtain ⟨aov, capv, hvv, _, _⟩ := Bs.form (Ob.bs hv)
  rw [hvv, hz, Nat.add_zero] at hc
  have c0 := hB.blk.cell' (i := 0) rfl
  obtain ⟨n, hn⟩ : ∃ n, n = dp.length := ⟨_, rfl⟩
  rw [← hn] at c0 h1
  have y0 : (0 : Int) < n := by omega
  have y1 : (n == 0) = false := by rw [beq_eq_false_iff_ne]; omega
  have y2 : ((n : Int) == 0) = false := by rw [beq_eq_false_iff_ne]; omega
  clear hB hm hL e1 hz hv hvv hok hcD hn
  go_enter Try.func87, Try.ntmps87
  go_wp2
  go_ret
  exact ⟨rfl, rfl⟩
theorem rSize_no (v : Value) (w : World) (h : NoRk w v) : Calls Try.prog 87 #[v] w fun e w' => e = .returned (.int .i64 0) ∧ w = w' := by
  obtain ⟨p, rfl, hB⟩ := h
  have c0 := hB.cell' (i := 0) rfl
  clear hB
  go_enter Try.func87, Try.ntmps87
  go_wp2
  go_ret
  exact ⟨rfl, rfl⟩
theorem rwrong_no (v : Value) (at_ : Int) (w : World) (h : NoRk w v) : Calls Try.prog 120 #[v, .int .i64 at_] w fun e w' => e = .returned (.int .i64 1) ∧ w = w' := by
  obtain ⟨p, rfl, hB⟩ := h
  have c0 := hB.cell' (i := 0) rfl
  clear hB
  go_enter Try.func120, Try.ntmps120
  go_wp2
  go_ret
  exact ⟨rfl, rfl⟩
theorem rwrong_any (p n cap : Nat) (ao : Option Addr) (R : Value) (at_ E : Int) (w : World) (hB : Blk w p 106 [.slice ao n cap, R]) (h : 1 ≤ n) (hE : noneE n at_ = E) :
    Calls Try.prog 120 #[.pointer (some ⟨p, 0, none⟩), .int .i64 at_] w fun e w' => e = .returned (.int .i64 E) ∧ w = w' := by
  have c0 := hB.cell' (i := 0) rfl
  have y1 : (n == 0) = false := by simp; omega
  have y2 : ((n : Int) == 0) = false := by simp; omega
  clear hB
  by_cases h1 : at_ < 0
  · have hE' : E = 50 := by rw [← hE]; unfold noneE; rw [if_pos (.inl h1)]
    subst hE'
    clear hE
    have e1 : decide (at_ < 0) = true := decide_eq_true h1
    go_enter Try.func120, Try.ntmps120
    go_wp2
    go_ret
    exact ⟨rfl, rfl⟩
  · have e1 : decide (at_ < 0) = false := decide_eq_false h1
    by_cases h2 : (n : Int) ≤ at_
    · have hE' : E = 50 := by rw [← hE]; unfold noneE; rw [if_pos (.inr h2)]
      subst hE'
      clear hE
      have e2 : decide ((n : Int) ≤ at_) = true := decide_eq_true h2
      go_enter Try.func120, Try.ntmps120
      go_wp2
      go_ret
      exact ⟨rfl, rfl⟩
    · have hE' : E = 0 := by rw [← hE]; unfold noneE; rw [if_neg (by omega)]
      subst hE'
      clear hE
      have e2 : decide ((n : Int) ≤ at_) = false := decide_eq_false h2
      go_enter Try.func120, Try.ntmps120
      go_wp2
      go_ret
      exact ⟨rfl, rfl⟩
end Go.Proofs.Ytkedbphdflhhlaa
