import Derived.Test.YtkedbphdflhhlaaDkT
import Derived.Test.YtkedbphdflhhlaaDkU
/-! Disks: New. -/
set_option linter.unusedVariables false
set_option linter.unusedSimpArgs false
set_option maxRecDepth 100000
namespace Go.Proofs.Ytkedbphdflhhlaa
open Go.RowKit Gw

theorem bv_zeros (n : Nat) : bv (zeros n) = (List.replicate n [Value.int .u8 0]).flatten := by
  unfold bv zeros
  rw [List.map_replicate]
  induction n with
  | zero => rfl
  | succ n ih => rw [List.replicate_succ, List.replicate_succ, List.flatten_cons, ih]; rfl
theorem Ob.made {w : World} {g n : Nat} (h : Blk w g 5 ((List.replicate n (Value.int .u8 0).cells.toList).flatten)) (hn : n ≤ 9223372036854775807) : Ob w (.slice (some ⟨g, 0, none⟩) n n) (zeros n) := by
  unfold Ob
  have hl : (zeros n).length = n := by simp [zeros]
  rw [hl, bv_zeros]
  exact Ow.of_blk (rest := []) (by simpa [Value.cells] using h) (Nat.le_refl _) hn (by simp) (by simp)
def NewD (s z : Nat) (w : World) (e : Ending) (w' : World) : Prop := ∃ p L, e = .returned (.tuple #[.pointer (some ⟨p, 0, none⟩), .int .i64 0]) ∧ Dk w' p ⟨z, List.replicate s (zeros z), []⟩ L ∧ (∀ k ∈ L, w.heap.size ≤ k) ∧ Mod [] w w'
theorem dnew_no (s z : Int) (w : World) (h : mayD s z = false) : Calls Try.prog 35 #[.int .i64 s, .int .i64 z] w fun e w' => e = .returned (.tuple #[.pointer none, .int .i64 2]) ∧ w = w' := by
  have M := fun w => may_any s z false w h
  clear h
  go_enter Try.func35, Try.ntmps35
  go_wp2_with (go_at_call 77; (with_reducible refine (M _).mono ?_); rintro e w1 ⟨rfl, rfl⟩)
  go_ret2
  exact ⟨rfl, rfl⟩
set_option maxRecDepth 1000000 in
set_option maxHeartbeats 4000000 in
theorem dnew_yes (s z : Nat) (w : World) (h : mayD s z = true) : Calls Try.prog 35 #[.int .i64 (s : Nat), .int .i64 (z : Nat)] w (NewD s z w) := by
  have M := fun w => may_any s z true w h
  obtain ⟨h1, h2, h3, h4⟩ := mayD_parts h
  clear h
  go_enter Try.func35, Try.ntmps35
  go_wp2_with (first
                | (with_reducible refine st_makeMap ?_)
                | (go_at_call 77; (with_reducible refine (M _).mono ?_); rintro e w1 ⟨rfl, rfl⟩))
  refine StopOp.go rfl fun K hK => ?_
  refine wp_makeMap ?_
  intro m w1 hm1 hm2 hmm hM1
  simp only [put_some, List.set_cons_succ, List.set_cons_zero]
  refine hK _ _ ?_
  clear hK K
  go_wp2_with (with_reducible refine st_box ?_)
  refine StopOp.go rfl fun K hK => ?_
  refine wp_box (v := .agg #[.int .i64 (z : Nat), .slice none 0 0, .slice none 0 0, .map (some m)]) (by rfl) ?_
  intro p w2 hp1 hp2 hmp hB2
  simp only [put_some, List.set_cons_succ, List.set_cons_zero]
  refine hK _ _ ?_
  clear hK K
  have hDk : DkB w2 p z (.slice none 0 0) (.slice none 0 0) m [] [] := ⟨hB2, Ow.nil _ _ _, Ow.nil _ _ _, hM1.ext hmp, Fam.nil _ _⟩
  have hM2 := hmm.ext hmp
  have hfp : ∀ k ∈ fpD p (.slice none 0 0) (.slice none 0 0) m [] [], w.heap.size ≤ k := by
    intro k hk
    have := hmm.size
    simp [fpD, blks] at hk
    omega
  clear hB2 hM1 hmm hmp
  go_wp2_with fail
  go_loopw [16] (fun i wr => ∃ (k : Nat) (D : Value) (dp : List (Value × List UInt8)), k ≤ s ∧ i = .int .i64 k ∧ DkB wr p z D (.slice none 0 0) m dp [] ∧ dp.map (·.2) = List.replicate k (zeros z) ∧ (∀ k ∈ fpD p D (.slice none 0 0) m dp [], w.heap.size ≤ k) ∧ Mod [] w wr) (fun i _ => s - (intOf i).toNat)
  case atStart => exact ⟨0, _, [], by omega, rfl, hDk, rfl, hfp, hM2⟩
  case round =>
    obtain ⟨k, D, dp, hk, rfl, hB, hdp, hf, hMr⟩ := hrel
    by_cases hlt : k < s
    · obtain ⟨aoD, capD, rfl, hcD, _⟩ := hB.dur.sl.form
      have hdl : dp.length = k := by have := congrArg List.length hdp; simpa using this
      have y0 : (k : Int) < s := by omega
      have y1 : (z : Int) ≤ 4096 := h4
      have HDP := Lib.hid hdp
      have HDL := Lib.hid hdl
      clear hdp hdl
      have c1 := hB.blk.cell' (i := 1) rfl
      go_wp2_with fail
      refine wp_region_T [⟨0, true, []⟩, ⟨1, true, []⟩, ⟨2, true, []⟩, ⟨3, true, []⟩, ⟨4, true, []⟩, ⟨5, true, []⟩, ⟨6, false, [2, 4]⟩, ⟨7, false, [2, 4]⟩, ⟨8, false, []⟩, ⟨9, true, []⟩, ⟨10, true, []⟩, ⟨11, false, []⟩] (by kernel_rfl) (by kernel_rfl) ?_
      have hm0 : Mod [] wr wr.drew := Mod.drew [] _
      have hB0 := hB.ext hm0
      obtain ⟨w0, hw0⟩ : ∃ x, x = wr.drew := ⟨_, rfl⟩
      rw [← hw0] at hB0 hm0 ⊢
      clear hw0 c1
      have c1 := hB0.blk.cell' (i := 1) rfl
      iterate 6 (refine wpT_n rfl rfl (fun K hK => ?_); go_wp2_with fail)
      refine wpT_e rfl rfl (fun K hK => ?_)
      refine wp_make (nl := z) (nc := z) stB (by rfl) (by rfl) rfl rfl (Nat.le_refl _) (by omega) (by omega) ?_
      intro g x1 hg1 hg2 hmx1 hBx1
      simp only [put_some, List.set_cons_succ, List.set_cons_zero]
      refine hK _ _ ⟨agains_cons rfl (again_const (fun _ => rfl)) (agains_cons rfl (again_load rfl rfl (hmx1.block p hB0.blk.lt (by simp)) hB0.blk.kinds) agains_nil), ?_⟩
      clear hK K
      have hob1 := Ob.made hBx1 (by omega)
      have hn1 : New w0 (.slice (some ⟨g, 0, none⟩) z z) := fun q hq => by rw [show q = g by simpa [blks] using hq]; exact hg1
      refine wpT_e rfl rfl (fun K hK => ?_)
      refine wp_bslice stDR [.slice (some ⟨g, 0, none⟩) z z] rfl (by decide) (by rfl) (by simp [Value.cells]) ?_
      intro q x2 hq1 hq2 hmx2 hBx2
      simp only [put_some, List.set_cons_succ, List.set_cons_zero]
      have hB1 := hB0.ext hmx1
      refine hK _ _ ⟨agains_cons rfl (again_const (fun _ => rfl)) (agains_cons rfl (again_load rfl rfl (hmx2.block p hB1.blk.lt (by simp)) hB1.blk.kinds) agains_nil), ?_⟩
      clear hK K
      have hS2 : Sl x2 1 (.slice (some ⟨q, 0, none⟩) 1 1) 1 [.slice (some ⟨g, 0, none⟩) z z] := (Ow.of_blk (rest := []) hBx2 (Nat.le_refl _) (by omega) rfl rfl : Ow x2 23 1 (.slice (some ⟨q, 0, none⟩) 1 1) 1 [.slice (some ⟨g, 0, none⟩) z z]).sl
      have hB2 := hB1.ext hmx2
      refine wpT_e0 rfl rfl (fun K hK => ?_)
      refine wp_append_ow stDR (by rfl) (by rfl) hB2.dur hS2 (by simp [Value.oneCell']) (by have := HDL.out; omega) (by have := HDL.out; omega) ?_
      intro D4 x4 hD4 hmx4 hb4
      simp only [put_some, List.set_cons_succ, List.set_cons_zero]
      refine hK _ _ ?_
      clear hK K
      have hp4 : Blk x4 p 110 _ := hB2.blk.mod hmx4 (Ow.ne hB2.dur hB2.blk (by decide))
      iterate 2 (refine wpT_n rfl rfl (fun K hK => ?_); go_wp2_with fail)
      refine wpT_e0 rfl rfl (fun K hK => ?_)
      refine wp_store1 (by kernel_rfl) (by rfl) (by rfl) hD4.sl.one hp4 (by simp) ?_
      intro x5 hmx5 hBx5
      refine hK _ _ ?_
      clear hK K
      have hfin := hB0.sector (hmx1.ext hmx2) (hob1.ext hmx2) hn1 hD4 hmx4 hb4 hmx5 (by simpa using hBx5)
      have hs0 := hMr.size
      have hs1 := hm0.size
      have hM5 : Mod [] w x5 := (hMr.ext hm0).fresh hfin.2.2 hf
      refine wpT_nil ?_
      go_wp2_with fail
      go_roundw
      case rel => exact ⟨k + 1, D4, _, by omega, by go_num, hfin.1, by rw [List.map_append, HDP.out, List.replicate_succ']; rfl, fun q hq => (hfin.2.1 q hq).elim (hf q) (fun h => by omega), hM5⟩
      case measure => simp [intOf]; omega
    · obtain rfl : k = s := by omega
      go_wp2_with fail
      go_ret2
      exact ⟨p, _, rfl, ⟨_, _, _, _, _, hB, by unfold Dm.of; rw [hdp]; rfl, rfl⟩, hf, hMr⟩
end Go.Proofs.Ytkedbphdflhhlaa
