import Derived.Test.YtboigcnpamldlaaDoorLentC
set_option linter.unusedVariables false
set_option linter.unusedSimpArgs false
set_option maxRecDepth 100000
namespace Go.Proofs.YtboigcnpamldlaaDoor
open Go.RowKit Gw

set_option maxHeartbeats 1000000 in
theorem refNumber_any (N k : Nat) (w : World) (hk : k ≤ 8) (hN : N < 18446744073709551616) :
    Calls Tryd.prog 41 #[.int .u64 N, .int .i64 k] w fun e w' => ∃ v, e = .returned v ∧ Ob w' v (low N k) ∧ New w v ∧ Mod [] w w' := by
  go_enter Tryd.func41, Tryd.ntmps41
  go_wp2_with fail
  go_loopw [0, 5, 6] (fun n out i wr => ∃ (j M : Nat) (ao : Option Addr) (cap : Nat), j ≤ k ∧ n = .int .u64 M ∧ RowKit.Hid (M = N / 256 ^ j) ∧ M < 18446744073709551616 ∧ out = .slice ao j cap ∧ i = .int .i64 j ∧ Mod [] w wr ∧ Ow wr 5 1 (.slice ao j cap) j (bv (low N j)) ∧ ∀ k ∈ blks (.slice ao j cap), w.heap.size ≤ k) (fun _ _ i _ => k - (intOf i).toNat)
  case atStart => exact ⟨0, N, none, 0, by omega, rfl, Lib.hid (by simp), hN, rfl, rfl, Mod.refl _ _, Ow.nil _ _ _, by simp [blks]⟩
  case round =>
    obtain ⟨j, M, ao, cap, hj, rfl, hM, hM2, rfl, rfl, hmr, hor, hnr⟩ := hrel
    by_cases hlt : j < k
    · have y0 : (j : Int) < k := by omega
      have y1 : (M : Int) ≤ 18446744073709551615 := by omega
      have y2 : (0 : Int) ≤ (M : Int) := by omega
      have y3 : (M : Int) % 256 = ((UInt8.ofNat M).toNat : Int) := by rw [UInt8.toNat_ofNat']; omega
      have Y3 := Lib.hid y3
      clear y3
      go_wp2_with (with_reducible refine st_bslice ?_)
      refine StopOp.go rfl fun K hK => ?_
      refine wp_bslice stB [.int .u8 ((M : Int) % 256)] rfl (by decide) (by rfl) (by simp [Value.cells]) ?_
      intro c w4 hc1 hc2 hm4 hB4
      simp only [put_some, List.set_cons_succ, List.set_cons_zero]
      refine hK _ _ ?_
      clear hK K
      simp only [Y3.out] at hB4
      have hb4 : Bs w4 (.slice (some ⟨c, 0, none⟩) 1 1) [UInt8.ofNat M] := Bs.of_blk (l := [UInt8.ofNat M]) (rest := []) hB4 (by simp) (by omega)
      have hor4 := hor.ext hm4
      go_wp2_with (with_reducible refine st_append ?_)
      refine StopOp.go rfl fun K hK => ?_
      refine wp_append_ow stB (by rfl) (by rfl) hor4 hb4 (bv_one _) (by simp; omega) (by simp; omega) ?_
      intro v5 w5 ho5 hm5 hb5
      simp only [put_some, List.set_cons_succ, List.set_cons_zero]
      refine hK _ _ ?_
      clear hK K
      rw [List.length_singleton] at ho5
      obtain ⟨ao5, cap5, rfl, _, _⟩ := ho5.sl.form
      have s4 := hm4.size
      have sr := hmr.size
      go_wp2_with fail
      go_roundw
      case rel =>
        refine ⟨j + 1, M / 256, ao5, cap5, by omega, by go_num, Lib.hid (by rw [hM.out, Nat.div_div_eq_div_mul, Nat.pow_succ]), by omega, rfl, by go_num, (hmr.ext hm4).fresh hm5 hnr, ?_, fun k hk => (hb5 k hk).elim (hnr k) fun h => by omega⟩
        rw [low_succ, bv_append, ← hM.out]
        exact ho5
      case measure => simp [intOf]; omega
    · obtain rfl : j = k := by omega
      go_wp2_with fail
      go_ret
      refine ⟨_, rfl, ?_, hnr, hmr⟩
      unfold Ob
      rw [low_length]
      exact hor
end Go.Proofs.YtboigcnpamldlaaDoor
