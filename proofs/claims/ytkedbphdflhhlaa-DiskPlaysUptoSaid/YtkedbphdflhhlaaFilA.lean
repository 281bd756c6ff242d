import Derived.Test.YtkedbphdflhhlaaDkN
/-! What is written, told by a number. -/
set_option linter.unusedVariables false
set_option linter.unusedSimpArgs false
set_option maxRecDepth 100000
namespace Go.Proofs.Ytkedbphdflhhlaa
open Go.RowKit Gw

/-- the i-th byte of what a number tells -/
def fillI (x : Int) (i : Nat) : Int := wrap64 (x + wrap64 (i * Int.tmod x 5)) % 256
def fillB (x : Int) (i : Nat) : UInt8 := UInt8.ofNat (fillI x i).toNat
theorem fillB_eq (x : Int) (i : Nat) : fillI x i = ((fillB x i).toNat : Nat) := by
  have h1 : 0 ≤ fillI x i := Int.emod_nonneg _ (by decide)
  have h2 : fillI x i < 256 := Int.emod_lt_of_pos _ (by decide)
  unfold fillB
  rw [UInt8.toNat_ofNat']
  omega
def fillL (x : Int) (n : Nat) : List UInt8 := (List.range n).map (fillB x)
theorem fillL_len (x : Int) (n : Nat) : (fillL x n).length = n := by simp [fillL]
theorem fillL_succ (x : Int) (n : Nat) : fillL x (n + 1) = fillL x n ++ [fillB x n] := by simp [fillL, List.range_succ]
theorem fillL_at (x : Int) {n i : Nat} (h : i < n) : (fillL x n)[i]? = some (fillB x i) := by simp [fillL, h]

set_option maxHeartbeats 1000000 in
theorem fill_any (x : Int) (n : Nat) (w : World) (hn : n ≤ 100000) :
    Calls Try.prog 36 #[.int .i64 x, .int .i64 (n : Nat)] w fun e w' => ∃ v, e = .returned v ∧ Ob w' v (fillL x n) ∧ New w v ∧ Mod [] w w' := by
  go_enter Try.func36, Try.ntmps36
  go_wp2_with (with_reducible refine st_make ?_)
  refine StopOp.go rfl fun K hK => ?_
  refine wp_make (nl := n) (nc := n) stB (by rfl) (by rfl) rfl rfl (Nat.le_refl _) (by omega) (by omega) ?_
  intro g w1 hg1 hg2 hm1 hB1
  simp only [put_some, List.set_cons_succ, List.set_cons_zero]
  refine hK _ _ ?_
  clear hK K
  go_wp2_with fail
  go_loopw [6] (fun i wr => ∃ (j : Nat), j ≤ n ∧ i = .int .i64 j ∧ Mod [] w wr ∧ Blk wr g 5 (bv (fillL x j) ++ List.replicate (n - j) (Value.int .u8 0))) (fun i _ => n - (intOf i).toNat)
  case atStart => exact ⟨0, by omega, rfl, hm1, by have h := hB1; rw [show (Value.int .u8 0).cells.toList = [Value.int .u8 0] from rfl, ← bv_zeros] at h; simpa [zeros, bv, fillL] using h⟩
  case round =>
    obtain ⟨j, hj, rfl, hmr, hBr⟩ := hrel
    by_cases hlt : j < n
    · have y0 : (j : Int) < n := by omega
      go_wp2_with (with_reducible refine st_store ?_)
      refine StopOp.go rfl fun K hK => ?_
      refine wp_store1 (by kernel_rfl) (by rfl) (u := .int .u8 (fillI x j)) (by rfl) ⟨rfl, rfl⟩ hBr (by simp [bv, fillL]; omega) ?_
      intro w4 hm4 hB4
      refine hK _ _ ?_
      clear hK K
      go_wp2_with fail
      go_roundw
      case rel =>
        refine ⟨j + 1, by omega, by go_num, hmr.fresh hm4 (by simpa using hg1), ?_⟩
        have e : (bv (fillL x j) ++ List.replicate (n - j) (Value.int .u8 0)).set j (.int .u8 (fillI x j)) = bv (fillL x (j + 1)) ++ List.replicate (n - (j + 1)) (Value.int .u8 0) := by
          rw [show n - j = (n - (j + 1)) + 1 by omega, List.replicate_succ, List.set_append_right _ _ (by simp [bv, fillL]), fillL_succ, bv_append, fillB_eq]
          simp [bv, fillL]
        rw [← e]
        exact hB4
      case measure => simp [intOf]; omega
    · obtain rfl : j = n := by omega
      go_wp2_with fail
      go_ret
      refine ⟨_, rfl, ?_, fun q hq => by rw [show q = g by simpa [blks] using hq]; exact hg1, hmr⟩
      unfold Ob
      rw [fillL_len]
      exact Ow.of_blk (rest := []) (by simpa using hBr) (Nat.le_refl _) (by omega) (by simp [bv, fillL]) (by simp [bv, fillL])
end Go.Proofs.Ytkedbphdflhhlaa
