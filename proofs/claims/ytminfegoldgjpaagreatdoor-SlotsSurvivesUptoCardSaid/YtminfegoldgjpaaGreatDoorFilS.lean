import Derived.Test.YtminfegoldgjpaaGreatDoorGDk
set_option linter.unusedVariables false
set_option linter.unusedSimpArgs false
set_option maxRecDepth 100000
namespace Go.Proofs.YtminfegoldgjpaaGreatDoor
open Go.RowKit Gw
def filSI (x : Int) (i : Nat) : Int := wrap64 (wrap64 (x * 7) + wrap64 (i * (Int.tmod x 3 + 1))) % 256
def filSB (x : Int) (i : Nat) : UInt8 := UInt8.ofNat (filSI x i).toNat
theorem filSB_eq (x : Int) (i : Nat) : filSI x i = ((filSB x i).toNat : Nat) := by
 have h1 : 0 ≤ filSI x i := Int.emod_nonneg _ (by decide)
 have h2 : filSI x i < 256 := Int.emod_lt_of_pos _ (by decide)
 unfold filSB
 rw [UInt8.toNat_ofNat']
 omega
def filS (x : Int) (n : Nat) : List UInt8 := (List.range n).map (filSB x)
theorem filS_len (x : Int) (n : Nat) : (filS x n).length = n := by simp [filS]
theorem filS_succ (x : Int) (n : Nat) : filS x (n + 1) = filS x n ++ [filSB x n] := by simp [filS, List.range_succ]
set_option maxHeartbeats 1000000 in
theorem sfill_blk (x : Int) (n : Nat) (w : World) (hn : n ≤ 100000) :
   Calls Tryz.prog 9 #[.int .i64 x, .int .i64 (n : Nat)] w fun e w' => ∃ g, e = .returned (.slice (some ⟨g, 0, none⟩) n n) ∧ Blk w' g 5 (bv (filS x n)) ∧ w.heap.size ≤ g ∧ Mod [] w w' := by
 have hq1 : -3 < Int.tmod x 3 := Int.lt_tmod_of_pos x (by omega)
 have hq2 : Int.tmod x 3 < 3 := Int.tmod_lt_of_pos x (by omega)
 have hq3 : -2 ≤ Int.tmod x 3 := by omega
 have hq4 : Int.tmod x 3 ≤ 2 := by omega
 clear hq1 hq2
 go_enter Tryz.func9, Tryz.ntmps9
 go_wp2_with (with_reducible refine st_make ?_)
 refine StopOp.go rfl fun K hK => ?_
 refine wp_make (nl := n) (nc := n) stB (by rfl) (by rfl) rfl rfl (Nat.le_refl _) (by omega) (by omega) ?_
 intro g w1 hg1 hg2 hm1 hB1
 simp only [put_some, List.set_cons_succ, List.set_cons_zero]
 refine hK _ _ ?_
 clear hK K
 go_wp2_with fail
 go_loopw [6] (fun i wr => ∃ (j : Nat), j ≤ n ∧ i = .int .i64 j ∧ Mod [] w wr ∧ Blk wr g 5 (bv (filS x j) ++ List.replicate (n - j) (Value.int .u8 0))) (fun i _ => n - (intOf i).toNat)
 case atStart => exact ⟨0, by omega, rfl, hm1, by have h := hB1; rw [show (Value.int .u8 0).cells.toList = [Value.int .u8 0] from rfl, ← bv_zeros] at h; simpa [zeros, bv, filS] using h⟩
 case round =>
   obtain ⟨j, hj, rfl, hmr, hBr⟩ := hrel
   by_cases hlt : j < n
   · have y0 : (j : Int) < n := by omega
     go_wp2_with (with_reducible refine st_store ?_)
     refine StopOp.go rfl fun K hK => ?_
     refine wp_store1 (by kernel_rfl) (by rfl) (u := .int .u8 (filSI x j)) (by rfl) ⟨rfl, rfl⟩ hBr (by simp [bv, filS]; omega) ?_
     intro w4 hm4 hB4
     refine hK _ _ ?_
     clear hK K
     go_wp2_with fail
     go_roundw
     case rel =>
       refine ⟨j + 1, by omega, by go_num, hmr.fresh hm4 (by simpa using hg1), ?_⟩
       have e : (bv (filS x j) ++ List.replicate (n - j) (Value.int .u8 0)).set j (.int .u8 (filSI x j)) = bv (filS x (j + 1)) ++ List.replicate (n - (j + 1)) (Value.int .u8 0) := by
         rw [show n - j = (n - (j + 1)) + 1 by omega, List.replicate_succ, List.set_append_right _ _ (by simp [bv, filS]), filS_succ, bv_append, filSB_eq]
         simp [bv, filS]
       rw [← e]
       exact hB4
     case measure => simp [intOf]; omega
   · obtain rfl : j = n := by omega
     go_wp2_with fail
     go_ret
     exact ⟨g, rfl, by simpa using hBr, hg1, hmr⟩
end Go.Proofs.YtminfegoldgjpaaGreatDoor
