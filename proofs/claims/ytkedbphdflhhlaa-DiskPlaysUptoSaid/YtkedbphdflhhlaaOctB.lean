import Derived.Test.YtkedbphdflhhlaaOctA
set_option linter.unusedVariables false
set_option linter.unusedSimpArgs false
set_option maxRecDepth 100000
namespace Go.Proofs.Ytkedbphdflhhlaa
open Go.RowKit Gw

/-- the lowest k bytes of a number -/
def low (n k : Nat) : List UInt8 := (List.range k).map fun i => UInt8.ofNat (n / 256 ^ i)
theorem low_length (n k : Nat) : (low n k).length = k := by simp [low]
theorem low_succ (n j : Nat) : low n (j + 1) = low n j ++ [UInt8.ofNat (n / 256 ^ j)] := by simp [low, List.range_succ]
theorem low_cell (n j : Nat) : (n : Int) / 2 ^ (8 * j) % 256 = ((UInt8.ofNat (n / 256 ^ j)).toNat : Int) := by
  have h : (2 : Int) ^ (8 * j) = ((256 ^ j : Nat) : Int) := by rw [Int.pow_mul]; norm_cast
  rw [h, UInt8.toNat_ofNat']
  norm_cast
theorem low_set (n k j : Nat) (hj : j < k) : (bv (low n j) ++ List.replicate (k - j) (Value.int .u8 0)).set j (Value.int .u8 ((n : Int) / 2 ^ (8 * j) % 256)) = bv (low n (j + 1)) ++ List.replicate (k - (j + 1)) (Value.int .u8 0) := by
  obtain ⟨m, hm⟩ : ∃ m, k - j = m + 1 := ⟨k - j - 1, by omega⟩
  rw [List.set_append_right _ _ (by simp [bv_length, low_length])]
  rw [hm, bv_length, low_length, Nat.sub_self, List.replicate_succ, List.set_cons_zero, low_succ, bv_append, List.append_assoc, low_cell]
  rw [show k - (j + 1) = m by omega]
  rfl

theorem Wv.ext {w w' : World} {g : Nat} {v : Value} {l : List UInt8} (h : Wv w g v l) (hm : Mod [] w w') : Wv w' g v l := ⟨h.1.ext hm, h.2.ext hm⟩
set_option maxHeartbeats 400000 in
theorem number_v (g : Nat) (v : Value) (xs : List UInt8) (n k : Nat) (w : World) (hw : Wv w g v xs) (hk : k ≤ 8) (hn : n < 18446744073709551616) (hl : xs.length + k ≤ 140737488355328) :
    Calls Try.prog 69 #[.pointer (some ⟨g, 0, none⟩), .int .u64 n, .int .i64 k] w (PutV w g v xs (xs ++ low n k)) := by
  go_enter Try.func69, Try.ntmps69
  go_wp2_with (with_reducible refine st_make ?_)
  refine StopOp.go rfl fun K hK => ?_
  refine wp_make stB (by rfl) (by rfl) rfl rfl (Nat.le_refl _) (by omega) (by omega) ?_
  intro b w1 hb1 hb2 hm1 hB1
  simp only [put_some, List.set_cons_succ, List.set_cons_zero]
  refine hK _ _ ?_
  clear hK K
  go_wp2_with fail
  go_loopw [12] (fun i wr => ∃ j : Nat, j ≤ k ∧ i = .int .i64 j ∧ Mod [] w wr ∧ Blk wr b 5 (bv (low n j) ++ List.replicate (k - j) (.int .u8 0))) (fun i _ => k - (intOf i).toNat)
  case atStart => exact ⟨0, Nat.zero_le _, rfl, hm1, by simpa [low, bv, Value.cells, List.flatten_replicate_singleton] using hB1⟩
  case round =>
    obtain ⟨j, hj, rfl, hmr, hBr⟩ := hrel
    by_cases hlt : j < k
    · go_wp2_with (with_reducible refine st_store ?_)
      refine StopOp.go rfl fun K hK => ?_
      refine wp_store1 (by kernel_rfl) (by rfl) (u := .int .u8 ((n : Int) / 2 ^ (8 * j) % 256)) (by rfl) ⟨rfl, rfl⟩ hBr (by simp [bv_length, low_length]; omega) ?_
      intro w2 hm2 hB2
      refine hK _ _ ?_
      clear hK K
      rw [low_set n k j hlt] at hB2
      go_wp2_with fail
      go_roundw
      case rel => exact ⟨j + 1, by omega, by go_num, hmr.fresh hm2 (by simpa using hb1), hB2⟩
      case measure => simp [intOf]; omega
    · obtain rfl : j = k := by omega
      simp only [Nat.sub_self, List.replicate_zero] at hBr
      have hbs : Bs wr (.slice (some ⟨b, 0, none⟩) j j) (low n j) := by
        have := Bs.of_blk hBr (c := j) (by simp [low_length]) (by omega)
        rwa [low_length] at this
      go_wp2_with (go_at_call 71; refine (add_v g v xs (low n j) _ _ (hw.ext hmr) hbs (by rw [low_length]; omega)).mono ?_; rintro e w2 ⟨rfl, v2, hw2, hl2, hm2⟩)
      go_end0
      exact ⟨rfl, v2, hw2, hl2.imp id fun h k hk => Nat.le_trans hmr.size (h k hk), (hmr.weak (by simp)).trans hm2⟩
theorem number_any (g : Nat) (xs : List UInt8) (n k : Nat) (w : World) (hw : Wr w g xs) (hk : k ≤ 8) (hn : n < 18446744073709551616) (hl : xs.length + k ≤ 140737488355328) :
    Calls Try.prog 69 #[.pointer (some ⟨g, 0, none⟩), .int .u64 n, .int .i64 k] w (PutPost w g (xs ++ low n k)) := of_v (fun v h => number_v g v xs n k w h hk hn hl) hw
end Go.Proofs.Ytkedbphdflhhlaa
