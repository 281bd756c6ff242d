import Derived.Test.YtkedbphdflhhlaaOctG
set_option linter.unusedVariables false
set_option linter.unusedSimpArgs false
set_option maxRecDepth 100000
namespace Go.Proofs.Ytkedbphdflhhlaa
open Go.RowKit Gw

/-- what a call that only makes new memory leaves -/
def Quiet (w : World) (e : Ending) (w' : World) : Prop := e = .returned (.tuple #[]) ∧ Mod [] w w'

set_option maxHeartbeats 400000 in
theorem add_nil (v : Value) (w : World) : Calls Try.prog 71 #[.pointer none, v] w (Quiet w) := by
  go_enter Try.func71, Try.ntmps71
  go_wp2_with fail
  go_end0
  exact ⟨rfl, Mod.refl _ _⟩

set_option maxHeartbeats 400000 in
theorem put_nil (v : Value) (w : World) : Calls Try.prog 20 #[.pointer none, v] w (Quiet w) := by
  go_enter Try.func20, Try.ntmps20
  go_wp2_with (go_at_call 71; refine (add_nil _ _).mono ?_; rintro e w1 ⟨rfl, h1⟩)
  go_end0
  exact ⟨rfl, h1⟩

set_option maxHeartbeats 400000 in
theorem number_nil (n k : Nat) (w : World) (hk : k ≤ 8) (hn : n < 18446744073709551616) :
    Calls Try.prog 69 #[.pointer none, .int .u64 n, .int .i64 k] w (Quiet w) := by
  go_enter Try.func69, Try.ntmps69
  go_wp2_with (with_reducible refine st_make ?_)
  refine StopOp.go rfl fun K hK => ?_
  refine wp_make stB (by rfl) (by rfl) rfl rfl (Nat.le_refl _) (by omega) (by omega) ?_
  intro b w1 hb1 hb2 hm1 hB1
  simp only [put_some, List.set_cons_succ, List.set_cons_zero]
  refine hK _ _ ?_
  clear hK K
  go_wp2_with fail
  go_loopw [12] (fun i wr => ∃ j : Nat, j ≤ k ∧ i = .int .i64 j ∧ Mod [] w wr ∧ Blk wr b 5 (bv (low n j) ++ List.replicate (k - j) (.int .u8 0))) (fun i _ => k - (intOf i).toNat)
  case atStart => exact ⟨0, Nat.zero_le _, rfl, hm1, by simpa [low, bv, Value.cells, List.flatten_replicate_singleton] using hB1⟩
  case round =>
    obtain ⟨j, hj, rfl, hmr, hBr⟩ := hrel
    by_cases hlt : j < k
    · go_wp2_with (with_reducible refine st_store ?_)
      refine StopOp.go rfl fun K hK => ?_
      refine wp_store1 (by kernel_rfl) (by rfl) (u := .int .u8 ((n : Int) / 2 ^ (8 * j) % 256)) (by rfl) ⟨rfl, rfl⟩ hBr (by simp [bv_length, low_length]; omega) ?_
      intro w2 hm2 hB2
      refine hK _ _ ?_
      clear hK K
      rw [low_set n k j hlt] at hB2
      go_wp2_with fail
      go_roundw
      case rel => exact ⟨j + 1, by omega, by go_num, hmr.fresh hm2 (by simpa using hb1), hB2⟩
      case measure => simp [intOf]; omega
    · obtain rfl : j = k := by omega
      go_wp2_with (go_at_call 71; refine (add_nil _ _).mono ?_; rintro e w2 ⟨rfl, hm2⟩)
      go_end0
      exact ⟨rfl, hmr.ext hm2⟩
theorem number_nili (n : Int) (k : Nat) (kk : Int) (w : World) (hkk : kk = k) (hk : k ≤ 8) (h0 : 0 ≤ n) (hn : n ≤ 18446744073709551615) :
    Calls Try.prog 69 #[.pointer none, .int .u64 n, .int .i64 kk] w (Quiet w) := by
  subst hkk
  obtain ⟨m, rfl⟩ := Int.eq_ofNat_of_zero_le h0
  exact number_nil m k w hk (by omega)

set_option maxHeartbeats 400000 in
theorem byte_nil (n : Int) (w : World) (h0 : 0 ≤ n) (hn : n ≤ 255) :
    Calls Try.prog 22 #[.pointer none, .int .u8 n] w (Quiet w) := by
  go_enter Try.func22, Try.ntmps22
  go_wp2_with (go_at_call 69; refine (number_nili n 1 _ _ rfl (by omega) h0 (by omega)).mono ?_; rintro e w1 ⟨rfl, h1⟩)
  go_end0
  exact ⟨rfl, h1⟩

set_option maxHeartbeats 400000 in
theorem two_nil (n : Int) (w : World) (h0 : 0 ≤ n) (hn : n ≤ 65535) :
    Calls Try.prog 15 #[.pointer none, .int .u16 n] w (Quiet w) := by
  go_enter Try.func15, Try.ntmps15
  go_wp2_with (go_at_call 69; refine (number_nili n 2 _ _ rfl (by omega) h0 (by omega)).mono ?_; rintro e w1 ⟨rfl, h1⟩)
  go_end0
  exact ⟨rfl, h1⟩

set_option maxHeartbeats 400000 in
theorem four_nil (n : Int) (w : World) (h0 : 0 ≤ n) (hn : n ≤ 4294967295) :
    Calls Try.prog 16 #[.pointer none, .int .u32 n] w (Quiet w) := by
  go_enter Try.func16, Try.ntmps16
  go_wp2_with (go_at_call 69; refine (number_nili n 4 _ _ rfl (by omega) h0 (by omega)).mono ?_; rintro e w1 ⟨rfl, h1⟩)
  go_end0
  exact ⟨rfl, h1⟩

set_option maxHeartbeats 400000 in
theorem eight_nil (n : Int) (w : World) (h0 : 0 ≤ n) (hn : n ≤ 18446744073709551615) :
    Calls Try.prog 17 #[.pointer none, .int .u64 n] w (Quiet w) := by
  go_enter Try.func17, Try.ntmps17
  go_wp2_with (go_at_call 69; refine (number_nili n 8 _ _ rfl (by omega) h0 (by omega)).mono ?_; rintro e w1 ⟨rfl, h1⟩)
  go_end0
  exact ⟨rfl, h1⟩

set_option maxHeartbeats 400000 in
theorem len_nil (w : World) : Calls Try.prog 33 #[.pointer none] w fun e w' => e = .returned (.int .i64 0) ∧ w = w' := by
  go_enter Try.func33, Try.ntmps33
  go_wp2_with fail
  go_ret
  exact ⟨rfl, rfl⟩
set_option maxHeartbeats 400000 in
theorem out_nil (w : World) : Calls Try.prog 18 #[.pointer none] w fun e w' => e = .returned (.slice none 0 0) ∧ w = w' := by
  go_enter Try.func18, Try.ntmps18
  go_wp2_with fail
  go_ret
  exact ⟨rfl, rfl⟩

/-- a reader that is none -/
def Rn (w : World) (v : Value) : Prop := v = .pointer none ∨ ∃ r, v = .pointer (some ⟨r, 0, none⟩) ∧ Blk w r 80 [.pointer none]
theorem Rn.ext {w w' : World} {v : Value} (h : Rn w v) (hm : Mod [] w w') : Rn w' v := by
  rcases h with h | ⟨r, h, hB⟩
  · exact .inl h
  · exact .inr ⟨r, h, hB.ext hm⟩

set_option maxHeartbeats 400000 in
theorem made_none (v : Value) (w : World) (h : Rn w v) : Calls Try.prog 72 #[v] w fun e w' => e = .returned (.bool false) ∧ w = w' := by
  rcases h with rfl | ⟨r, rfl, hB⟩
  · go_enter Try.func72, Try.ntmps72
    go_wp2_with fail
    go_ret
    exact ⟨rfl, rfl⟩
  · have c0 := hB.cell' (i := 0) rfl
    go_enter Try.func72, Try.ntmps72
    go_wp2_with fail
    go_ret
    exact ⟨rfl, rfl⟩
set_option maxHeartbeats 400000 in
theorem next_none (v : Value) (k : Int) (w : World) (h : Rn w v) : Calls Try.prog 83 #[v, .int .i64 k] w fun e w' => e = .returned (.int .u64 0) ∧ w = w' := by
  go_enter Try.func83, Try.ntmps83
  go_wp2_with (go_at_call 72; refine (made_none _ _ h).mono ?_; rintro e w1 ⟨rfl, rfl⟩)
  go_ret
  exact ⟨rfl, rfl⟩

set_option maxHeartbeats 400000 in
theorem rbyte_none (v : Value) (w : World) (h : Rn w v) : Calls Try.prog 41 #[v] w fun e w' => e = .returned (.int .u8 0) ∧ w = w' := by
  go_enter Try.func41, Try.ntmps41
  go_wp2_with (go_at_call 83; refine (next_none _ _ _ h).mono ?_; rintro e w1 ⟨rfl, rfl⟩)
  go_ret
  exact ⟨rfl, rfl⟩

set_option maxHeartbeats 400000 in
theorem rtwo_none (v : Value) (w : World) (h : Rn w v) : Calls Try.prog 43 #[v] w fun e w' => e = .returned (.int .u16 0) ∧ w = w' := by
  go_enter Try.func43, Try.ntmps43
  go_wp2_with (go_at_call 83; refine (next_none _ _ _ h).mono ?_; rintro e w1 ⟨rfl, rfl⟩)
  go_ret
  exact ⟨rfl, rfl⟩

set_option maxHeartbeats 400000 in
theorem rfour_none (v : Value) (w : World) (h : Rn w v) : Calls Try.prog 44 #[v] w fun e w' => e = .returned (.int .u32 0) ∧ w = w' := by
  go_enter Try.func44, Try.ntmps44
  go_wp2_with (go_at_call 83; refine (next_none _ _ _ h).mono ?_; rintro e w1 ⟨rfl, rfl⟩)
  go_ret
  exact ⟨rfl, rfl⟩

set_option maxHeartbeats 400000 in
theorem reight_none (v : Value) (w : World) (h : Rn w v) : Calls Try.prog 45 #[v] w fun e w' => e = .returned (.int .u64 0) ∧ w = w' := by
  go_enter Try.func45, Try.ntmps45
  go_wp2_with (go_at_call 83; refine (next_none _ _ _ h).mono ?_; rintro e w1 ⟨rfl, rfl⟩)
  go_ret
  exact ⟨rfl, rfl⟩

set_option maxHeartbeats 400000 in
theorem rtake_none (v : Value) (n : Int) (w : World) (h : Rn w v) : Calls Try.prog 25 #[v, .int .i64 n] w fun e w' => e = .returned (.slice none 0 0) ∧ w = w' := by
  go_enter Try.func25, Try.ntmps25
  go_wp2_with (go_at_call 72; refine (made_none _ _ h).mono ?_; rintro e w1 ⟨rfl, rfl⟩)
  go_ret
  exact ⟨rfl, rfl⟩
set_option maxHeartbeats 400000 in
theorem left_none (v : Value) (w : World) (h : Rn w v) : Calls Try.prog 26 #[v] w fun e w' => e = .returned (.int .i64 0) ∧ w = w' := by
  go_enter Try.func26, Try.ntmps26
  go_wp2_with (go_at_call 72; refine (made_none _ _ h).mono ?_; rintro e w1 ⟨rfl, rfl⟩)
  go_ret
  exact ⟨rfl, rfl⟩
set_option maxHeartbeats 400000 in
theorem err_none (v : Value) (w : World) (h : Rn w v) : Calls Try.prog 48 #[v] w fun e w' => e = .returned (.int .i64 1) ∧ w = w' := by
  go_enter Try.func48, Try.ntmps48
  go_wp2_with (go_at_call 72; refine (made_none _ _ h).mono ?_; rintro e w1 ⟨rfl, rfl⟩)
  go_ret
  exact ⟨rfl, rfl⟩
set_option maxHeartbeats 400000 in
theorem end_none (v : Value) (w : World) (h : Rn w v) : Calls Try.prog 49 #[v] w fun e w' => e = .returned (.int .i64 1) ∧ w = w' := by
  go_enter Try.func49, Try.ntmps49
  go_wp2_with (go_at_call 48; refine (err_none _ _ h).mono ?_; rintro e w1 ⟨rfl, rfl⟩)
  go_ret
  exact ⟨rfl, rfl⟩

end Go.Proofs.Ytkedbphdflhhlaa
