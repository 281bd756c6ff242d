import Derived.Test.YtboigcnpamldlaaDoorOctG
set_option linter.unusedVariables false
set_option linter.unusedSimpArgs false
set_option maxRecDepth 100000
namespace Go.Proofs.YtboigcnpamldlaaDoor
open Go.RowKit Gw

/-- what a call that only makes new memory leaves -/
def Quiet (w : World) (e : Ending) (w' : World) : Prop := e = .returned (.tuple #[]) ∧ Mod [] w w'

set_option maxHeartbeats 400000 in
theorem add_nil (v : Value) (w : World) : Calls Tryd.prog 57 #[.pointer none, v] w (Quiet w) := by
  go_enter Tryd.func57, Tryd.ntmps57
  go_wp2_with fail
  go_end0
  exact ⟨rfl, Mod.refl _ _⟩

set_option maxHeartbeats 400000 in
theorem put_nil (v : Value) (w : World) : Calls Tryd.prog 37 #[.pointer none, v] w (Quiet w) := by
  go_enter Tryd.func37, Tryd.ntmps37
  go_wp2_with (go_at_call 57; refine (add_nil _ _).mono ?_; rintro e w1 ⟨rfl, h1⟩)
  go_end0
  exact ⟨rfl, h1⟩

set_option maxHeartbeats 400000 in
theorem number_nil (n k : Nat) (w : World) (hk : k ≤ 8) (hn : n < 18446744073709551616) :
    Calls Tryd.prog 56 #[.pointer none, .int .u64 n, .int .i64 k] w (Quiet w) := by
  go_enter Tryd.func56, Tryd.ntmps56
  go_wp2_with (with_reducible refine st_make ?_)
  refine StopOp.go rfl fun K hK => ?_
  refine wp_make stB (by rfl) (by rfl) rfl rfl (Nat.le_refl _) (by omega) (by omega) ?_
  intro b w1 hb1 hb2 hm1 hB1
  simp only [put_some, List.set_cons_succ, List.set_cons_zero]
  refine hK _ _ ?_
  clear hK K
  go_wp2_with fail
  go_loopw [12] (fun i wr => ∃ j : Nat, j ≤ k ∧ i = .int .i64 j ∧ Mod [] w wr ∧ Blk wr b 5 (bv (low n j) ++ List.replicate (k - j) (.int .u8 0))) (fun i _ => k - (intOf i).toNat)
  case atStart => exact ⟨0, Nat.zero_le _, rfl, hm1, by simpa [low, bv, Value.cells, List.flatten_replicate_singleton] using hB1⟩
  case round =>
    obtain ⟨j, hj, rfl, hmr, hBr⟩ := hrel
    by_cases hlt : j < k
    · go_wp2_with (with_reducible refine st_store ?_)
      refine StopOp.go rfl fun K hK => ?_
      refine wp_store1 (by kernel_rfl) (by rfl) (u := .int .u8 ((n : Int) / 2 ^ (8 * j) % 256)) (by rfl) ⟨rfl, rfl⟩ hBr (by simp [bv_length, low_length]; omega) ?_
      intro w2 hm2 hB2
      refine hK _ _ ?_
      clear hK K
      rw [low_set n k j hlt] at hB2
      go_wp2_with fail
      go_roundw
      case rel => exact ⟨j + 1, by omega, by go_num, hmr.fresh hm2 (by simpa using hb1), hB2⟩
      case measure => simp [intOf]; omega
    · obtain rfl : j = k := by omega
      go_wp2_with (go_at_call 57; refine (add_nil _ _).mono ?_; rintro e w2 ⟨rfl, hm2⟩)
      go_end0
      exact ⟨rfl, hmr.ext hm2⟩
theorem number_nili (n : Int) (k : Nat) (kk : Int) (w : World) (hkk : kk = k) (hk : k ≤ 8) (h0 : 0 ≤ n) (hn : n ≤ 18446744073709551615) :
    Calls Tryd.prog 56 #[.pointer none, .int .u64 n, .int .i64 kk] w (Quiet w) := by
  subst hkk
  obtain ⟨m, rfl⟩ := Int.eq_ofNat_of_zero_le h0
  exact number_nil m k w hk (by omega)

set_option maxHeartbeats 400000 in
theorem two_nil (n : Int) (w : World) (h0 : 0 ≤ n) (hn : n ≤ 65535) :
    Calls Tryd.prog 35 #[.pointer none, .int .u16 n] w (Quiet w) := by
  go_enter Tryd.func35, Tryd.ntmps35
  go_wp2_with (go_at_call 56; refine (number_nili n 2 _ _ rfl (by omega) h0 (by omega)).mono ?_; rintro e w1 ⟨rfl, h1⟩)
  go_end0
  exact ⟨rfl, h1⟩

set_option maxHeartbeats 400000 in
theorem four_nil (n : Int) (w : World) (h0 : 0 ≤ n) (hn : n ≤ 4294967295) :
    Calls Tryd.prog 38 #[.pointer none, .int .u32 n] w (Quiet w) := by
  go_enter Tryd.func38, Tryd.ntmps38
  go_wp2_with (go_at_call 56; refine (number_nili n 4 _ _ rfl (by omega) h0 (by omega)).mono ?_; rintro e w1 ⟨rfl, h1⟩)
  go_end0
  exact ⟨rfl, h1⟩

set_option maxHeartbeats 400000 in
theorem eight_nil (n : Int) (w : World) (h0 : 0 ≤ n) (hn : n ≤ 18446744073709551615) :
    Calls Tryd.prog 36 #[.pointer none, .int .u64 n] w (Quiet w) := by
  go_enter Tryd.func36, Tryd.ntmps36
  go_wp2_with (go_at_call 56; refine (number_nili n 8 _ _ rfl (by omega) h0 (by omega)).mono ?_; rintro e w1 ⟨rfl, h1⟩)
  go_end0
  exact ⟨rfl, h1⟩

set_option maxHeartbeats 400000 in
theorem out_nil (w : World) : Calls Tryd.prog 40 #[.pointer none] w fun e w' => e = .returned (.slice none 0 0) ∧ w = w' := by
  go_enter Tryd.func40, Tryd.ntmps40
  go_wp2_with fail
  go_ret
  exact ⟨rfl, rfl⟩

/-- a reader that is none -/
def Rn (w : World) (v : Value) : Prop := v = .pointer none ∨ ∃ r, v = .pointer (some ⟨r, 0, none⟩) ∧ Blk w r 115 [.pointer none]
theorem Rn.ext {w w' : World} {v : Value} (h : Rn w v) (hm : Mod [] w w') : Rn w' v := by
  rcases h with h | ⟨r, h, hB⟩
  · exact .inl h
  · exact .inr ⟨r, h, hB.ext hm⟩

set_option maxHeartbeats 400000 in
theorem made_none (v : Value) (w : World) (h : Rn w v) : Calls Tryd.prog 63 #[v] w fun e w' => e = .returned (.bool false) ∧ w = w' := by
  rcases h with rfl | ⟨r, rfl, hB⟩
  · go_enter Tryd.func63, Tryd.ntmps63
    go_wp2_with fail
    go_ret
    exact ⟨rfl, rfl⟩
  · have c0 := hB.cell' (i := 0) rfl
    go_enter Tryd.func63, Tryd.ntmps63
    go_wp2_with fail
    go_ret
    exact ⟨rfl, rfl⟩
set_option maxHeartbeats 400000 in
theorem next_none (v : Value) (k : Int) (w : World) (h : Rn w v) : Calls Tryd.prog 62 #[v, .int .i64 k] w fun e w' => e = .returned (.int .u64 0) ∧ w = w' := by
  go_enter Tryd.func62, Tryd.ntmps62
  go_wp2_with (go_at_call 63; refine (made_none _ _ h).mono ?_; rintro e w1 ⟨rfl, rfl⟩)
  go_ret
  exact ⟨rfl, rfl⟩

set_option maxHeartbeats 400000 in
theorem rtwo_none (v : Value) (w : World) (h : Rn w v) : Calls Tryd.prog 45 #[v] w fun e w' => e = .returned (.int .u16 0) ∧ w = w' := by
  go_enter Tryd.func45, Tryd.ntmps45
  go_wp2_with (go_at_call 62; refine (next_none _ _ _ h).mono ?_; rintro e w1 ⟨rfl, rfl⟩)
  go_ret
  exact ⟨rfl, rfl⟩

set_option maxHeartbeats 400000 in
theorem rfour_none (v : Value) (w : World) (h : Rn w v) : Calls Tryd.prog 49 #[v] w fun e w' => e = .returned (.int .u32 0) ∧ w = w' := by
  go_enter Tryd.func49, Tryd.ntmps49
  go_wp2_with (go_at_call 62; refine (next_none _ _ _ h).mono ?_; rintro e w1 ⟨rfl, rfl⟩)
  go_ret
  exact ⟨rfl, rfl⟩

set_option maxHeartbeats 400000 in
theorem reight_none (v : Value) (w : World) (h : Rn w v) : Calls Tryd.prog 47 #[v] w fun e w' => e = .returned (.int .u64 0) ∧ w = w' := by
  go_enter Tryd.func47, Tryd.ntmps47
  go_wp2_with (go_at_call 62; refine (next_none _ _ _ h).mono ?_; rintro e w1 ⟨rfl, rfl⟩)
  go_ret
  exact ⟨rfl, rfl⟩

set_option maxHeartbeats 400000 in
theorem rtake_none (v : Value) (n : Int) (w : World) (h : Rn w v) : Calls Tryd.prog 48 #[v, .int .i64 n] w fun e w' => e = .returned (.slice none 0 0) ∧ w = w' := by
  go_enter Tryd.func48, Tryd.ntmps48
  go_wp2_with (go_at_call 63; refine (made_none _ _ h).mono ?_; rintro e w1 ⟨rfl, rfl⟩)
  go_ret
  exact ⟨rfl, rfl⟩
set_option maxHeartbeats 400000 in
theorem err_none (v : Value) (w : World) (h : Rn w v) : Calls Tryd.prog 46 #[v] w fun e w' => e = .returned (.int .i64 1) ∧ w = w' := by
  go_enter Tryd.func46, Tryd.ntmps46
  go_wp2_with (go_at_call 63; refine (made_none _ _ h).mono ?_; rintro e w1 ⟨rfl, rfl⟩)
  go_ret
  exact ⟨rfl, rfl⟩
end Go.Proofs.YtboigcnpamldlaaDoor
