import Derived.Test.YtfcoaiggpcjldaaDoorRpH
/-! RepliesNumbers. -/
set_option linter.unusedVariables false
set_option linter.unusedSimpArgs false
set_option maxRecDepth 100000
namespace Go.Proofs.YtfcoaiggpcjldaaDoor
open Go.RowKit Gw

theorem stRep : ST Tryd.prog 39 26 (.agg #[.int .u32 0, .int .i64 0, .int .i64 0, .int .u32 0, .int .i64 0, .int .i64 0, .int .i64 0]) 7 56 := ⟨Tryd.underlying39, by kernel_rfl, rfl, by decide⟩
def wrongL : List Value := [.agg #[.int .u32 1, .int .i64 0, .int .i64 200, .int .u32 0, .int .i64 0, .int .i64 0, .int .i64 0], .agg #[.int .u32 0, .int .i64 11, .int .i64 0, .int .u32 0, .int .i64 0, .int .i64 0, .int .i64 0], .agg #[.int .u32 0, .int .i64 1, .int .i64 0, .int .u32 0, .int .i64 1, .int .i64 0, .int .i64 0], .agg #[.int .u32 0, .int .i64 1, .int .i64 170, .int .u32 1, .int .i64 0, .int .i64 0, .int .i64 0], .agg #[.int .u32 0, .int .i64 10, .int .i64 0, .int .u32 0, .int .i64 0, .int .i64 0, .int .i64 65536], .agg #[.int .u32 0, .int .i64 7, .int .i64 0, .int .u32 0, .int .i64 0, .int .i64 (-1), .int .i64 0], .agg #[.int .u32 0, .int .i64 7, .int .i64 (-1), .int .u32 0, .int .i64 0, .int .i64 0, .int .i64 0], .agg #[.int .u32 0, .int .i64 7, .int .i64 65536, .int .u32 0, .int .i64 0, .int .i64 0, .int .i64 0], .agg #[.int .u32 0, .int .i64 0, .int .i64 2, .int .u32 0, .int .i64 0, .int .i64 0, .int .i64 0], .agg #[.int .u32 0, .int .i64 4, .int .i64 0, .int .u32 0, .int .i64 65536, .int .i64 0, .int .i64 0], .agg #[.int .u32 0, .int .i64 (-1), .int .i64 0, .int .u32 0, .int .i64 0, .int .i64 0, .int .i64 0]]
def rightL : List Value := [.agg #[.int .u32 0, .int .i64 0, .int .i64 200, .int .u32 0, .int .i64 0, .int .i64 0, .int .i64 0], .agg #[.int .u32 0, .int .i64 1, .int .i64 0, .int .u32 0, .int .i64 0, .int .i64 0, .int .i64 0], .agg #[.int .u32 0, .int .i64 8, .int .i64 65535, .int .u32 0, .int .i64 0, .int .i64 0, .int .i64 0], .agg #[.int .u32 0, .int .i64 2, .int .i64 200, .int .u32 0, .int .i64 0, .int .i64 0, .int .i64 0], .agg #[.int .u32 4294967295, .int .i64 6, .int .i64 0, .int .u32 4294967295, .int .i64 0, .int .i64 9223372036854775807, .int .i64 0], .agg #[.int .u32 0, .int .i64 10, .int .i64 0, .int .u32 0, .int .i64 0, .int .i64 0, .int .i64 65535], .agg #[.int .u32 0, .int .i64 4, .int .i64 0, .int .u32 0, .int .i64 65535, .int .i64 0, .int .i64 0]]
set_option maxRecDepth 1000000 in
set_option maxHeartbeats 16000000 in
theorem repliesNumbers_core (w : World) (hT : Tab w) : Calls Tryd.prog 5 #[] w fun e w' => e = .returned (.bool true) ∧ Mod [] w w' := by
  go_enter Tryd.func5, Tryd.ntmps5
  go_wp2_with (with_reducible refine st_bslice ?_)
  refine StopOp.go rfl fun K hK => ?_
  refine wp_bslice stRep wrongL rfl (by decide) (by rfl) (by simp [wrongL, Value.cells]) ?_
  intro p w1 hp1 hp2 hm1 hB1
  simp only [put_some, List.set_cons_succ, List.set_cons_zero]
  refine hK _ _ ?_
  clear hK K
  go_wp2_with fail
  go_loopw [2] (fun i wr => ∃ j : Nat, j ≤ 11 ∧ i = .int .i64 j ∧ Mod [] w wr ∧ Blk wr p 26 (wrongL.flatMap fun v => v.cells.toList)) (fun i _ => 11 - (intOf i).toNat)
  case atStart => exact ⟨0, by omega, rfl, hm1, hB1⟩
  case round =>
    obtain ⟨j, hj, rfl, hmr, hBr⟩ := hrel
    have hjs : j = 0 ∨ j = 1 ∨ j = 2 ∨ j = 3 ∨ j = 4 ∨ j = 5 ∨ j = 6 ∨ j = 7 ∨ j = 8 ∨ j = 9 ∨ j = 10 ∨ j = 11 := by omega
    rcases hjs with rfl | rfl | rfl | rfl | rfl | rfl | rfl | rfl | rfl | rfl | rfl | rfl
    · have CK := fun w h => rchk_val (⟨1, 0, 200, 0, 0, 0, 0⟩ : Rp) 210 (by decide) w h
      dsimp only [Rp.v] at CK
      have c0 := hBr.cell' (i := 0) rfl
      have c1 := hBr.cell' (i := 1) rfl
      have c2 := hBr.cell' (i := 2) rfl
      have c3 := hBr.cell' (i := 3) rfl
      have c4 := hBr.cell' (i := 4) rfl
      have c5 := hBr.cell' (i := 5) rfl
      have c6 := hBr.cell' (i := 6) rfl
      go_wp2_with (go_at_call 10; refine (CK _ (hT.ext hmr)).mono ?_; rintro e w9 ⟨rfl, hm9⟩)
      go_roundw
      case rel => exact ⟨1, by omega, by go_num, hmr.ext hm9, hBr.ext hm9⟩
      case measure => simp [intOf]
    · have CK := fun w h => rchk_val (⟨0, 11, 0, 0, 0, 0, 0⟩ : Rp) 210 (by decide) w h
      dsimp only [Rp.v] at CK
      have c0 := hBr.cell' (i := 7) rfl
      have c1 := hBr.cell' (i := 8) rfl
      have c2 := hBr.cell' (i := 9) rfl
      have c3 := hBr.cell' (i := 10) rfl
      have c4 := hBr.cell' (i := 11) rfl
      have c5 := hBr.cell' (i := 12) rfl
      have c6 := hBr.cell' (i := 13) rfl
      go_wp2_with (go_at_call 10; refine (CK _ (hT.ext hmr)).mono ?_; rintro e w9 ⟨rfl, hm9⟩)
      go_roundw
      case rel => exact ⟨2, by omega, by go_num, hmr.ext hm9, hBr.ext hm9⟩
      case measure => simp [intOf]
    · have CK := fun w h => rchk_val (⟨0, 1, 0, 0, 1, 0, 0⟩ : Rp) 210 (by decide) w h
      dsimp only [Rp.v] at CK
      have c0 := hBr.cell' (i := 14) rfl
      have c1 := hBr.cell' (i := 15) rfl
      have c2 := hBr.cell' (i := 16) rfl
      have c3 := hBr.cell' (i := 17) rfl
      have c4 := hBr.cell' (i := 18) rfl
      have c5 := hBr.cell' (i := 19) rfl
      have c6 := hBr.cell' (i := 20) rfl
      go_wp2_with (go_at_call 10; refine (CK _ (hT.ext hmr)).mono ?_; rintro e w9 ⟨rfl, hm9⟩)
      go_roundw
      case rel => exact ⟨3, by omega, by go_num, hmr.ext hm9, hBr.ext hm9⟩
      case measure => simp [intOf]
    · have CK := fun w h => rchk_val (⟨0, 1, 170, 1, 0, 0, 0⟩ : Rp) 210 (by decide) w h
      dsimp only [Rp.v] at CK
      have c0 := hBr.cell' (i := 21) rfl
      have c1 := hBr.cell' (i := 22) rfl
      have c2 := hBr.cell' (i := 23) rfl
      have c3 := hBr.cell' (i := 24) rfl
      have c4 := hBr.cell' (i := 25) rfl
      have c5 := hBr.cell' (i := 26) rfl
      have c6 := hBr.cell' (i := 27) rfl
      go_wp2_with (go_at_call 10; refine (CK _ (hT.ext hmr)).mono ?_; rintro e w9 ⟨rfl, hm9⟩)
      go_roundw
      case rel => exact ⟨4, by omega, by go_num, hmr.ext hm9, hBr.ext hm9⟩
      case measure => simp [intOf]
    · have CK := fun w h => rchk_val (⟨0, 10, 0, 0, 0, 0, 65536⟩ : Rp) 210 (by decide) w h
      dsimp only [Rp.v] at CK
      have c0 := hBr.cell' (i := 28) rfl
      have c1 := hBr.cell' (i := 29) rfl
      have c2 := hBr.cell' (i := 30) rfl
      have c3 := hBr.cell' (i := 31) rfl
      have c4 := hBr.cell' (i := 32) rfl
      have c5 := hBr.cell' (i := 33) rfl
      have c6 := hBr.cell' (i := 34) rfl
      go_wp2_with (go_at_call 10; refine (CK _ (hT.ext hmr)).mono ?_; rintro e w9 ⟨rfl, hm9⟩)
      go_roundw
      case rel => exact ⟨5, by omega, by go_num, hmr.ext hm9, hBr.ext hm9⟩
      case measure => simp [intOf]
    · have CK := fun w h => rchk_val (⟨0, 7, 0, 0, 0, -1, 0⟩ : Rp) 210 (by decide) w h
      dsimp only [Rp.v] at CK
      have c0 := hBr.cell' (i := 35) rfl
      have c1 := hBr.cell' (i := 36) rfl
      have c2 := hBr.cell' (i := 37) rfl
      have c3 := hBr.cell' (i := 38) rfl
      have c4 := hBr.cell' (i := 39) rfl
      have c5 := hBr.cell' (i := 40) rfl
      have c6 := hBr.cell' (i := 41) rfl
      go_wp2_with (go_at_call 10; refine (CK _ (hT.ext hmr)).mono ?_; rintro e w9 ⟨rfl, hm9⟩)
      go_roundw
      case rel => exact ⟨6, by omega, by go_num, hmr.ext hm9, hBr.ext hm9⟩
      case measure => simp [intOf]
    · have CK := fun w h => rchk_val (⟨0, 7, -1, 0, 0, 0, 0⟩ : Rp) 210 (by decide) w h
      dsimp only [Rp.v] at CK
      have c0 := hBr.cell' (i := 42) rfl
      have c1 := hBr.cell' (i := 43) rfl
      have c2 := hBr.cell' (i := 44) rfl
      have c3 := hBr.cell' (i := 45) rfl
      have c4 := hBr.cell' (i := 46) rfl
      have c5 := hBr.cell' (i := 47) rfl
      have c6 := hBr.cell' (i := 48) rfl
      go_wp2_with (go_at_call 10; refine (CK _ (hT.ext hmr)).mono ?_; rintro e w9 ⟨rfl, hm9⟩)
      go_roundw
      case rel => exact ⟨7, by omega, by go_num, hmr.ext hm9, hBr.ext hm9⟩
      case measure => simp [intOf]
    · have CK := fun w h => rchk_val (⟨0, 7, 65536, 0, 0, 0, 0⟩ : Rp) 210 (by decide) w h
      dsimp only [Rp.v] at CK
      have c0 := hBr.cell' (i := 49) rfl
      have c1 := hBr.cell' (i := 50) rfl
      have c2 := hBr.cell' (i := 51) rfl
      have c3 := hBr.cell' (i := 52) rfl
      have c4 := hBr.cell' (i := 53) rfl
      have c5 := hBr.cell' (i := 54) rfl
      have c6 := hBr.cell' (i := 55) rfl
      go_wp2_with (go_at_call 10; refine (CK _ (hT.ext hmr)).mono ?_; rintro e w9 ⟨rfl, hm9⟩)
      go_roundw
      case rel => exact ⟨8, by omega, by go_num, hmr.ext hm9, hBr.ext hm9⟩
      case measure => simp [intOf]
    · have CK := fun w h => rchk_val (⟨0, 0, 2, 0, 0, 0, 0⟩ : Rp) 210 (by decide) w h
      dsimp only [Rp.v] at CK
      have c0 := hBr.cell' (i := 56) rfl
      have c1 := hBr.cell' (i := 57) rfl
      have c2 := hBr.cell' (i := 58) rfl
      have c3 := hBr.cell' (i := 59) rfl
      have c4 := hBr.cell' (i := 60) rfl
      have c5 := hBr.cell' (i := 61) rfl
      have c6 := hBr.cell' (i := 62) rfl
      go_wp2_with (go_at_call 10; refine (CK _ (hT.ext hmr)).mono ?_; rintro e w9 ⟨rfl, hm9⟩)
      go_roundw
      case rel => exact ⟨9, by omega, by go_num, hmr.ext hm9, hBr.ext hm9⟩
      case measure => simp [intOf]
    · have CK := fun w h => rchk_val (⟨0, 4, 0, 0, 65536, 0, 0⟩ : Rp) 210 (by decide) w h
      dsimp only [Rp.v] at CK
      have c0 := hBr.cell' (i := 63) rfl
      have c1 := hBr.cell' (i := 64) rfl
      have c2 := hBr.cell' (i := 65) rfl
      have c3 := hBr.cell' (i := 66) rfl
      have c4 := hBr.cell' (i := 67) rfl
      have c5 := hBr.cell' (i := 68) rfl
      have c6 := hBr.cell' (i := 69) rfl
      go_wp2_with (go_at_call 10; refine (CK _ (hT.ext hmr)).mono ?_; rintro e w9 ⟨rfl, hm9⟩)
      go_roundw
      case rel => exact ⟨10, by omega, by go_num, hmr.ext hm9, hBr.ext hm9⟩
      case measure => simp [intOf]
    · have CK := fun w h => rchk_val (⟨0, -1, 0, 0, 0, 0, 0⟩ : Rp) 210 (by decide) w h
      dsimp only [Rp.v] at CK
      have c0 := hBr.cell' (i := 70) rfl
      have c1 := hBr.cell' (i := 71) rfl
      have c2 := hBr.cell' (i := 72) rfl
      have c3 := hBr.cell' (i := 73) rfl
      have c4 := hBr.cell' (i := 74) rfl
      have c5 := hBr.cell' (i := 75) rfl
      have c6 := hBr.cell' (i := 76) rfl
      go_wp2_with (go_at_call 10; refine (CK _ (hT.ext hmr)).mono ?_; rintro e w9 ⟨rfl, hm9⟩)
      go_roundw
      case rel => exact ⟨11, by omega, by go_num, hmr.ext hm9, hBr.ext hm9⟩
      case measure => simp [intOf]
    · go_wp2_with (with_reducible refine st_bslice ?_)
      refine StopOp.go rfl fun K hK => ?_
      refine wp_bslice stRep rightL rfl (by decide) (by rfl) (by simp [rightL, Value.cells]) ?_
      intro p2 w2 hp3 hp4 hm2 hB2
      simp only [put_some, List.set_cons_succ, List.set_cons_zero]
      refine hK _ _ ?_
      clear hK K
      have hmr2 := hmr.ext hm2
      clear hBr hmr
      go_wp2_with fail
      go_loopw [4] (fun i wr => ∃ j : Nat, j ≤ 7 ∧ i = .int .i64 j ∧ Mod [] w wr ∧ Blk wr p2 26 (rightL.flatMap fun v => v.cells.toList)) (fun i _ => 7 - (intOf i).toNat)
      case atStart => exact ⟨0, by omega, rfl, hmr2, hB2⟩
      case round =>
        obtain ⟨j, hj, rfl, hmr, hBr⟩ := hrel
        have hjs : j = 0 ∨ j = 1 ∨ j = 2 ∨ j = 3 ∨ j = 4 ∨ j = 5 ∨ j = 6 ∨ j = 7 := by omega
        rcases hjs with rfl | rfl | rfl | rfl | rfl | rfl | rfl | rfl
        · have CK := fun w h => rchk_val (⟨0, 0, 200, 0, 0, 0, 0⟩ : Rp) 0 (by decide) w h
          dsimp only [Rp.v] at CK
          have c0 := hBr.cell' (i := 0) rfl
          have c1 := hBr.cell' (i := 1) rfl
          have c2 := hBr.cell' (i := 2) rfl
          have c3 := hBr.cell' (i := 3) rfl
          have c4 := hBr.cell' (i := 4) rfl
          have c5 := hBr.cell' (i := 5) rfl
          have c6 := hBr.cell' (i := 6) rfl
          go_wp2_with (go_at_call 10; refine (CK _ (hT.ext hmr)).mono ?_; rintro e w9 ⟨rfl, hm9⟩)
          go_roundw
          case rel => exact ⟨_, _, _, _, _, _, _, _, _, _, _, _, _, _, ⟨1, by omega, by go_num, hmr.ext hm9, hBr.ext hm9⟩, rfl⟩
          case measure => simp [intOf]
        · have CK := fun w h => rchk_val (⟨0, 1, 0, 0, 0, 0, 0⟩ : Rp) 0 (by decide) w h
          dsimp only [Rp.v] at CK
          have c0 := hBr.cell' (i := 7) rfl
          have c1 := hBr.cell' (i := 8) rfl
          have c2 := hBr.cell' (i := 9) rfl
          have c3 := hBr.cell' (i := 10) rfl
          have c4 := hBr.cell' (i := 11) rfl
          have c5 := hBr.cell' (i := 12) rfl
          have c6 := hBr.cell' (i := 13) rfl
          go_wp2_with (go_at_call 10; refine (CK _ (hT.ext hmr)).mono ?_; rintro e w9 ⟨rfl, hm9⟩)
          go_roundw
          case rel => exact ⟨_, _, _, _, _, _, _, _, _, _, _, _, _, _, ⟨2, by omega, by go_num, hmr.ext hm9, hBr.ext hm9⟩, rfl⟩
          case measure => simp [intOf]
        · have CK := fun w h => rchk_val (⟨0, 8, 65535, 0, 0, 0, 0⟩ : Rp) 0 (by decide) w h
          dsimp only [Rp.v] at CK
          have c0 := hBr.cell' (i := 14) rfl
          have c1 := hBr.cell' (i := 15) rfl
          have c2 := hBr.cell' (i := 16) rfl
          have c3 := hBr.cell' (i := 17) rfl
          have c4 := hBr.cell' (i := 18) rfl
          have c5 := hBr.cell' (i := 19) rfl
          have c6 := hBr.cell' (i := 20) rfl
          go_wp2_with (go_at_call 10; refine (CK _ (hT.ext hmr)).mono ?_; rintro e w9 ⟨rfl, hm9⟩)
          go_roundw
          case rel => exact ⟨_, _, _, _, _, _, _, _, _, _, _, _, _, _, ⟨3, by omega, by go_num, hmr.ext hm9, hBr.ext hm9⟩, rfl⟩
          case measure => simp [intOf]
        · have CK := fun w h => rchk_val (⟨0, 2, 200, 0, 0, 0, 0⟩ : Rp) 0 (by decide) w h
          dsimp only [Rp.v] at CK
          have c0 := hBr.cell' (i := 21) rfl
          have c1 := hBr.cell' (i := 22) rfl
          have c2 := hBr.cell' (i := 23) rfl
          have c3 := hBr.cell' (i := 24) rfl
          have c4 := hBr.cell' (i := 25) rfl
          have c5 := hBr.cell' (i := 26) rfl
          have c6 := hBr.cell' (i := 27) rfl
          go_wp2_with (go_at_call 10; refine (CK _ (hT.ext hmr)).mono ?_; rintro e w9 ⟨rfl, hm9⟩)
          go_roundw
          case rel => exact ⟨_, _, _, _, _, _, _, _, _, _, _, _, _, _, ⟨4, by omega, by go_num, hmr.ext hm9, hBr.ext hm9⟩, rfl⟩
          case measure => simp [intOf]
        · have CK := fun w h => rchk_val (⟨4294967295, 6, 0, 4294967295, 0, 9223372036854775807, 0⟩ : Rp) 0 (by decide) w h
          dsimp only [Rp.v] at CK
          have c0 := hBr.cell' (i := 28) rfl
          have c1 := hBr.cell' (i := 29) rfl
          have c2 := hBr.cell' (i := 30) rfl
          have c3 := hBr.cell' (i := 31) rfl
          have c4 := hBr.cell' (i := 32) rfl
          have c5 := hBr.cell' (i := 33) rfl
          have c6 := hBr.cell' (i := 34) rfl
          go_wp2_with (go_at_call 10; refine (CK _ (hT.ext hmr)).mono ?_; rintro e w9 ⟨rfl, hm9⟩)
          go_roundw
          case rel => exact ⟨_, _, _, _, _, _, _, _, _, _, _, _, _, _, ⟨5, by omega, by go_num, hmr.ext hm9, hBr.ext hm9⟩, rfl⟩
          case measure => simp [intOf]
        · have CK := fun w h => rchk_val (⟨0, 10, 0, 0, 0, 0, 65535⟩ : Rp) 0 (by decide) w h
          dsimp only [Rp.v] at CK
          have c0 := hBr.cell' (i := 35) rfl
          have c1 := hBr.cell' (i := 36) rfl
          have c2 := hBr.cell' (i := 37) rfl
          have c3 := hBr.cell' (i := 38) rfl
          have c4 := hBr.cell' (i := 39) rfl
          have c5 := hBr.cell' (i := 40) rfl
          have c6 := hBr.cell' (i := 41) rfl
          go_wp2_with (go_at_call 10; refine (CK _ (hT.ext hmr)).mono ?_; rintro e w9 ⟨rfl, hm9⟩)
          go_roundw
          case rel => exact ⟨_, _, _, _, _, _, _, _, _, _, _, _, _, _, ⟨6, by omega, by go_num, hmr.ext hm9, hBr.ext hm9⟩, rfl⟩
          case measure => simp [intOf]
        · have CK := fun w h => rchk_val (⟨0, 4, 0, 0, 65535, 0, 0⟩ : Rp) 0 (by decide) w h
          dsimp only [Rp.v] at CK
          have c0 := hBr.cell' (i := 42) rfl
          have c1 := hBr.cell' (i := 43) rfl
          have c2 := hBr.cell' (i := 44) rfl
          have c3 := hBr.cell' (i := 45) rfl
          have c4 := hBr.cell' (i := 46) rfl
          have c5 := hBr.cell' (i := 47) rfl
          have c6 := hBr.cell' (i := 48) rfl
          go_wp2_with (go_at_call 10; refine (CK _ (hT.ext hmr)).mono ?_; rintro e w9 ⟨rfl, hm9⟩)
          go_roundw
          case rel => exact ⟨_, _, _, _, _, _, _, _, _, _, _, _, _, _, ⟨7, by omega, by go_num, hmr.ext hm9, hBr.ext hm9⟩, rfl⟩
          case measure => simp [intOf]
        · go_wp2_with (go_at_call 14; refine (rpawake_any _ (hT.ext hmr)).mono ?_; rintro e w9 ⟨rfl, hm9⟩)
          go_ret
          exact ⟨rfl, hmr.ext hm9⟩
end Go.Proofs.YtfcoaiggpcjldaaDoor
