import Derived.Test.YtkhnemnpadhgoaaOctA
set_option linter.unusedVariables false
set_option linter.unusedSimpArgs false
set_option maxRecDepth 100000
namespace Go.Proofs.Ytkhnemnpadhgoaa
open Go.RowKit Gw

theorem stLimbs : ST Try.prog 69 125 (.slice none 0 0) 1 24 := ⟨Try.underlying69, by kernel_rfl, rfl, by decide⟩
set_option maxRecDepth 100000 in
set_option maxHeartbeats 2000000 in
theorem flatLimbs_nil (w : World) : Calls Try.prog 49 #[.slice none 0 0] w fun e w' => e = .returned (.bool true) ∧ Mod [] w w' := by
  go_enter Try.func49, Try.ntmps49
  go_wp2_with (first | (with_reducible refine wp_loop_once ?_) | (with_reducible refine st_make ?_))
  refine StopOp.go rfl fun K hK => ?_
  refine wp_make (nl := 0) (nc := 0) stLimbs (by rfl) (by rfl) rfl rfl (Nat.le_refl _) (by omega) (by omega) ?_
  intro b w1 hb1 hb2 hm1 hB1
  simp only [put_some, List.set_cons_succ, List.set_cons_zero]
  refine hK _ _ ?_
  clear hK K hB1
  go_wp2_with (with_reducible refine wp_loop_once ?_)
  go_ret
  exact ⟨rfl, hm1⟩
theorem stInts : ST Try.prog 70 126 (.slice none 0 0) 1 24 := ⟨Try.underlying70, by kernel_rfl, rfl, by decide⟩
set_option maxRecDepth 100000 in
set_option maxHeartbeats 2000000 in
theorem flatInts_nil (w : World) : Calls Try.prog 50 #[.slice none 0 0] w fun e w' => e = .returned (.bool true) ∧ Mod [] w w' := by
  go_enter Try.func50, Try.ntmps50
  go_wp2_with (first | (with_reducible refine wp_loop_once ?_) | (with_reducible refine st_make ?_))
  refine StopOp.go rfl fun K hK => ?_
  refine wp_make (nl := 0) (nc := 0) stInts (by rfl) (by rfl) rfl rfl (Nat.le_refl _) (by omega) (by omega) ?_
  intro b w1 hb1 hb2 hm1 hB1
  simp only [put_some, List.set_cons_succ, List.set_cons_zero]
  refine hK _ _ ?_
  clear hK K hB1
  go_wp2_with (with_reducible refine wp_loop_once ?_)
  go_ret
  exact ⟨rfl, hm1⟩
theorem stLongs : ST Try.prog 71 127 (.slice none 0 0) 1 24 := ⟨Try.underlying71, by kernel_rfl, rfl, by decide⟩
set_option maxRecDepth 100000 in
set_option maxHeartbeats 2000000 in
theorem flatLongs_nil (w : World) : Calls Try.prog 51 #[.slice none 0 0] w fun e w' => e = .returned (.bool true) ∧ Mod [] w w' := by
  go_enter Try.func51, Try.ntmps51
  go_wp2_with (first | (with_reducible refine wp_loop_once ?_) | (with_reducible refine st_make ?_))
  refine StopOp.go rfl fun K hK => ?_
  refine wp_make (nl := 0) (nc := 0) stLongs (by rfl) (by rfl) rfl rfl (Nat.le_refl _) (by omega) (by omega) ?_
  intro b w1 hb1 hb2 hm1 hB1
  simp only [put_some, List.set_cons_succ, List.set_cons_zero]
  refine hK _ _ ?_
  clear hK K hB1
  go_wp2_with (with_reducible refine wp_loop_once ?_)
  go_ret
  exact ⟨rfl, hm1⟩
theorem stTexts : ST Try.prog 72 128 (.slice none 0 0) 1 24 := ⟨Try.underlying72, by kernel_rfl, rfl, by decide⟩
set_option maxRecDepth 100000 in
set_option maxHeartbeats 2000000 in
theorem flatTexts_nil (w : World) : Calls Try.prog 52 #[.slice none 0 0] w fun e w' => e = .returned (.bool true) ∧ Mod [] w w' := by
  go_enter Try.func52, Try.ntmps52
  go_wp2_with (first | (with_reducible refine wp_loop_once ?_) | (with_reducible refine st_make ?_))
  refine StopOp.go rfl fun K hK => ?_
  refine wp_make (nl := 0) (nc := 0) stTexts (by rfl) (by rfl) rfl rfl (Nat.le_refl _) (by omega) (by omega) ?_
  intro b w1 hb1 hb2 hm1 hB1
  simp only [put_some, List.set_cons_succ, List.set_cons_zero]
  refine hK _ _ ?_
  clear hK K hB1
  go_wp2_with (with_reducible refine wp_loop_once ?_)
  go_ret
  exact ⟨rfl, hm1⟩
theorem stReals : ST Try.prog 73 130 (.slice none 0 0) 1 24 := ⟨Try.underlying73, by kernel_rfl, rfl, by decide⟩
set_option maxRecDepth 100000 in
set_option maxHeartbeats 2000000 in
theorem flatReals_nil (w : World) : Calls Try.prog 54 #[.slice none 0 0] w fun e w' => e = .returned (.bool true) ∧ Mod [] w w' := by
  go_enter Try.func54, Try.ntmps54
  go_wp2_with (first | (with_reducible refine wp_loop_once ?_) | (with_reducible refine st_make ?_))
  refine StopOp.go rfl fun K hK => ?_
  refine wp_make (nl := 0) (nc := 0) stReals (by rfl) (by rfl) rfl rfl (Nat.le_refl _) (by omega) (by omega) ?_
  intro b w1 hb1 hb2 hm1 hB1
  simp only [put_some, List.set_cons_succ, List.set_cons_zero]
  refine hK _ _ ?_
  clear hK K hB1
  go_wp2_with (with_reducible refine wp_loop_once ?_)
  go_ret
  exact ⟨rfl, hm1⟩
theorem stFates : ST Try.prog 74 132 (.slice none 0 0) 1 24 := ⟨Try.underlying74, by kernel_rfl, rfl, by decide⟩
set_option maxRecDepth 100000 in
set_option maxHeartbeats 2000000 in
theorem flatFates_nil (w : World) : Calls Try.prog 55 #[.slice none 0 0] w fun e w' => e = .returned (.bool true) ∧ Mod [] w w' := by
  go_enter Try.func55, Try.ntmps55
  go_wp2_with (first | (with_reducible refine wp_loop_once ?_) | (with_reducible refine st_make ?_))
  refine StopOp.go rfl fun K hK => ?_
  refine wp_make (nl := 0) (nc := 0) stFates (by rfl) (by rfl) rfl rfl (Nat.le_refl _) (by omega) (by omega) ?_
  intro b w1 hb1 hb2 hm1 hB1
  simp only [put_some, List.set_cons_succ, List.set_cons_zero]
  refine hK _ _ ?_
  clear hK K hB1
  go_wp2_with (with_reducible refine wp_loop_once ?_)
  go_ret
  exact ⟨rfl, hm1⟩
theorem stSpans : ST Try.prog 75 137 (.slice none 0 0) 1 24 := ⟨Try.underlying75, by kernel_rfl, rfl, by decide⟩
set_option maxRecDepth 100000 in
set_option maxHeartbeats 2000000 in
theorem flatSpans_nil (w : World) : Calls Try.prog 56 #[.slice none 0 0] w fun e w' => e = .returned (.bool true) ∧ Mod [] w w' := by
  go_enter Try.func56, Try.ntmps56
  go_wp2_with (first | (with_reducible refine wp_loop_once ?_) | (with_reducible refine st_make ?_))
  refine StopOp.go rfl fun K hK => ?_
  refine wp_make (nl := 0) (nc := 0) stSpans (by rfl) (by rfl) rfl rfl (Nat.le_refl _) (by omega) (by omega) ?_
  intro b w1 hb1 hb2 hm1 hB1
  simp only [put_some, List.set_cons_succ, List.set_cons_zero]
  refine hK _ _ ?_
  clear hK K hB1
  go_wp2_with (with_reducible refine wp_loop_once ?_)
  go_ret
  exact ⟨rfl, hm1⟩
theorem stFrames : ST Try.prog 76 141 (.slice none 0 0) 1 24 := ⟨Try.underlying76, by kernel_rfl, rfl, by decide⟩
set_option maxRecDepth 100000 in
set_option maxHeartbeats 2000000 in
theorem flatFrames_nil (w : World) : Calls Try.prog 57 #[.slice none 0 0] w fun e w' => e = .returned (.bool true) ∧ Mod [] w w' := by
  go_enter Try.func57, Try.ntmps57
  go_wp2_with (first | (with_reducible refine wp_loop_once ?_) | (with_reducible refine st_make ?_))
  refine StopOp.go rfl fun K hK => ?_
  refine wp_make (nl := 0) (nc := 0) stFrames (by rfl) (by rfl) rfl rfl (Nat.le_refl _) (by omega) (by omega) ?_
  intro b w1 hb1 hb2 hm1 hB1
  simp only [put_some, List.set_cons_succ, List.set_cons_zero]
  refine hK _ _ ?_
  clear hK K hB1
  go_wp2_with (with_reducible refine wp_loop_once ?_)
  go_ret
  exact ⟨rfl, hm1⟩
theorem stCabins : ST Try.prog 77 146 (.slice none 0 0) 1 24 := ⟨Try.underlying77, by kernel_rfl, rfl, by decide⟩
set_option maxRecDepth 100000 in
set_option maxHeartbeats 2000000 in
theorem flatCabins_nil (w : World) : Calls Try.prog 58 #[.slice none 0 0] w fun e w' => e = .returned (.bool true) ∧ Mod [] w w' := by
  go_enter Try.func58, Try.ntmps58
  go_wp2_with (first | (with_reducible refine wp_loop_once ?_) | (with_reducible refine st_make ?_))
  refine StopOp.go rfl fun K hK => ?_
  refine wp_make (nl := 0) (nc := 0) stCabins (by rfl) (by rfl) rfl rfl (Nat.le_refl _) (by omega) (by omega) ?_
  intro b w1 hb1 hb2 hm1 hB1
  simp only [put_some, List.set_cons_succ, List.set_cons_zero]
  refine hK _ _ ?_
  clear hK K hB1
  go_wp2_with (with_reducible refine wp_loop_once ?_)
  go_ret
  exact ⟨rfl, hm1⟩
theorem stRecords : ST Try.prog 78 30 (.slice none 0 0) 1 24 := ⟨Try.underlying78, by kernel_rfl, rfl, by decide⟩
set_option maxRecDepth 100000 in
set_option maxHeartbeats 2000000 in
theorem flatRecords_nil (w : World) : Calls Try.prog 59 #[.slice none 0 0] w fun e w' => e = .returned (.bool true) ∧ Mod [] w w' := by
  go_enter Try.func59, Try.ntmps59
  go_wp2_with (first | (with_reducible refine wp_loop_once ?_) | (with_reducible refine st_make ?_))
  refine StopOp.go rfl fun K hK => ?_
  refine wp_make (nl := 0) (nc := 0) stRecords (by rfl) (by rfl) rfl rfl (Nat.le_refl _) (by omega) (by omega) ?_
  intro b w1 hb1 hb2 hm1 hB1
  simp only [put_some, List.set_cons_succ, List.set_cons_zero]
  refine hK _ _ ?_
  clear hK K hB1
  go_wp2_with (with_reducible refine wp_loop_once ?_)
  go_ret
  exact ⟨rfl, hm1⟩
theorem stBookings : ST Try.prog 79 152 (.slice none 0 0) 1 24 := ⟨Try.underlying79, by kernel_rfl, rfl, by decide⟩
set_option maxRecDepth 100000 in
set_option maxHeartbeats 2000000 in
theorem flatBookings_nil (w : World) : Calls Try.prog 60 #[.slice none 0 0] w fun e w' => e = .returned (.bool true) ∧ Mod [] w w' := by
  go_enter Try.func60, Try.ntmps60
  go_wp2_with (first | (with_reducible refine wp_loop_once ?_) | (with_reducible refine st_make ?_))
  refine StopOp.go rfl fun K hK => ?_
  refine wp_make (nl := 0) (nc := 0) stBookings (by rfl) (by rfl) rfl rfl (Nat.le_refl _) (by omega) (by omega) ?_
  intro b w1 hb1 hb2 hm1 hB1
  simp only [put_some, List.set_cons_succ, List.set_cons_zero]
  refine hK _ _ ?_
  clear hK K hB1
  go_wp2_with (with_reducible refine wp_loop_once ?_)
  go_ret
  exact ⟨rfl, hm1⟩
theorem stRequests : ST Try.prog 80 156 (.slice none 0 0) 1 24 := ⟨Try.underlying80, by kernel_rfl, rfl, by decide⟩
set_option maxRecDepth 100000 in
set_option maxHeartbeats 2000000 in
theorem flatRequests_nil (w : World) : Calls Try.prog 61 #[.slice none 0 0] w fun e w' => e = .returned (.bool true) ∧ Mod [] w w' := by
  go_enter Try.func61, Try.ntmps61
  go_wp2_with (first | (with_reducible refine wp_loop_once ?_) | (with_reducible refine st_make ?_))
  refine StopOp.go rfl fun K hK => ?_
  refine wp_make (nl := 0) (nc := 0) stRequests (by rfl) (by rfl) rfl rfl (Nat.le_refl _) (by omega) (by omega) ?_
  intro b w1 hb1 hb2 hm1 hB1
  simp only [put_some, List.set_cons_succ, List.set_cons_zero]
  refine hK _ _ ?_
  clear hK K hB1
  go_wp2_with (with_reducible refine wp_loop_once ?_)
  go_ret
  exact ⟨rfl, hm1⟩
theorem stReplies : ST Try.prog 81 161 (.slice none 0 0) 1 24 := ⟨Try.underlying81, by kernel_rfl, rfl, by decide⟩
set_option maxRecDepth 100000 in
set_option maxHeartbeats 2000000 in
theorem flatReplies_nil (w : World) : Calls Try.prog 62 #[.slice none 0 0] w fun e w' => e = .returned (.bool true) ∧ Mod [] w w' := by
  go_enter Try.func62, Try.ntmps62
  go_wp2_with (first | (with_reducible refine wp_loop_once ?_) | (with_reducible refine st_make ?_))
  refine StopOp.go rfl fun K hK => ?_
  refine wp_make (nl := 0) (nc := 0) stReplies (by rfl) (by rfl) rfl rfl (Nat.le_refl _) (by omega) (by omega) ?_
  intro b w1 hb1 hb2 hm1 hB1
  simp only [put_some, List.set_cons_succ, List.set_cons_zero]
  refine hK _ _ ?_
  clear hK K hB1
  go_wp2_with (with_reducible refine wp_loop_once ?_)
  go_ret
  exact ⟨rfl, hm1⟩
theorem stFares : ST Try.prog 82 165 (.slice none 0 0) 1 24 := ⟨Try.underlying82, by kernel_rfl, rfl, by decide⟩
set_option maxRecDepth 100000 in
set_option maxHeartbeats 2000000 in
theorem flatFares_nil (w : World) : Calls Try.prog 63 #[.slice none 0 0] w fun e w' => e = .returned (.bool true) ∧ Mod [] w w' := by
  go_enter Try.func63, Try.ntmps63
  go_wp2_with (first | (with_reducible refine wp_loop_once ?_) | (with_reducible refine st_make ?_))
  refine StopOp.go rfl fun K hK => ?_
  refine wp_make (nl := 0) (nc := 0) stFares (by rfl) (by rfl) rfl rfl (Nat.le_refl _) (by omega) (by omega) ?_
  intro b w1 hb1 hb2 hm1 hB1
  simp only [put_some, List.set_cons_succ, List.set_cons_zero]
  refine hK _ _ ?_
  clear hK K hB1
  go_wp2_with (with_reducible refine wp_loop_once ?_)
  go_ret
  exact ⟨rfl, hm1⟩
theorem stWaits : ST Try.prog 83 170 (.slice none 0 0) 1 24 := ⟨Try.underlying83, by kernel_rfl, rfl, by decide⟩
set_option maxRecDepth 100000 in
set_option maxHeartbeats 2000000 in
theorem flatWaits_nil (w : World) : Calls Try.prog 64 #[.slice none 0 0] w fun e w' => e = .returned (.bool true) ∧ Mod [] w w' := by
  go_enter Try.func64, Try.ntmps64
  go_wp2_with (first | (with_reducible refine wp_loop_once ?_) | (with_reducible refine st_make ?_))
  refine StopOp.go rfl fun K hK => ?_
  refine wp_make (nl := 0) (nc := 0) stWaits (by rfl) (by rfl) rfl rfl (Nat.le_refl _) (by omega) (by omega) ?_
  intro b w1 hb1 hb2 hm1 hB1
  simp only [put_some, List.set_cons_succ, List.set_cons_zero]
  refine hK _ _ ?_
  clear hK K hB1
  go_wp2_with (with_reducible refine wp_loop_once ?_)
  go_ret
  exact ⟨rfl, hm1⟩
theorem stLines : ST Try.prog 84 174 (.slice none 0 0) 1 24 := ⟨Try.underlying84, by kernel_rfl, rfl, by decide⟩
set_option maxRecDepth 100000 in
set_option maxHeartbeats 2000000 in
theorem flatLines_nil (w : World) : Calls Try.prog 65 #[.slice none 0 0] w fun e w' => e = .returned (.bool true) ∧ Mod [] w w' := by
  go_enter Try.func65, Try.ntmps65
  go_wp2_with (first | (with_reducible refine wp_loop_once ?_) | (with_reducible refine st_make ?_))
  refine StopOp.go rfl fun K hK => ?_
  refine wp_make (nl := 0) (nc := 0) stLines (by rfl) (by rfl) rfl rfl (Nat.le_refl _) (by omega) (by omega) ?_
  intro b w1 hb1 hb2 hm1 hB1
  simp only [put_some, List.set_cons_succ, List.set_cons_zero]
  refine hK _ _ ?_
  clear hK K hB1
  go_wp2_with (with_reducible refine wp_loop_once ?_)
  go_ret
  exact ⟨rfl, hm1⟩
theorem stTurns : ST Try.prog 85 178 (.slice none 0 0) 1 24 := ⟨Try.underlying85, by kernel_rfl, rfl, by decide⟩
set_option maxRecDepth 100000 in
set_option maxHeartbeats 2000000 in
theorem flatTurns_nil (w : World) : Calls Try.prog 66 #[.slice none 0 0] w fun e w' => e = .returned (.bool true) ∧ Mod [] w w' := by
  go_enter Try.func66, Try.ntmps66
  go_wp2_with (first | (with_reducible refine wp_loop_once ?_) | (with_reducible refine st_make ?_))
  refine StopOp.go rfl fun K hK => ?_
  refine wp_make (nl := 0) (nc := 0) stTurns (by rfl) (by rfl) rfl rfl (Nat.le_refl _) (by omega) (by omega) ?_
  intro b w1 hb1 hb2 hm1 hB1
  simp only [put_some, List.set_cons_succ, List.set_cons_zero]
  refine hK _ _ ?_
  clear hK K hB1
  go_wp2_with (with_reducible refine wp_loop_once ?_)
  go_ret
  exact ⟨rfl, hm1⟩
theorem stCommands : ST Try.prog 86 182 (.slice none 0 0) 1 24 := ⟨Try.underlying86, by kernel_rfl, rfl, by decide⟩
set_option maxRecDepth 100000 in
set_option maxHeartbeats 2000000 in
theorem flatCommands_nil (w : World) : Calls Try.prog 67 #[.slice none 0 0] w fun e w' => e = .returned (.bool true) ∧ Mod [] w w' := by
  go_enter Try.func67, Try.ntmps67
  go_wp2_with (first | (with_reducible refine wp_loop_once ?_) | (with_reducible refine st_make ?_))
  refine StopOp.go rfl fun K hK => ?_
  refine wp_make (nl := 0) (nc := 0) stCommands (by rfl) (by rfl) rfl rfl (Nat.le_refl _) (by omega) (by omega) ?_
  intro b w1 hb1 hb2 hm1 hB1
  simp only [put_some, List.set_cons_succ, List.set_cons_zero]
  refine hK _ _ ?_
  clear hK K hB1
  go_wp2_with (with_reducible refine wp_loop_once ?_)
  go_ret
  exact ⟨rfl, hm1⟩
end Go.Proofs.Ytkhnemnpadhgoaa
