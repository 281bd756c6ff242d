import Derived.Test.YtfcoaiggpcjldaaOctA
set_option linter.unusedVariables false
set_option linter.unusedSimpArgs false
set_option maxRecDepth 100000
namespace Go.Proofs.Ytfcoaiggpcjldaa
open Go.RowKit Gw

theorem stLimbs : ST Try.prog 72 127 (.slice none 0 0) 1 24 := ⟨Try.underlying72, by kernel_rfl, rfl, by decide⟩
set_option maxRecDepth 100000 in
set_option maxHeartbeats 2000000 in
theorem flatLimbs_nil (w : World) : Calls Try.prog 59 #[.slice none 0 0] w fun e w' => e = .returned (.bool true) ∧ Mod [] w w' := by
  go_enter Try.func59, Try.ntmps59
  go_wp2_with (first | (with_reducible refine wp_loop_once ?_) | (with_reducible refine st_make ?_))
  refine StopOp.go rfl fun K hK => ?_
  refine wp_make (nl := 0) (nc := 0) stLimbs (by rfl) (by rfl) rfl rfl (Nat.le_refl _) (by omega) (by omega) ?_
  intro b w1 hb1 hb2 hm1 hB1
  simp only [put_some, List.set_cons_succ, List.set_cons_zero]
  refine hK _ _ ?_
  clear hK K hB1
  go_wp2_with (with_reducible refine wp_loop_once ?_)
  go_ret
  exact ⟨rfl, hm1⟩
theorem stInts : ST Try.prog 73 47 (.slice none 0 0) 1 24 := ⟨Try.underlying73, by kernel_rfl, rfl, by decide⟩
set_option maxRecDepth 100000 in
set_option maxHeartbeats 2000000 in
theorem flatInts_nil (w : World) : Calls Try.prog 60 #[.slice none 0 0] w fun e w' => e = .returned (.bool true) ∧ Mod [] w w' := by
  go_enter Try.func60, Try.ntmps60
  go_wp2_with (first | (with_reducible refine wp_loop_once ?_) | (with_reducible refine st_make ?_))
  refine StopOp.go rfl fun K hK => ?_
  refine wp_make (nl := 0) (nc := 0) stInts (by rfl) (by rfl) rfl rfl (Nat.le_refl _) (by omega) (by omega) ?_
  intro b w1 hb1 hb2 hm1 hB1
  simp only [put_some, List.set_cons_succ, List.set_cons_zero]
  refine hK _ _ ?_
  clear hK K hB1
  go_wp2_with (with_reducible refine wp_loop_once ?_)
  go_ret
  exact ⟨rfl, hm1⟩
theorem stLongs : ST Try.prog 74 128 (.slice none 0 0) 1 24 := ⟨Try.underlying74, by kernel_rfl, rfl, by decide⟩
set_option maxRecDepth 100000 in
set_option maxHeartbeats 2000000 in
theorem flatLongs_nil (w : World) : Calls Try.prog 61 #[.slice none 0 0] w fun e w' => e = .returned (.bool true) ∧ Mod [] w w' := by
  go_enter Try.func61, Try.ntmps61
  go_wp2_with (first | (with_reducible refine wp_loop_once ?_) | (with_reducible refine st_make ?_))
  refine StopOp.go rfl fun K hK => ?_
  refine wp_make (nl := 0) (nc := 0) stLongs (by rfl) (by rfl) rfl rfl (Nat.le_refl _) (by omega) (by omega) ?_
  intro b w1 hb1 hb2 hm1 hB1
  simp only [put_some, List.set_cons_succ, List.set_cons_zero]
  refine hK _ _ ?_
  clear hK K hB1
  go_wp2_with (with_reducible refine wp_loop_once ?_)
  go_ret
  exact ⟨rfl, hm1⟩
theorem stTexts : ST Try.prog 75 129 (.slice none 0 0) 1 24 := ⟨Try.underlying75, by kernel_rfl, rfl, by decide⟩
set_option maxRecDepth 100000 in
set_option maxHeartbeats 2000000 in
theorem flatTexts_nil (w : World) : Calls Try.prog 62 #[.slice none 0 0] w fun e w' => e = .returned (.bool true) ∧ Mod [] w w' := by
  go_enter Try.func62, Try.ntmps62
  go_wp2_with (first | (with_reducible refine wp_loop_once ?_) | (with_reducible refine st_make ?_))
  refine StopOp.go rfl fun K hK => ?_
  refine wp_make (nl := 0) (nc := 0) stTexts (by rfl) (by rfl) rfl rfl (Nat.le_refl _) (by omega) (by omega) ?_
  intro b w1 hb1 hb2 hm1 hB1
  simp only [put_some, List.set_cons_succ, List.set_cons_zero]
  refine hK _ _ ?_
  clear hK K hB1
  go_wp2_with (with_reducible refine wp_loop_once ?_)
  go_ret
  exact ⟨rfl, hm1⟩
theorem stReals : ST Try.prog 76 131 (.slice none 0 0) 1 24 := ⟨Try.underlying76, by kernel_rfl, rfl, by decide⟩
set_option maxRecDepth 100000 in
set_option maxHeartbeats 2000000 in
theorem flatReals_nil (w : World) : Calls Try.prog 64 #[.slice none 0 0] w fun e w' => e = .returned (.bool true) ∧ Mod [] w w' := by
  go_enter Try.func64, Try.ntmps64
  go_wp2_with (first | (with_reducible refine wp_loop_once ?_) | (with_reducible refine st_make ?_))
  refine StopOp.go rfl fun K hK => ?_
  refine wp_make (nl := 0) (nc := 0) stReals (by rfl) (by rfl) rfl rfl (Nat.le_refl _) (by omega) (by omega) ?_
  intro b w1 hb1 hb2 hm1 hB1
  simp only [put_some, List.set_cons_succ, List.set_cons_zero]
  refine hK _ _ ?_
  clear hK K hB1
  go_wp2_with (with_reducible refine wp_loop_once ?_)
  go_ret
  exact ⟨rfl, hm1⟩
theorem stFates : ST Try.prog 77 133 (.slice none 0 0) 1 24 := ⟨Try.underlying77, by kernel_rfl, rfl, by decide⟩
set_option maxRecDepth 100000 in
set_option maxHeartbeats 2000000 in
theorem flatFates_nil (w : World) : Calls Try.prog 65 #[.slice none 0 0] w fun e w' => e = .returned (.bool true) ∧ Mod [] w w' := by
  go_enter Try.func65, Try.ntmps65
  go_wp2_with (first | (with_reducible refine wp_loop_once ?_) | (with_reducible refine st_make ?_))
  refine StopOp.go rfl fun K hK => ?_
  refine wp_make (nl := 0) (nc := 0) stFates (by rfl) (by rfl) rfl rfl (Nat.le_refl _) (by omega) (by omega) ?_
  intro b w1 hb1 hb2 hm1 hB1
  simp only [put_some, List.set_cons_succ, List.set_cons_zero]
  refine hK _ _ ?_
  clear hK K hB1
  go_wp2_with (with_reducible refine wp_loop_once ?_)
  go_ret
  exact ⟨rfl, hm1⟩
theorem stSpans : ST Try.prog 78 138 (.slice none 0 0) 1 24 := ⟨Try.underlying78, by kernel_rfl, rfl, by decide⟩
set_option maxRecDepth 100000 in
set_option maxHeartbeats 2000000 in
theorem flatSpans_nil (w : World) : Calls Try.prog 66 #[.slice none 0 0] w fun e w' => e = .returned (.bool true) ∧ Mod [] w w' := by
  go_enter Try.func66, Try.ntmps66
  go_wp2_with (first | (with_reducible refine wp_loop_once ?_) | (with_reducible refine st_make ?_))
  refine StopOp.go rfl fun K hK => ?_
  refine wp_make (nl := 0) (nc := 0) stSpans (by rfl) (by rfl) rfl rfl (Nat.le_refl _) (by omega) (by omega) ?_
  intro b w1 hb1 hb2 hm1 hB1
  simp only [put_some, List.set_cons_succ, List.set_cons_zero]
  refine hK _ _ ?_
  clear hK K hB1
  go_wp2_with (with_reducible refine wp_loop_once ?_)
  go_ret
  exact ⟨rfl, hm1⟩
theorem stFrames : ST Try.prog 79 142 (.slice none 0 0) 1 24 := ⟨Try.underlying79, by kernel_rfl, rfl, by decide⟩
set_option maxRecDepth 100000 in
set_option maxHeartbeats 2000000 in
theorem flatFrames_nil (w : World) : Calls Try.prog 67 #[.slice none 0 0] w fun e w' => e = .returned (.bool true) ∧ Mod [] w w' := by
  go_enter Try.func67, Try.ntmps67
  go_wp2_with (first | (with_reducible refine wp_loop_once ?_) | (with_reducible refine st_make ?_))
  refine StopOp.go rfl fun K hK => ?_
  refine wp_make (nl := 0) (nc := 0) stFrames (by rfl) (by rfl) rfl rfl (Nat.le_refl _) (by omega) (by omega) ?_
  intro b w1 hb1 hb2 hm1 hB1
  simp only [put_some, List.set_cons_succ, List.set_cons_zero]
  refine hK _ _ ?_
  clear hK K hB1
  go_wp2_with (with_reducible refine wp_loop_once ?_)
  go_ret
  exact ⟨rfl, hm1⟩
theorem stCabins : ST Try.prog 80 147 (.slice none 0 0) 1 24 := ⟨Try.underlying80, by kernel_rfl, rfl, by decide⟩
set_option maxRecDepth 100000 in
set_option maxHeartbeats 2000000 in
theorem flatCabins_nil (w : World) : Calls Try.prog 68 #[.slice none 0 0] w fun e w' => e = .returned (.bool true) ∧ Mod [] w w' := by
  go_enter Try.func68, Try.ntmps68
  go_wp2_with (first | (with_reducible refine wp_loop_once ?_) | (with_reducible refine st_make ?_))
  refine StopOp.go rfl fun K hK => ?_
  refine wp_make (nl := 0) (nc := 0) stCabins (by rfl) (by rfl) rfl rfl (Nat.le_refl _) (by omega) (by omega) ?_
  intro b w1 hb1 hb2 hm1 hB1
  simp only [put_some, List.set_cons_succ, List.set_cons_zero]
  refine hK _ _ ?_
  clear hK K hB1
  go_wp2_with (with_reducible refine wp_loop_once ?_)
  go_ret
  exact ⟨rfl, hm1⟩
theorem stRecords : ST Try.prog 81 152 (.slice none 0 0) 1 24 := ⟨Try.underlying81, by kernel_rfl, rfl, by decide⟩
set_option maxRecDepth 100000 in
set_option maxHeartbeats 2000000 in
theorem flatRecords_nil (w : World) : Calls Try.prog 69 #[.slice none 0 0] w fun e w' => e = .returned (.bool true) ∧ Mod [] w w' := by
  go_enter Try.func69, Try.ntmps69
  go_wp2_with (first | (with_reducible refine wp_loop_once ?_) | (with_reducible refine st_make ?_))
  refine StopOp.go rfl fun K hK => ?_
  refine wp_make (nl := 0) (nc := 0) stRecords (by rfl) (by rfl) rfl rfl (Nat.le_refl _) (by omega) (by omega) ?_
  intro b w1 hb1 hb2 hm1 hB1
  simp only [put_some, List.set_cons_succ, List.set_cons_zero]
  refine hK _ _ ?_
  clear hK K hB1
  go_wp2_with (with_reducible refine wp_loop_once ?_)
  go_ret
  exact ⟨rfl, hm1⟩
theorem stBookings : ST Try.prog 82 157 (.slice none 0 0) 1 24 := ⟨Try.underlying82, by kernel_rfl, rfl, by decide⟩
set_option maxRecDepth 100000 in
set_option maxHeartbeats 2000000 in
theorem flatBookings_nil (w : World) : Calls Try.prog 70 #[.slice none 0 0] w fun e w' => e = .returned (.bool true) ∧ Mod [] w w' := by
  go_enter Try.func70, Try.ntmps70
  go_wp2_with (first | (with_reducible refine wp_loop_once ?_) | (with_reducible refine st_make ?_))
  refine StopOp.go rfl fun K hK => ?_
  refine wp_make (nl := 0) (nc := 0) stBookings (by rfl) (by rfl) rfl rfl (Nat.le_refl _) (by omega) (by omega) ?_
  intro b w1 hb1 hb2 hm1 hB1
  simp only [put_some, List.set_cons_succ, List.set_cons_zero]
  refine hK _ _ ?_
  clear hK K hB1
  go_wp2_with (with_reducible refine wp_loop_once ?_)
  go_ret
  exact ⟨rfl, hm1⟩
theorem stRequests : ST Try.prog 83 161 (.slice none 0 0) 1 24 := ⟨Try.underlying83, by kernel_rfl, rfl, by decide⟩
set_option maxRecDepth 100000 in
set_option maxHeartbeats 2000000 in
theorem flatRequests_nil (w : World) : Calls Try.prog 71 #[.slice none 0 0] w fun e w' => e = .returned (.bool true) ∧ Mod [] w w' := by
  go_enter Try.func71, Try.ntmps71
  go_wp2_with (first | (with_reducible refine wp_loop_once ?_) | (with_reducible refine st_make ?_))
  refine StopOp.go rfl fun K hK => ?_
  refine wp_make (nl := 0) (nc := 0) stRequests (by rfl) (by rfl) rfl rfl (Nat.le_refl _) (by omega) (by omega) ?_
  intro b w1 hb1 hb2 hm1 hB1
  simp only [put_some, List.set_cons_succ, List.set_cons_zero]
  refine hK _ _ ?_
  clear hK K hB1
  go_wp2_with (with_reducible refine wp_loop_once ?_)
  go_ret
  exact ⟨rfl, hm1⟩
theorem stReplies : ST Try.prog 84 163 (.slice none 0 0) 1 24 := ⟨Try.underlying84, by kernel_rfl, rfl, by decide⟩
set_option maxRecDepth 100000 in
set_option maxHeartbeats 2000000 in
theorem flatReplies_nil (w : World) : Calls Try.prog 72 #[.slice none 0 0] w fun e w' => e = .returned (.bool true) ∧ Mod [] w w' := by
  go_enter Try.func72, Try.ntmps72
  go_wp2_with (first | (with_reducible refine wp_loop_once ?_) | (with_reducible refine st_make ?_))
  refine StopOp.go rfl fun K hK => ?_
  refine wp_make (nl := 0) (nc := 0) stReplies (by rfl) (by rfl) rfl rfl (Nat.le_refl _) (by omega) (by omega) ?_
  intro b w1 hb1 hb2 hm1 hB1
  simp only [put_some, List.set_cons_succ, List.set_cons_zero]
  refine hK _ _ ?_
  clear hK K hB1
  go_wp2_with (with_reducible refine wp_loop_once ?_)
  go_ret
  exact ⟨rfl, hm1⟩
theorem stFares : ST Try.prog 85 167 (.slice none 0 0) 1 24 := ⟨Try.underlying85, by kernel_rfl, rfl, by decide⟩
set_option maxRecDepth 100000 in
set_option maxHeartbeats 2000000 in
theorem flatFares_nil (w : World) : Calls Try.prog 73 #[.slice none 0 0] w fun e w' => e = .returned (.bool true) ∧ Mod [] w w' := by
  go_enter Try.func73, Try.ntmps73
  go_wp2_with (first | (with_reducible refine wp_loop_once ?_) | (with_reducible refine st_make ?_))
  refine StopOp.go rfl fun K hK => ?_
  refine wp_make (nl := 0) (nc := 0) stFares (by rfl) (by rfl) rfl rfl (Nat.le_refl _) (by omega) (by omega) ?_
  intro b w1 hb1 hb2 hm1 hB1
  simp only [put_some, List.set_cons_succ, List.set_cons_zero]
  refine hK _ _ ?_
  clear hK K hB1
  go_wp2_with (with_reducible refine wp_loop_once ?_)
  go_ret
  exact ⟨rfl, hm1⟩
theorem stWaits : ST Try.prog 86 172 (.slice none 0 0) 1 24 := ⟨Try.underlying86, by kernel_rfl, rfl, by decide⟩
set_option maxRecDepth 100000 in
set_option maxHeartbeats 2000000 in
theorem flatWaits_nil (w : World) : Calls Try.prog 74 #[.slice none 0 0] w fun e w' => e = .returned (.bool true) ∧ Mod [] w w' := by
  go_enter Try.func74, Try.ntmps74
  go_wp2_with (first | (with_reducible refine wp_loop_once ?_) | (with_reducible refine st_make ?_))
  refine StopOp.go rfl fun K hK => ?_
  refine wp_make (nl := 0) (nc := 0) stWaits (by rfl) (by rfl) rfl rfl (Nat.le_refl _) (by omega) (by omega) ?_
  intro b w1 hb1 hb2 hm1 hB1
  simp only [put_some, List.set_cons_succ, List.set_cons_zero]
  refine hK _ _ ?_
  clear hK K hB1
  go_wp2_with (with_reducible refine wp_loop_once ?_)
  go_ret
  exact ⟨rfl, hm1⟩
theorem stLines : ST Try.prog 87 176 (.slice none 0 0) 1 24 := ⟨Try.underlying87, by kernel_rfl, rfl, by decide⟩
set_option maxRecDepth 100000 in
set_option maxHeartbeats 2000000 in
theorem flatLines_nil (w : World) : Calls Try.prog 75 #[.slice none 0 0] w fun e w' => e = .returned (.bool true) ∧ Mod [] w w' := by
  go_enter Try.func75, Try.ntmps75
  go_wp2_with (first | (with_reducible refine wp_loop_once ?_) | (with_reducible refine st_make ?_))
  refine StopOp.go rfl fun K hK => ?_
  refine wp_make (nl := 0) (nc := 0) stLines (by rfl) (by rfl) rfl rfl (Nat.le_refl _) (by omega) (by omega) ?_
  intro b w1 hb1 hb2 hm1 hB1
  simp only [put_some, List.set_cons_succ, List.set_cons_zero]
  refine hK _ _ ?_
  clear hK K hB1
  go_wp2_with (with_reducible refine wp_loop_once ?_)
  go_ret
  exact ⟨rfl, hm1⟩
theorem stTurns : ST Try.prog 88 180 (.slice none 0 0) 1 24 := ⟨Try.underlying88, by kernel_rfl, rfl, by decide⟩
set_option maxRecDepth 100000 in
set_option maxHeartbeats 2000000 in
theorem flatTurns_nil (w : World) : Calls Try.prog 76 #[.slice none 0 0] w fun e w' => e = .returned (.bool true) ∧ Mod [] w w' := by
  go_enter Try.func76, Try.ntmps76
  go_wp2_with (first | (with_reducible refine wp_loop_once ?_) | (with_reducible refine st_make ?_))
  refine StopOp.go rfl fun K hK => ?_
  refine wp_make (nl := 0) (nc := 0) stTurns (by rfl) (by rfl) rfl rfl (Nat.le_refl _) (by omega) (by omega) ?_
  intro b w1 hb1 hb2 hm1 hB1
  simp only [put_some, List.set_cons_succ, List.set_cons_zero]
  refine hK _ _ ?_
  clear hK K hB1
  go_wp2_with (with_reducible refine wp_loop_once ?_)
  go_ret
  exact ⟨rfl, hm1⟩
theorem stCommands : ST Try.prog 89 184 (.slice none 0 0) 1 24 := ⟨Try.underlying89, by kernel_rfl, rfl, by decide⟩
set_option maxRecDepth 100000 in
set_option maxHeartbeats 2000000 in
theorem flatCommands_nil (w : World) : Calls Try.prog 77 #[.slice none 0 0] w fun e w' => e = .returned (.bool true) ∧ Mod [] w w' := by
  go_enter Try.func77, Try.ntmps77
  go_wp2_with (first | (with_reducible refine wp_loop_once ?_) | (with_reducible refine st_make ?_))
  refine StopOp.go rfl fun K hK => ?_
  refine wp_make (nl := 0) (nc := 0) stCommands (by rfl) (by rfl) rfl rfl (Nat.le_refl _) (by omega) (by omega) ?_
  intro b w1 hb1 hb2 hm1 hB1
  simp only [put_some, List.set_cons_succ, List.set_cons_zero]
  refine hK _ _ ?_
  clear hK K hB1
  go_wp2_with (with_reducible refine wp_loop_once ?_)
  go_ret
  exact ⟨rfl, hm1⟩
end Go.Proofs.Ytfcoaiggpcjldaa
