import Derived.Test.YtfcoaiggpcjldaaDoorOctA
set_option linter.unusedVariables false
set_option linter.unusedSimpArgs false
set_option maxRecDepth 100000
namespace Go.Proofs.YtfcoaiggpcjldaaDoor
open Go.RowKit Gw

theorem stLimbs : ST Tryd.prog 59 118 (.slice none 0 0) 1 24 := ⟨Tryd.underlying59, by kernel_rfl, rfl, by decide⟩
set_option maxRecDepth 100000 in
set_option maxHeartbeats 2000000 in
theorem flatLimbs_nil (w : World) : Calls Tryd.prog 42 #[.slice none 0 0] w fun e w' => e = .returned (.bool true) ∧ Mod [] w w' := by
  go_enter Tryd.func42, Tryd.ntmps42
  go_wp2_with (first | (with_reducible refine wp_loop_once ?_) | (with_reducible refine st_make ?_))
  refine StopOp.go rfl fun K hK => ?_
  refine wp_make (nl := 0) (nc := 0) stLimbs (by rfl) (by rfl) rfl rfl (Nat.le_refl _) (by omega) (by omega) ?_
  intro b w1 hb1 hb2 hm1 hB1
  simp only [put_some, List.set_cons_succ, List.set_cons_zero]
  refine hK _ _ ?_
  clear hK K hB1
  go_wp2_with (with_reducible refine wp_loop_once ?_)
  go_ret
  exact ⟨rfl, hm1⟩
theorem stInts : ST Tryd.prog 60 119 (.slice none 0 0) 1 24 := ⟨Tryd.underlying60, by kernel_rfl, rfl, by decide⟩
set_option maxRecDepth 100000 in
set_option maxHeartbeats 2000000 in
theorem flatInts_nil (w : World) : Calls Tryd.prog 43 #[.slice none 0 0] w fun e w' => e = .returned (.bool true) ∧ Mod [] w w' := by
  go_enter Tryd.func43, Tryd.ntmps43
  go_wp2_with (first | (with_reducible refine wp_loop_once ?_) | (with_reducible refine st_make ?_))
  refine StopOp.go rfl fun K hK => ?_
  refine wp_make (nl := 0) (nc := 0) stInts (by rfl) (by rfl) rfl rfl (Nat.le_refl _) (by omega) (by omega) ?_
  intro b w1 hb1 hb2 hm1 hB1
  simp only [put_some, List.set_cons_succ, List.set_cons_zero]
  refine hK _ _ ?_
  clear hK K hB1
  go_wp2_with (with_reducible refine wp_loop_once ?_)
  go_ret
  exact ⟨rfl, hm1⟩
theorem stLongs : ST Tryd.prog 61 120 (.slice none 0 0) 1 24 := ⟨Tryd.underlying61, by kernel_rfl, rfl, by decide⟩
set_option maxRecDepth 100000 in
set_option maxHeartbeats 2000000 in
theorem flatLongs_nil (w : World) : Calls Tryd.prog 44 #[.slice none 0 0] w fun e w' => e = .returned (.bool true) ∧ Mod [] w w' := by
  go_enter Tryd.func44, Tryd.ntmps44
  go_wp2_with (first | (with_reducible refine wp_loop_once ?_) | (with_reducible refine st_make ?_))
  refine StopOp.go rfl fun K hK => ?_
  refine wp_make (nl := 0) (nc := 0) stLongs (by rfl) (by rfl) rfl rfl (Nat.le_refl _) (by omega) (by omega) ?_
  intro b w1 hb1 hb2 hm1 hB1
  simp only [put_some, List.set_cons_succ, List.set_cons_zero]
  refine hK _ _ ?_
  clear hK K hB1
  go_wp2_with (with_reducible refine wp_loop_once ?_)
  go_ret
  exact ⟨rfl, hm1⟩
theorem stTexts : ST Tryd.prog 62 121 (.slice none 0 0) 1 24 := ⟨Tryd.underlying62, by kernel_rfl, rfl, by decide⟩
set_option maxRecDepth 100000 in
set_option maxHeartbeats 2000000 in
theorem flatTexts_nil (w : World) : Calls Tryd.prog 45 #[.slice none 0 0] w fun e w' => e = .returned (.bool true) ∧ Mod [] w w' := by
  go_enter Tryd.func45, Tryd.ntmps45
  go_wp2_with (first | (with_reducible refine wp_loop_once ?_) | (with_reducible refine st_make ?_))
  refine StopOp.go rfl fun K hK => ?_
  refine wp_make (nl := 0) (nc := 0) stTexts (by rfl) (by rfl) rfl rfl (Nat.le_refl _) (by omega) (by omega) ?_
  intro b w1 hb1 hb2 hm1 hB1
  simp only [put_some, List.set_cons_succ, List.set_cons_zero]
  refine hK _ _ ?_
  clear hK K hB1
  go_wp2_with (with_reducible refine wp_loop_once ?_)
  go_ret
  exact ⟨rfl, hm1⟩
theorem stReals : ST Tryd.prog 63 123 (.slice none 0 0) 1 24 := ⟨Tryd.underlying63, by kernel_rfl, rfl, by decide⟩
set_option maxRecDepth 100000 in
set_option maxHeartbeats 2000000 in
theorem flatReals_nil (w : World) : Calls Tryd.prog 47 #[.slice none 0 0] w fun e w' => e = .returned (.bool true) ∧ Mod [] w w' := by
  go_enter Tryd.func47, Tryd.ntmps47
  go_wp2_with (first | (with_reducible refine wp_loop_once ?_) | (with_reducible refine st_make ?_))
  refine StopOp.go rfl fun K hK => ?_
  refine wp_make (nl := 0) (nc := 0) stReals (by rfl) (by rfl) rfl rfl (Nat.le_refl _) (by omega) (by omega) ?_
  intro b w1 hb1 hb2 hm1 hB1
  simp only [put_some, List.set_cons_succ, List.set_cons_zero]
  refine hK _ _ ?_
  clear hK K hB1
  go_wp2_with (with_reducible refine wp_loop_once ?_)
  go_ret
  exact ⟨rfl, hm1⟩
theorem stFates : ST Tryd.prog 64 125 (.slice none 0 0) 1 24 := ⟨Tryd.underlying64, by kernel_rfl, rfl, by decide⟩
set_option maxRecDepth 100000 in
set_option maxHeartbeats 2000000 in
theorem flatFates_nil (w : World) : Calls Tryd.prog 48 #[.slice none 0 0] w fun e w' => e = .returned (.bool true) ∧ Mod [] w w' := by
  go_enter Tryd.func48, Tryd.ntmps48
  go_wp2_with (first | (with_reducible refine wp_loop_once ?_) | (with_reducible refine st_make ?_))
  refine StopOp.go rfl fun K hK => ?_
  refine wp_make (nl := 0) (nc := 0) stFates (by rfl) (by rfl) rfl rfl (Nat.le_refl _) (by omega) (by omega) ?_
  intro b w1 hb1 hb2 hm1 hB1
  simp only [put_some, List.set_cons_succ, List.set_cons_zero]
  refine hK _ _ ?_
  clear hK K hB1
  go_wp2_with (with_reducible refine wp_loop_once ?_)
  go_ret
  exact ⟨rfl, hm1⟩
theorem stSpans : ST Tryd.prog 65 130 (.slice none 0 0) 1 24 := ⟨Tryd.underlying65, by kernel_rfl, rfl, by decide⟩
set_option maxRecDepth 100000 in
set_option maxHeartbeats 2000000 in
theorem flatSpans_nil (w : World) : Calls Tryd.prog 49 #[.slice none 0 0] w fun e w' => e = .returned (.bool true) ∧ Mod [] w w' := by
  go_enter Tryd.func49, Tryd.ntmps49
  go_wp2_with (first | (with_reducible refine wp_loop_once ?_) | (with_reducible refine st_make ?_))
  refine StopOp.go rfl fun K hK => ?_
  refine wp_make (nl := 0) (nc := 0) stSpans (by rfl) (by rfl) rfl rfl (Nat.le_refl _) (by omega) (by omega) ?_
  intro b w1 hb1 hb2 hm1 hB1
  simp only [put_some, List.set_cons_succ, List.set_cons_zero]
  refine hK _ _ ?_
  clear hK K hB1
  go_wp2_with (with_reducible refine wp_loop_once ?_)
  go_ret
  exact ⟨rfl, hm1⟩
theorem stFrames : ST Tryd.prog 66 134 (.slice none 0 0) 1 24 := ⟨Tryd.underlying66, by kernel_rfl, rfl, by decide⟩
set_option maxRecDepth 100000 in
set_option maxHeartbeats 2000000 in
theorem flatFrames_nil (w : World) : Calls Tryd.prog 50 #[.slice none 0 0] w fun e w' => e = .returned (.bool true) ∧ Mod [] w w' := by
  go_enter Tryd.func50, Tryd.ntmps50
  go_wp2_with (first | (with_reducible refine wp_loop_once ?_) | (with_reducible refine st_make ?_))
  refine StopOp.go rfl fun K hK => ?_
  refine wp_make (nl := 0) (nc := 0) stFrames (by rfl) (by rfl) rfl rfl (Nat.le_refl _) (by omega) (by omega) ?_
  intro b w1 hb1 hb2 hm1 hB1
  simp only [put_some, List.set_cons_succ, List.set_cons_zero]
  refine hK _ _ ?_
  clear hK K hB1
  go_wp2_with (with_reducible refine wp_loop_once ?_)
  go_ret
  exact ⟨rfl, hm1⟩
theorem stCabins : ST Tryd.prog 67 139 (.slice none 0 0) 1 24 := ⟨Tryd.underlying67, by kernel_rfl, rfl, by decide⟩
set_option maxRecDepth 100000 in
set_option maxHeartbeats 2000000 in
theorem flatCabins_nil (w : World) : Calls Tryd.prog 51 #[.slice none 0 0] w fun e w' => e = .returned (.bool true) ∧ Mod [] w w' := by
  go_enter Tryd.func51, Tryd.ntmps51
  go_wp2_with (first | (with_reducible refine wp_loop_once ?_) | (with_reducible refine st_make ?_))
  refine StopOp.go rfl fun K hK => ?_
  refine wp_make (nl := 0) (nc := 0) stCabins (by rfl) (by rfl) rfl rfl (Nat.le_refl _) (by omega) (by omega) ?_
  intro b w1 hb1 hb2 hm1 hB1
  simp only [put_some, List.set_cons_succ, List.set_cons_zero]
  refine hK _ _ ?_
  clear hK K hB1
  go_wp2_with (with_reducible refine wp_loop_once ?_)
  go_ret
  exact ⟨rfl, hm1⟩
theorem stRecords : ST Tryd.prog 68 144 (.slice none 0 0) 1 24 := ⟨Tryd.underlying68, by kernel_rfl, rfl, by decide⟩
set_option maxRecDepth 100000 in
set_option maxHeartbeats 2000000 in
theorem flatRecords_nil (w : World) : Calls Tryd.prog 52 #[.slice none 0 0] w fun e w' => e = .returned (.bool true) ∧ Mod [] w w' := by
  go_enter Tryd.func52, Tryd.ntmps52
  go_wp2_with (first | (with_reducible refine wp_loop_once ?_) | (with_reducible refine st_make ?_))
  refine StopOp.go rfl fun K hK => ?_
  refine wp_make (nl := 0) (nc := 0) stRecords (by rfl) (by rfl) rfl rfl (Nat.le_refl _) (by omega) (by omega) ?_
  intro b w1 hb1 hb2 hm1 hB1
  simp only [put_some, List.set_cons_succ, List.set_cons_zero]
  refine hK _ _ ?_
  clear hK K hB1
  go_wp2_with (with_reducible refine wp_loop_once ?_)
  go_ret
  exact ⟨rfl, hm1⟩
theorem stBookings : ST Tryd.prog 69 149 (.slice none 0 0) 1 24 := ⟨Tryd.underlying69, by kernel_rfl, rfl, by decide⟩
set_option maxRecDepth 100000 in
set_option maxHeartbeats 2000000 in
theorem flatBookings_nil (w : World) : Calls Tryd.prog 53 #[.slice none 0 0] w fun e w' => e = .returned (.bool true) ∧ Mod [] w w' := by
  go_enter Tryd.func53, Tryd.ntmps53
  go_wp2_with (first | (with_reducible refine wp_loop_once ?_) | (with_reducible refine st_make ?_))
  refine StopOp.go rfl fun K hK => ?_
  refine wp_make (nl := 0) (nc := 0) stBookings (by rfl) (by rfl) rfl rfl (Nat.le_refl _) (by omega) (by omega) ?_
  intro b w1 hb1 hb2 hm1 hB1
  simp only [put_some, List.set_cons_succ, List.set_cons_zero]
  refine hK _ _ ?_
  clear hK K hB1
  go_wp2_with (with_reducible refine wp_loop_once ?_)
  go_ret
  exact ⟨rfl, hm1⟩
theorem stRequests : ST Tryd.prog 70 153 (.slice none 0 0) 1 24 := ⟨Tryd.underlying70, by kernel_rfl, rfl, by decide⟩
set_option maxRecDepth 100000 in
set_option maxHeartbeats 2000000 in
theorem flatRequests_nil (w : World) : Calls Tryd.prog 54 #[.slice none 0 0] w fun e w' => e = .returned (.bool true) ∧ Mod [] w w' := by
  go_enter Tryd.func54, Tryd.ntmps54
  go_wp2_with (first | (with_reducible refine wp_loop_once ?_) | (with_reducible refine st_make ?_))
  refine StopOp.go rfl fun K hK => ?_
  refine wp_make (nl := 0) (nc := 0) stRequests (by rfl) (by rfl) rfl rfl (Nat.le_refl _) (by omega) (by omega) ?_
  intro b w1 hb1 hb2 hm1 hB1
  simp only [put_some, List.set_cons_succ, List.set_cons_zero]
  refine hK _ _ ?_
  clear hK K hB1
  go_wp2_with (with_reducible refine wp_loop_once ?_)
  go_ret
  exact ⟨rfl, hm1⟩
theorem stReplies : ST Tryd.prog 71 39 (.slice none 0 0) 1 24 := ⟨Tryd.underlying71, by kernel_rfl, rfl, by decide⟩
set_option maxRecDepth 100000 in
set_option maxHeartbeats 2000000 in
theorem flatReplies_nil (w : World) : Calls Tryd.prog 55 #[.slice none 0 0] w fun e w' => e = .returned (.bool true) ∧ Mod [] w w' := by
  go_enter Tryd.func55, Tryd.ntmps55
  go_wp2_with (first | (with_reducible refine wp_loop_once ?_) | (with_reducible refine st_make ?_))
  refine StopOp.go rfl fun K hK => ?_
  refine wp_make (nl := 0) (nc := 0) stReplies (by rfl) (by rfl) rfl rfl (Nat.le_refl _) (by omega) (by omega) ?_
  intro b w1 hb1 hb2 hm1 hB1
  simp only [put_some, List.set_cons_succ, List.set_cons_zero]
  refine hK _ _ ?_
  clear hK K hB1
  go_wp2_with (with_reducible refine wp_loop_once ?_)
  go_ret
  exact ⟨rfl, hm1⟩
theorem stFares : ST Tryd.prog 72 158 (.slice none 0 0) 1 24 := ⟨Tryd.underlying72, by kernel_rfl, rfl, by decide⟩
set_option maxRecDepth 100000 in
set_option maxHeartbeats 2000000 in
theorem flatFares_nil (w : World) : Calls Tryd.prog 56 #[.slice none 0 0] w fun e w' => e = .returned (.bool true) ∧ Mod [] w w' := by
  go_enter Tryd.func56, Tryd.ntmps56
  go_wp2_with (first | (with_reducible refine wp_loop_once ?_) | (with_reducible refine st_make ?_))
  refine StopOp.go rfl fun K hK => ?_
  refine wp_make (nl := 0) (nc := 0) stFares (by rfl) (by rfl) rfl rfl (Nat.le_refl _) (by omega) (by omega) ?_
  intro b w1 hb1 hb2 hm1 hB1
  simp only [put_some, List.set_cons_succ, List.set_cons_zero]
  refine hK _ _ ?_
  clear hK K hB1
  go_wp2_with (with_reducible refine wp_loop_once ?_)
  go_ret
  exact ⟨rfl, hm1⟩
theorem stWaits : ST Tryd.prog 73 163 (.slice none 0 0) 1 24 := ⟨Tryd.underlying73, by kernel_rfl, rfl, by decide⟩
set_option maxRecDepth 100000 in
set_option maxHeartbeats 2000000 in
theorem flatWaits_nil (w : World) : Calls Tryd.prog 57 #[.slice none 0 0] w fun e w' => e = .returned (.bool true) ∧ Mod [] w w' := by
  go_enter Tryd.func57, Tryd.ntmps57
  go_wp2_with (first | (with_reducible refine wp_loop_once ?_) | (with_reducible refine st_make ?_))
  refine StopOp.go rfl fun K hK => ?_
  refine wp_make (nl := 0) (nc := 0) stWaits (by rfl) (by rfl) rfl rfl (Nat.le_refl _) (by omega) (by omega) ?_
  intro b w1 hb1 hb2 hm1 hB1
  simp only [put_some, List.set_cons_succ, List.set_cons_zero]
  refine hK _ _ ?_
  clear hK K hB1
  go_wp2_with (with_reducible refine wp_loop_once ?_)
  go_ret
  exact ⟨rfl, hm1⟩
theorem stLines : ST Tryd.prog 74 167 (.slice none 0 0) 1 24 := ⟨Tryd.underlying74, by kernel_rfl, rfl, by decide⟩
set_option maxRecDepth 100000 in
set_option maxHeartbeats 2000000 in
theorem flatLines_nil (w : World) : Calls Tryd.prog 58 #[.slice none 0 0] w fun e w' => e = .returned (.bool true) ∧ Mod [] w w' := by
  go_enter Tryd.func58, Tryd.ntmps58
  go_wp2_with (first | (with_reducible refine wp_loop_once ?_) | (with_reducible refine st_make ?_))
  refine StopOp.go rfl fun K hK => ?_
  refine wp_make (nl := 0) (nc := 0) stLines (by rfl) (by rfl) rfl rfl (Nat.le_refl _) (by omega) (by omega) ?_
  intro b w1 hb1 hb2 hm1 hB1
  simp only [put_some, List.set_cons_succ, List.set_cons_zero]
  refine hK _ _ ?_
  clear hK K hB1
  go_wp2_with (with_reducible refine wp_loop_once ?_)
  go_ret
  exact ⟨rfl, hm1⟩
theorem stTurns : ST Tryd.prog 75 171 (.slice none 0 0) 1 24 := ⟨Tryd.underlying75, by kernel_rfl, rfl, by decide⟩
set_option maxRecDepth 100000 in
set_option maxHeartbeats 2000000 in
theorem flatTurns_nil (w : World) : Calls Tryd.prog 59 #[.slice none 0 0] w fun e w' => e = .returned (.bool true) ∧ Mod [] w w' := by
  go_enter Tryd.func59, Tryd.ntmps59
  go_wp2_with (first | (with_reducible refine wp_loop_once ?_) | (with_reducible refine st_make ?_))
  refine StopOp.go rfl fun K hK => ?_
  refine wp_make (nl := 0) (nc := 0) stTurns (by rfl) (by rfl) rfl rfl (Nat.le_refl _) (by omega) (by omega) ?_
  intro b w1 hb1 hb2 hm1 hB1
  simp only [put_some, List.set_cons_succ, List.set_cons_zero]
  refine hK _ _ ?_
  clear hK K hB1
  go_wp2_with (with_reducible refine wp_loop_once ?_)
  go_ret
  exact ⟨rfl, hm1⟩
theorem stCommands : ST Tryd.prog 76 175 (.slice none 0 0) 1 24 := ⟨Tryd.underlying76, by kernel_rfl, rfl, by decide⟩
set_option maxRecDepth 100000 in
set_option maxHeartbeats 2000000 in
theorem flatCommands_nil (w : World) : Calls Tryd.prog 60 #[.slice none 0 0] w fun e w' => e = .returned (.bool true) ∧ Mod [] w w' := by
  go_enter Tryd.func60, Tryd.ntmps60
  go_wp2_with (first | (with_reducible refine wp_loop_once ?_) | (with_reducible refine st_make ?_))
  refine StopOp.go rfl fun K hK => ?_
  refine wp_make (nl := 0) (nc := 0) stCommands (by rfl) (by rfl) rfl rfl (Nat.le_refl _) (by omega) (by omega) ?_
  intro b w1 hb1 hb2 hm1 hB1
  simp only [put_some, List.set_cons_succ, List.set_cons_zero]
  refine hK _ _ ?_
  clear hK K hB1
  go_wp2_with (with_reducible refine wp_loop_once ?_)
  go_ret
  exact ⟨rfl, hm1⟩
end Go.Proofs.YtfcoaiggpcjldaaDoor
