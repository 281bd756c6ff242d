import Derived.Test.YtboigcnpamldlaaDoorGOct
set_option linter.unusedVariables false
set_option linter.unusedSimpArgs false
set_option maxRecDepth 100000
namespace Go.Proofs.YtboigcnpamldlaaDoor
open Go.RowKit Gw

theorem stLimbs : ST Tryd.prog 86 137 (.slice none 0 0) 1 24 := ⟨Tryd.underlying86, by kernel_rfl, rfl, by decide⟩
set_option maxRecDepth 100000 in
set_option maxHeartbeats 2000000 in
theorem flatLimbs_nil (w : World) : Calls Tryd.prog 66 #[.slice none 0 0] w fun e w' => e = .returned (.bool true) ∧ Mod [] w w' := by
  go_enter Tryd.func66, Tryd.ntmps66
  go_wp2_with (first | (with_reducible refine wp_loop_once ?_) | (with_reducible refine st_make ?_))
  refine StopOp.go rfl fun K hK => ?_
  refine wp_make (nl := 0) (nc := 0) stLimbs (by rfl) (by rfl) rfl rfl (Nat.le_refl _) (by omega) (by omega) ?_
  intro b w1 hb1 hb2 hm1 hB1
  simp only [put_some, List.set_cons_succ, List.set_cons_zero]
  refine hK _ _ ?_
  clear hK K hB1
  go_wp2_with (with_reducible refine wp_loop_once ?_)
  go_ret
  exact ⟨rfl, hm1⟩
theorem stInts : ST Tryd.prog 87 47 (.slice none 0 0) 1 24 := ⟨Tryd.underlying87, by kernel_rfl, rfl, by decide⟩
set_option maxRecDepth 100000 in
set_option maxHeartbeats 2000000 in
theorem flatInts_nil (w : World) : Calls Tryd.prog 67 #[.slice none 0 0] w fun e w' => e = .returned (.bool true) ∧ Mod [] w w' := by
  go_enter Tryd.func67, Tryd.ntmps67
  go_wp2_with (first | (with_reducible refine wp_loop_once ?_) | (with_reducible refine st_make ?_))
  refine StopOp.go rfl fun K hK => ?_
  refine wp_make (nl := 0) (nc := 0) stInts (by rfl) (by rfl) rfl rfl (Nat.le_refl _) (by omega) (by omega) ?_
  intro b w1 hb1 hb2 hm1 hB1
  simp only [put_some, List.set_cons_succ, List.set_cons_zero]
  refine hK _ _ ?_
  clear hK K hB1
  go_wp2_with (with_reducible refine wp_loop_once ?_)
  go_ret
  exact ⟨rfl, hm1⟩
theorem stLongs : ST Tryd.prog 88 138 (.slice none 0 0) 1 24 := ⟨Tryd.underlying88, by kernel_rfl, rfl, by decide⟩
set_option maxRecDepth 100000 in
set_option maxHeartbeats 2000000 in
theorem flatLongs_nil (w : World) : Calls Tryd.prog 68 #[.slice none 0 0] w fun e w' => e = .returned (.bool true) ∧ Mod [] w w' := by
  go_enter Tryd.func68, Tryd.ntmps68
  go_wp2_with (first | (with_reducible refine wp_loop_once ?_) | (with_reducible refine st_make ?_))
  refine StopOp.go rfl fun K hK => ?_
  refine wp_make (nl := 0) (nc := 0) stLongs (by rfl) (by rfl) rfl rfl (Nat.le_refl _) (by omega) (by omega) ?_
  intro b w1 hb1 hb2 hm1 hB1
  simp only [put_some, List.set_cons_succ, List.set_cons_zero]
  refine hK _ _ ?_
  clear hK K hB1
  go_wp2_with (with_reducible refine wp_loop_once ?_)
  go_ret
  exact ⟨rfl, hm1⟩
theorem stTexts : ST Tryd.prog 89 139 (.slice none 0 0) 1 24 := ⟨Tryd.underlying89, by kernel_rfl, rfl, by decide⟩
set_option maxRecDepth 100000 in
set_option maxHeartbeats 2000000 in
theorem flatTexts_nil (w : World) : Calls Tryd.prog 69 #[.slice none 0 0] w fun e w' => e = .returned (.bool true) ∧ Mod [] w w' := by
  go_enter Tryd.func69, Tryd.ntmps69
  go_wp2_with (first | (with_reducible refine wp_loop_once ?_) | (with_reducible refine st_make ?_))
  refine StopOp.go rfl fun K hK => ?_
  refine wp_make (nl := 0) (nc := 0) stTexts (by rfl) (by rfl) rfl rfl (Nat.le_refl _) (by omega) (by omega) ?_
  intro b w1 hb1 hb2 hm1 hB1
  simp only [put_some, List.set_cons_succ, List.set_cons_zero]
  refine hK _ _ ?_
  clear hK K hB1
  go_wp2_with (with_reducible refine wp_loop_once ?_)
  go_ret
  exact ⟨rfl, hm1⟩
theorem stReals : ST Tryd.prog 90 141 (.slice none 0 0) 1 24 := ⟨Tryd.underlying90, by kernel_rfl, rfl, by decide⟩
set_option maxRecDepth 100000 in
set_option maxHeartbeats 2000000 in
theorem flatReals_nil (w : World) : Calls Tryd.prog 71 #[.slice none 0 0] w fun e w' => e = .returned (.bool true) ∧ Mod [] w w' := by
  go_enter Tryd.func71, Tryd.ntmps71
  go_wp2_with (first | (with_reducible refine wp_loop_once ?_) | (with_reducible refine st_make ?_))
  refine StopOp.go rfl fun K hK => ?_
  refine wp_make (nl := 0) (nc := 0) stReals (by rfl) (by rfl) rfl rfl (Nat.le_refl _) (by omega) (by omega) ?_
  intro b w1 hb1 hb2 hm1 hB1
  simp only [put_some, List.set_cons_succ, List.set_cons_zero]
  refine hK _ _ ?_
  clear hK K hB1
  go_wp2_with (with_reducible refine wp_loop_once ?_)
  go_ret
  exact ⟨rfl, hm1⟩
theorem stFates : ST Tryd.prog 91 143 (.slice none 0 0) 1 24 := ⟨Tryd.underlying91, by kernel_rfl, rfl, by decide⟩
set_option maxRecDepth 100000 in
set_option maxHeartbeats 2000000 in
theorem flatFates_nil (w : World) : Calls Tryd.prog 72 #[.slice none 0 0] w fun e w' => e = .returned (.bool true) ∧ Mod [] w w' := by
  go_enter Tryd.func72, Tryd.ntmps72
  go_wp2_with (first | (with_reducible refine wp_loop_once ?_) | (with_reducible refine st_make ?_))
  refine StopOp.go rfl fun K hK => ?_
  refine wp_make (nl := 0) (nc := 0) stFates (by rfl) (by rfl) rfl rfl (Nat.le_refl _) (by omega) (by omega) ?_
  intro b w1 hb1 hb2 hm1 hB1
  simp only [put_some, List.set_cons_succ, List.set_cons_zero]
  refine hK _ _ ?_
  clear hK K hB1
  go_wp2_with (with_reducible refine wp_loop_once ?_)
  go_ret
  exact ⟨rfl, hm1⟩
theorem stSpans : ST Tryd.prog 92 148 (.slice none 0 0) 1 24 := ⟨Tryd.underlying92, by kernel_rfl, rfl, by decide⟩
set_option maxRecDepth 100000 in
set_option maxHeartbeats 2000000 in
theorem flatSpans_nil (w : World) : Calls Tryd.prog 73 #[.slice none 0 0] w fun e w' => e = .returned (.bool true) ∧ Mod [] w w' := by
  go_enter Tryd.func73, Tryd.ntmps73
  go_wp2_with (first | (with_reducible refine wp_loop_once ?_) | (with_reducible refine st_make ?_))
  refine StopOp.go rfl fun K hK => ?_
  refine wp_make (nl := 0) (nc := 0) stSpans (by rfl) (by rfl) rfl rfl (Nat.le_refl _) (by omega) (by omega) ?_
  intro b w1 hb1 hb2 hm1 hB1
  simp only [put_some, List.set_cons_succ, List.set_cons_zero]
  refine hK _ _ ?_
  clear hK K hB1
  go_wp2_with (with_reducible refine wp_loop_once ?_)
  go_ret
  exact ⟨rfl, hm1⟩
theorem stFrames : ST Tryd.prog 64 41 (.slice none 0 0) 1 24 := ⟨Tryd.underlying64, by kernel_rfl, rfl, by decide⟩
set_option maxRecDepth 100000 in
set_option maxHeartbeats 2000000 in
theorem flatFrames_nil (w : World) : Calls Tryd.prog 74 #[.slice none 0 0] w fun e w' => e = .returned (.bool true) ∧ Mod [] w w' := by
  go_enter Tryd.func74, Tryd.ntmps74
  go_wp2_with (first | (with_reducible refine wp_loop_once ?_) | (with_reducible refine st_make ?_))
  refine StopOp.go rfl fun K hK => ?_
  refine wp_make (nl := 0) (nc := 0) stFrames (by rfl) (by rfl) rfl rfl (Nat.le_refl _) (by omega) (by omega) ?_
  intro b w1 hb1 hb2 hm1 hB1
  simp only [put_some, List.set_cons_succ, List.set_cons_zero]
  refine hK _ _ ?_
  clear hK K hB1
  go_wp2_with (with_reducible refine wp_loop_once ?_)
  go_ret
  exact ⟨rfl, hm1⟩
theorem stCabins : ST Tryd.prog 93 153 (.slice none 0 0) 1 24 := ⟨Tryd.underlying93, by kernel_rfl, rfl, by decide⟩
set_option maxRecDepth 100000 in
set_option maxHeartbeats 2000000 in
theorem flatCabins_nil (w : World) : Calls Tryd.prog 75 #[.slice none 0 0] w fun e w' => e = .returned (.bool true) ∧ Mod [] w w' := by
  go_enter Tryd.func75, Tryd.ntmps75
  go_wp2_with (first | (with_reducible refine wp_loop_once ?_) | (with_reducible refine st_make ?_))
  refine StopOp.go rfl fun K hK => ?_
  refine wp_make (nl := 0) (nc := 0) stCabins (by rfl) (by rfl) rfl rfl (Nat.le_refl _) (by omega) (by omega) ?_
  intro b w1 hb1 hb2 hm1 hB1
  simp only [put_some, List.set_cons_succ, List.set_cons_zero]
  refine hK _ _ ?_
  clear hK K hB1
  go_wp2_with (with_reducible refine wp_loop_once ?_)
  go_ret
  exact ⟨rfl, hm1⟩
theorem stRecords : ST Tryd.prog 94 158 (.slice none 0 0) 1 24 := ⟨Tryd.underlying94, by kernel_rfl, rfl, by decide⟩
set_option maxRecDepth 100000 in
set_option maxHeartbeats 2000000 in
theorem flatRecords_nil (w : World) : Calls Tryd.prog 76 #[.slice none 0 0] w fun e w' => e = .returned (.bool true) ∧ Mod [] w w' := by
  go_enter Tryd.func76, Tryd.ntmps76
  go_wp2_with (first | (with_reducible refine wp_loop_once ?_) | (with_reducible refine st_make ?_))
  refine StopOp.go rfl fun K hK => ?_
  refine wp_make (nl := 0) (nc := 0) stRecords (by rfl) (by rfl) rfl rfl (Nat.le_refl _) (by omega) (by omega) ?_
  intro b w1 hb1 hb2 hm1 hB1
  simp only [put_some, List.set_cons_succ, List.set_cons_zero]
  refine hK _ _ ?_
  clear hK K hB1
  go_wp2_with (with_reducible refine wp_loop_once ?_)
  go_ret
  exact ⟨rfl, hm1⟩
theorem stBookings : ST Tryd.prog 95 163 (.slice none 0 0) 1 24 := ⟨Tryd.underlying95, by kernel_rfl, rfl, by decide⟩
set_option maxRecDepth 100000 in
set_option maxHeartbeats 2000000 in
theorem flatBookings_nil (w : World) : Calls Tryd.prog 77 #[.slice none 0 0] w fun e w' => e = .returned (.bool true) ∧ Mod [] w w' := by
  go_enter Tryd.func77, Tryd.ntmps77
  go_wp2_with (first | (with_reducible refine wp_loop_once ?_) | (with_reducible refine st_make ?_))
  refine StopOp.go rfl fun K hK => ?_
  refine wp_make (nl := 0) (nc := 0) stBookings (by rfl) (by rfl) rfl rfl (Nat.le_refl _) (by omega) (by omega) ?_
  intro b w1 hb1 hb2 hm1 hB1
  simp only [put_some, List.set_cons_succ, List.set_cons_zero]
  refine hK _ _ ?_
  clear hK K hB1
  go_wp2_with (with_reducible refine wp_loop_once ?_)
  go_ret
  exact ⟨rfl, hm1⟩
theorem stRequests : ST Tryd.prog 96 167 (.slice none 0 0) 1 24 := ⟨Tryd.underlying96, by kernel_rfl, rfl, by decide⟩
set_option maxRecDepth 100000 in
set_option maxHeartbeats 2000000 in
theorem flatRequests_nil (w : World) : Calls Tryd.prog 78 #[.slice none 0 0] w fun e w' => e = .returned (.bool true) ∧ Mod [] w w' := by
  go_enter Tryd.func78, Tryd.ntmps78
  go_wp2_with (first | (with_reducible refine wp_loop_once ?_) | (with_reducible refine st_make ?_))
  refine StopOp.go rfl fun K hK => ?_
  refine wp_make (nl := 0) (nc := 0) stRequests (by rfl) (by rfl) rfl rfl (Nat.le_refl _) (by omega) (by omega) ?_
  intro b w1 hb1 hb2 hm1 hB1
  simp only [put_some, List.set_cons_succ, List.set_cons_zero]
  refine hK _ _ ?_
  clear hK K hB1
  go_wp2_with (with_reducible refine wp_loop_once ?_)
  go_ret
  exact ⟨rfl, hm1⟩
theorem stReplies : ST Tryd.prog 97 172 (.slice none 0 0) 1 24 := ⟨Tryd.underlying97, by kernel_rfl, rfl, by decide⟩
set_option maxRecDepth 100000 in
set_option maxHeartbeats 2000000 in
theorem flatReplies_nil (w : World) : Calls Tryd.prog 79 #[.slice none 0 0] w fun e w' => e = .returned (.bool true) ∧ Mod [] w w' := by
  go_enter Tryd.func79, Tryd.ntmps79
  go_wp2_with (first | (with_reducible refine wp_loop_once ?_) | (with_reducible refine st_make ?_))
  refine StopOp.go rfl fun K hK => ?_
  refine wp_make (nl := 0) (nc := 0) stReplies (by rfl) (by rfl) rfl rfl (Nat.le_refl _) (by omega) (by omega) ?_
  intro b w1 hb1 hb2 hm1 hB1
  simp only [put_some, List.set_cons_succ, List.set_cons_zero]
  refine hK _ _ ?_
  clear hK K hB1
  go_wp2_with (with_reducible refine wp_loop_once ?_)
  go_ret
  exact ⟨rfl, hm1⟩
theorem stFares : ST Tryd.prog 98 176 (.slice none 0 0) 1 24 := ⟨Tryd.underlying98, by kernel_rfl, rfl, by decide⟩
set_option maxRecDepth 100000 in
set_option maxHeartbeats 2000000 in
theorem flatFares_nil (w : World) : Calls Tryd.prog 80 #[.slice none 0 0] w fun e w' => e = .returned (.bool true) ∧ Mod [] w w' := by
  go_enter Tryd.func80, Tryd.ntmps80
  go_wp2_with (first | (with_reducible refine wp_loop_once ?_) | (with_reducible refine st_make ?_))
  refine StopOp.go rfl fun K hK => ?_
  refine wp_make (nl := 0) (nc := 0) stFares (by rfl) (by rfl) rfl rfl (Nat.le_refl _) (by omega) (by omega) ?_
  intro b w1 hb1 hb2 hm1 hB1
  simp only [put_some, List.set_cons_succ, List.set_cons_zero]
  refine hK _ _ ?_
  clear hK K hB1
  go_wp2_with (with_reducible refine wp_loop_once ?_)
  go_ret
  exact ⟨rfl, hm1⟩
theorem stWaits : ST Tryd.prog 99 181 (.slice none 0 0) 1 24 := ⟨Tryd.underlying99, by kernel_rfl, rfl, by decide⟩
set_option maxRecDepth 100000 in
set_option maxHeartbeats 2000000 in
theorem flatWaits_nil (w : World) : Calls Tryd.prog 81 #[.slice none 0 0] w fun e w' => e = .returned (.bool true) ∧ Mod [] w w' := by
  go_enter Tryd.func81, Tryd.ntmps81
  go_wp2_with (first | (with_reducible refine wp_loop_once ?_) | (with_reducible refine st_make ?_))
  refine StopOp.go rfl fun K hK => ?_
  refine wp_make (nl := 0) (nc := 0) stWaits (by rfl) (by rfl) rfl rfl (Nat.le_refl _) (by omega) (by omega) ?_
  intro b w1 hb1 hb2 hm1 hB1
  simp only [put_some, List.set_cons_succ, List.set_cons_zero]
  refine hK _ _ ?_
  clear hK K hB1
  go_wp2_with (with_reducible refine wp_loop_once ?_)
  go_ret
  exact ⟨rfl, hm1⟩
theorem stLines : ST Tryd.prog 100 185 (.slice none 0 0) 1 24 := ⟨Tryd.underlying100, by kernel_rfl, rfl, by decide⟩
set_option maxRecDepth 100000 in
set_option maxHeartbeats 2000000 in
theorem flatLines_nil (w : World) : Calls Tryd.prog 82 #[.slice none 0 0] w fun e w' => e = .returned (.bool true) ∧ Mod [] w w' := by
  go_enter Tryd.func82, Tryd.ntmps82
  go_wp2_with (first | (with_reducible refine wp_loop_once ?_) | (with_reducible refine st_make ?_))
  refine StopOp.go rfl fun K hK => ?_
  refine wp_make (nl := 0) (nc := 0) stLines (by rfl) (by rfl) rfl rfl (Nat.le_refl _) (by omega) (by omega) ?_
  intro b w1 hb1 hb2 hm1 hB1
  simp only [put_some, List.set_cons_succ, List.set_cons_zero]
  refine hK _ _ ?_
  clear hK K hB1
  go_wp2_with (with_reducible refine wp_loop_once ?_)
  go_ret
  exact ⟨rfl, hm1⟩
theorem stTurns : ST Tryd.prog 101 189 (.slice none 0 0) 1 24 := ⟨Tryd.underlying101, by kernel_rfl, rfl, by decide⟩
set_option maxRecDepth 100000 in
set_option maxHeartbeats 2000000 in
theorem flatTurns_nil (w : World) : Calls Tryd.prog 83 #[.slice none 0 0] w fun e w' => e = .returned (.bool true) ∧ Mod [] w w' := by
  go_enter Tryd.func83, Tryd.ntmps83
  go_wp2_with (first | (with_reducible refine wp_loop_once ?_) | (with_reducible refine st_make ?_))
  refine StopOp.go rfl fun K hK => ?_
  refine wp_make (nl := 0) (nc := 0) stTurns (by rfl) (by rfl) rfl rfl (Nat.le_refl _) (by omega) (by omega) ?_
  intro b w1 hb1 hb2 hm1 hB1
  simp only [put_some, List.set_cons_succ, List.set_cons_zero]
  refine hK _ _ ?_
  clear hK K hB1
  go_wp2_with (with_reducible refine wp_loop_once ?_)
  go_ret
  exact ⟨rfl, hm1⟩
theorem stCommands : ST Tryd.prog 102 193 (.slice none 0 0) 1 24 := ⟨Tryd.underlying102, by kernel_rfl, rfl, by decide⟩
set_option maxRecDepth 100000 in
set_option maxHeartbeats 2000000 in
theorem flatCommands_nil (w : World) : Calls Tryd.prog 84 #[.slice none 0 0] w fun e w' => e = .returned (.bool true) ∧ Mod [] w w' := by
  go_enter Tryd.func84, Tryd.ntmps84
  go_wp2_with (first | (with_reducible refine wp_loop_once ?_) | (with_reducible refine st_make ?_))
  refine StopOp.go rfl fun K hK => ?_
  refine wp_make (nl := 0) (nc := 0) stCommands (by rfl) (by rfl) rfl rfl (Nat.le_refl _) (by omega) (by omega) ?_
  intro b w1 hb1 hb2 hm1 hB1
  simp only [put_some, List.set_cons_succ, List.set_cons_zero]
  refine hK _ _ ?_
  clear hK K hB1
  go_wp2_with (with_reducible refine wp_loop_once ?_)
  go_ret
  exact ⟨rfl, hm1⟩
end Go.Proofs.YtboigcnpamldlaaDoor
