import Derived.Test.YtdmnogmhnhjdgaaGreatGOct
import Derived.Test.YtdmnogmhnhjdgaaGreatGMem
set_option linter.unusedVariables false
set_option linter.unusedSimpArgs false
set_option maxRecDepth 100000
namespace Go.Proofs.YtdmnogmhnhjdgaaGreat
open Go.RowKit Gw

theorem Lt.cell {w : World} {g cap : Nat} {l : List UInt8} (h : Lt w g cap l) {i : Nat} (hi : i < l.length + 12) : w.cell? ⟨g, i, none⟩ = some (.int .u8 (((l ++ marks 1 12)[i]'(by rw [List.length_append, marks_length]; exact hi)).toNat : Nat)) := by
  obtain ⟨r, h1, h2, h3⟩ := h
  refine h1.cell' ?_
  rw [List.getElem?_append_left (by rw [bv_length, List.length_append, marks_length]; exact hi)]
  unfold bv
  rw [List.getElem?_map, List.getElem?_eq_getElem (show i < (l ++ marks 1 12).length by rw [List.length_append, marks_length]; exact hi)]
  rfl

set_option maxHeartbeats 2000000 in
theorem kept_any (g cap : Nat) (l : List UInt8) (v : Value) (w : World) (h : Lt w g cap l) (hv : Bs w v l) :
    Calls Tryz.prog 32 #[.slice (some ⟨g, 0, none⟩) l.length cap, v] w fun e w' => e = .returned (.bool true) ∧ Mod [] w w' := by
  obtain ⟨ao, cap2, rfl, hn0, hc0⟩ := hv.form
  have hcap := h.cap
  have q1 : (l.length : Int) + 12 ≤ cap := by omega
  have q2 : (cap : Int) ≤ 9223372036854775807 := by omega
  go_enter Tryz.func32, Tryz.ntmps32
  go_wp2_with fail
  go_loopw [6] (fun i wr => ∃ j : Nat, j ≤ l.length + 12 ∧ i = .int .i64 j ∧ Mod [] w wr) (fun i _ => l.length + 12 - (intOf i).toNat)
  case atStart => exact ⟨0, by omega, rfl, Mod.refl _ _⟩
  case round =>
    obtain ⟨j, hj, rfl, hmr⟩ := hrel
    have hr := h.ext hmr
    have hvr := hv.ext hmr
    by_cases hlt : j < l.length + 12
    · have y0 : (j : Int) < l.length + 12 := by omega
      have hc := hr.cell hlt
      by_cases hl2 : j < l.length
      · have y1 : (j : Int) < l.length := by omega
        obtain ⟨b, o, rfl, hc2⟩ := hvr.byte hl2
        rw [List.getElem_append_left hl2] at hc
        go_wp2_with fail
        refine wp_region_T [⟨0, true, []⟩, ⟨1, true, []⟩, ⟨2, true, []⟩, ⟨3, true, []⟩, ⟨4, true, []⟩, ⟨5, true, []⟩, ⟨6, true, []⟩, ⟨7, true, []⟩, ⟨8, true, []⟩, ⟨9, true, []⟩, ⟨10, true, []⟩, ⟨11, true, []⟩, ⟨12, true, []⟩, ⟨13, true, []⟩, ⟨14, true, []⟩, ⟨15, true, []⟩, ⟨16, true, []⟩, ⟨17, true, []⟩, ⟨18, true, []⟩, ⟨19, true, []⟩, ⟨20, true, []⟩, ⟨21, true, []⟩, ⟨22, true, []⟩, ⟨23, true, []⟩, ⟨24, true, []⟩, ⟨25, true, []⟩, ⟨26, true, []⟩, ⟨27, true, []⟩, ⟨28, true, []⟩, ⟨29, true, []⟩, ⟨30, false, [25]⟩, ⟨31, true, []⟩, ⟨32, true, []⟩, ⟨33, true, []⟩, ⟨34, true, []⟩] (by kernel_rfl) (by kernel_rfl) ?_
        have hdd : decide (l.length ≤ j) = false := decide_eq_false (Nat.not_le.2 hl2)
        iterate 5 (refine wpT_n rfl rfl (fun K hK => ?_); go_wp2_with fail)
        iterate 10 (refine wpT_gq (gi := 4) rfl rfl rfl rfl rfl (fun K hK => ?_); go_wp2_with fail)
        iterate 2 (refine wpT_n rfl rfl (fun K hK => ?_); go_wp2_with fail)
        iterate 5 (refine wpT_gq (gi := 16) rfl rfl rfl rfl rfl (fun K hK => ?_); go_wp2_with fail)
        iterate 11 (refine wpT_gk (gi := 21) rfl rfl rfl rfl rfl rfl (fun K hK => ?_); go_wp2_with fail)
        refine wpT_gq (gi := 16) rfl rfl rfl rfl rfl (fun K hK => ?_)
        go_wp2_with fail
        refine wpT_n rfl rfl (fun K hK => ?_)
        go_wp2_with fail
        refine wpT_nil ?_
        go_wp2_with fail
        go_roundw
        case rel => exact ⟨j + 1, by omega, by go_num, hmr.ext (Mod.drew [] _)⟩
        case measure => simp [intOf]; omega
      · rw [List.getElem_append_right (by omega), marks_at, show ((j - l.length : Nat) : Int) = (j : Int) - (l.length : Int) by omega] at hc
        have hdd : decide (l.length ≤ j) = true := decide_eq_true (by omega)
        have hde : decide (j < l.length) = false := decide_eq_false (by omega)
        have y2 : (0 : Int) ≤ (j : Int) - l.length := by omega
        have y1 : (j : Int) - l.length ≤ 11 := by omega
        go_wp2_with fail
        refine wp_region_T [⟨0, true, []⟩, ⟨1, true, []⟩, ⟨2, true, []⟩, ⟨3, true, []⟩, ⟨4, true, []⟩, ⟨5, true, []⟩, ⟨6, true, []⟩, ⟨7, true, []⟩, ⟨8, true, []⟩, ⟨9, true, []⟩, ⟨10, true, []⟩, ⟨11, true, []⟩, ⟨12, true, []⟩, ⟨13, true, []⟩, ⟨14, true, []⟩, ⟨15, true, []⟩, ⟨16, true, []⟩, ⟨17, true, []⟩, ⟨18, true, []⟩, ⟨19, true, []⟩, ⟨20, true, []⟩, ⟨21, true, []⟩, ⟨22, true, []⟩, ⟨23, true, []⟩, ⟨24, true, []⟩, ⟨25, true, []⟩, ⟨26, true, []⟩, ⟨27, true, []⟩, ⟨28, true, []⟩, ⟨29, true, []⟩, ⟨30, false, [25]⟩, ⟨31, true, []⟩, ⟨32, true, []⟩, ⟨33, true, []⟩, ⟨34, true, []⟩] (by kernel_rfl) (by kernel_rfl) ?_
        iterate 5 (refine wpT_n rfl rfl (fun K hK => ?_); go_wp2_with fail)
        iterate 10 (refine wpT_gk (gi := 4) rfl rfl rfl rfl rfl rfl (fun K hK => ?_); go_wp2_with fail)
        iterate 2 (refine wpT_n rfl rfl (fun K hK => ?_); go_wp2_with fail)
        iterate 5 (refine wpT_gq (gi := 16) rfl rfl rfl rfl rfl (fun K hK => ?_); go_wp2_with fail)
        iterate 8 (refine wpT_gq (gi := 21) rfl rfl rfl rfl rfl (fun K hK => ?_); go_wp2_with fail)
        refine wpT_gcallh (gi := 21) rfl rfl rfl rfl (fun K hK => ?_)
        go_wp2_with (go_at_call 67; refine (markByte_any 1 ((j : Int) - l.length) _ (by omega) (by omega) (by omega) (by omega)).mono ?_; rintro e w3 ⟨rfl, rfl⟩)
        refine ⟨agains_same, ?_⟩
        iterate 2 (refine wpT_gq (gi := 21) rfl rfl rfl rfl rfl (fun K hK => ?_); go_wp2_with fail)
        refine wpT_gq (gi := 16) rfl rfl rfl rfl rfl (fun K hK => ?_)
        go_wp2_with fail
        refine wpT_n rfl rfl (fun K hK => ?_)
        go_wp2_with fail
        refine wpT_nil ?_
        go_wp2_with fail
        go_roundw
        case rel => exact ⟨j + 1, by omega, by go_num, hmr.ext (Mod.drew [] _)⟩
        case measure => simp [intOf]; omega
    · obtain rfl : j = l.length + 12 := by omega
      go_wp2_with fail
      go_ret
      exact ⟨rfl, hmr⟩

set_option maxHeartbeats 1000000 in
theorem over_any (g cap : Nat) (l : List UInt8) (w : World) (h : Lt w g cap l) (hl : l.length ≤ 140737488355300) :
    Calls Tryz.prog 33 #[.slice (some ⟨g, 0, none⟩) l.length cap] w fun e w' => e = .returned (.tuple #[]) ∧ Mod [g] w w' := by
  have hcap := h.cap
  have q1 : (l.length : Int) + 12 ≤ cap := by omega
  have q2 : (cap : Int) ≤ 9223372036854775807 := by omega
  obtain ⟨r, hB, hcl, _⟩ := h
  go_enter Tryz.func33, Tryz.ntmps33
  go_wp2_with fail
  go_loopw [3] (fun i wr => ∃ (j : Nat) (cs : List Value), j ≤ l.length + 12 ∧ i = .int .i64 j ∧ Mod [g] w wr ∧ Blk wr g 5 cs ∧ cs.length = cap) (fun i _ => l.length + 12 - (intOf i).toNat)
  case atStart => exact ⟨0, _, by omega, rfl, Mod.refl _ _, hB, hcl⟩
  case round =>
    obtain ⟨j, cs, hj, rfl, hmr, hBr, hcs⟩ := hrel
    by_cases hlt : j < l.length + 12
    · have y0 : (j : Int) < l.length + 12 := by omega
      go_wp2_with (first | (with_reducible refine st_store ?_) | (go_at_call 67; refine (markByte_any 2 j _ (by omega) (by omega) (by omega) (by omega)).mono ?_; rintro e w3 ⟨rfl, rfl⟩))
      refine StopOp.go rfl fun K hK => ?_
      refine wp_store1 (by kernel_rfl) (by rfl) (u := .int .u8 ((mb 2 j).toNat : Nat)) (by rfl) ⟨rfl, rfl⟩ hBr (by omega) ?_
      intro w4 hm4 hB4
      refine hK _ _ ?_
      clear hK K
      go_wp2_with fail
      go_roundw
      case rel => exact ⟨j + 1, _, by omega, by go_num, hmr.trans hm4, hB4, by rw [List.length_set]; exact hcs⟩
      case measure => simp [intOf]; omega
    · obtain rfl : j = l.length + 12 := by omega
      go_wp2_with fail
      go_end0
      exact ⟨rfl, hmr⟩
end Go.Proofs.YtdmnogmhnhjdgaaGreat
