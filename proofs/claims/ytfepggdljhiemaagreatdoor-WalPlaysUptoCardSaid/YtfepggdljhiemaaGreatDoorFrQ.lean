import Derived.Test.YtfepggdljhiemaaGreatDoorFrP
/-! The marks of frames (for ApartFrames). -/
set_option linter.unusedVariables false
set_option linter.unusedSimpArgs false
set_option maxRecDepth 100000
namespace Go.Proofs.YtfepggdljhiemaaGreatDoor
open Go.RowKit Gw

/-- the mark of a frame -/
def mfr (k i : Nat) : Fv := ⟨0, 1000003 * (k + 7) + i, []⟩
set_option maxHeartbeats 1000000 in
theorem markFrame_any (k i : Nat) (w : World) (h2 : k ≤ 1099511627776) (h4 : i ≤ 281474976710656) :
    Calls Tryz.prog 154 #[.int .i64 (k : Nat), .int .i64 (i : Nat)] w fun e w' => e = .returned ((mfr k i).v (.slice none 0 0)) ∧ Mod [] w w' := by
  unfold Fv.v mfr
  dsimp only
  have MA := fun w => mark_any k i w (by omega) (by omega) (by omega) (by omega)
  obtain ⟨M, hM⟩ : ∃ M : Nat, M = 1000003 * (k + 7) + i := ⟨_, rfl⟩
  have hMI : 1000003 * ((k : Int) + 7) + i = (M : Nat) := by omega
  rw [← hM]
  rw [hMI] at MA
  have hb : (M : Int) ≤ 9223372036854775807 := by omega
  clear hM hMI
  go_enter Tryz.func154, Tryz.ntmps154
  go_wp2_with (with_reducible refine st_alloc ?_)
  refine StopOp.go rfl fun K hK => ?_
  refine wp_alloc zero_frame ?_
  intro g w1 hg1 hg2 hm1 hB1
  simp only [put_some, List.set_cons_succ, List.set_cons_zero]
  refine hK _ _ ?_
  clear hK K
  go_wp2_with (first
                | (with_reducible refine st_store ?_)
                | (go_at_call 85; refine (MA _).mono ?_; rintro e w2 ⟨rfl, rfl⟩))
  refine StopOp.go rfl fun K hK => ?_
  refine wp_store (u := .agg #[.int .u64 0, .int .u64 (M : Nat), .slice none 0 0]) (by rfl) (by rfl) (by kernel_rfl) hB1 (by simp [Value.cells]) (by simp [Value.cells, Value.oneCell']) ?_
  intro w2 hm2 hB2
  refine hK _ _ ?_
  clear hK K
  have hX : Blk w2 g 97 [.int .u64 0, .int .u64 (M : Nat), .slice none 0 0] := hB2
  have x0 := hX.cell' (i := 0) rfl
  have x1 := hX.cell' (i := 1) rfl
  have x2 := hX.cell' (i := 2) rfl
  clear hB1 hB2
  go_wp2_with fail
  exact bodyPost_ret (v := .agg #[.int .u64 0, .int .u64 (M : Nat), .slice none 0 0]) (by simp [results, Tryz.results154, go_sem, x0, x1, x2]) rfl ⟨rfl, hm1.fresh hm2 (by simpa using hg1)⟩
end Go.Proofs.YtfepggdljhiemaaGreatDoor
