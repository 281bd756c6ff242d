import Derived.Test.YtfcoaiggpcjldaaDoorRpL
/-! Replies: awake. -/
set_option linter.unusedVariables false
set_option linter.unusedSimpArgs false
set_option maxRecDepth 100000
namespace Go.Proofs.YtfcoaiggpcjldaaDoor
open Go.RowKit Gw

def awR : Rp := ⟨5, 1, 0, 258, 0, 3, 0⟩
def awRB : List UInt8 := [5, 0, 0, 0, 1, 0, 0, 2, 1, 0, 0, 3, 0, 0, 0, 0, 0, 0, 0]
def awR2 : List UInt8 := [1, 0, 0, 0, 3, 0, 0]
theorem awR_ok : awR.ok := ⟨by decide, by decide, by decide, by decide, by decide, by decide, by decide, by decide, by decide, by decide, by decide, by decide, by decide, by decide⟩
theorem awR_may : mayR awR = true := by decide
theorem awR_bytes : rbytes awR = awRB := by decide
theorem awR2_get : rgetOk awR2 = true := by kernel_rfl
theorem awR2_q : (rgetV awR2).v = .agg #[.int .u32 1, .int .i64 3, .int .i64 0, .int .u32 0, .int .i64 0, .int .i64 0, .int .i64 0] := by kernel_rfl
theorem awR_put (w : World) (hT : Tab w) : Calls Tryd.prog 8 #[.agg #[.int .u32 5, .int .i64 1, .int .i64 0, .int .u32 258, .int .i64 0, .int .i64 3, .int .i64 0]] w fun e w' => ∃ v, e = .returned (.tuple #[v, .int .i64 0]) ∧ Ob w' v awRB ∧ Mod [] w w' :=
  (rput_any awR awR_ok w hT).mono fun e w' ⟨v, h1, h2, _, h4⟩ => by
    rw [awR_may, if_pos rfl, awR_bytes] at h2
    exact ⟨v, by rw [h1]; rfl, h2, h4⟩
theorem awR_get (v : Value) (w : World) (hT : Tab w) (hv : Bs w v awR2) : Calls Tryd.prog 16 #[v] w fun e w' => e = .returned (.tuple #[.agg #[.int .u32 1, .int .i64 3, .int .i64 0, .int .u32 0, .int .i64 0, .int .i64 0, .int .i64 0], .int .i64 0]) ∧ Mod [] w w' :=
  (rget_any awR2 v w hT hv (by decide)).mono fun e w' ⟨h1, h2⟩ => ⟨by rw [h1, awR2_get, awR2_q]; rfl, h2⟩
theorem awR_chk (w : World) (hT : Tab w) : Calls Tryd.prog 10 #[.agg #[.int .u32 0, .int .i64 0, .int .i64 0, .int .u32 0, .int .i64 0, .int .i64 0, .int .i64 0]] w fun e w' => e = .returned (.int .i64 210) ∧ Mod [] w w' :=
  (rcheck_any rz w hT).mono fun e w' ⟨h1, h2⟩ => ⟨by rw [h1]; rfl, h2⟩
theorem rp_eql_same (a b c d e f g : Int) (w : World) : (binOp .eql 26 (.agg #[.int .u32 a, .int .i64 b, .int .i64 c, .int .u32 d, .int .i64 e, .int .i64 f, .int .i64 g]) (.agg #[.int .u32 a, .int .i64 b, .int .i64 c, .int .u32 d, .int .i64 e, .int .i64 f, .int .i64 g])).run Tryd.prog w = .ok (.bool true) w := by
  rw [run_eql_struct, run_equalIn_agg w 9999 _ _ _ (by kernel_rfl) (by kernel_rfl)]
  go_simp
theorem rp_neq_same (a b c d e f g : Int) (w : World) : (binOp .neq 26 (.agg #[.int .u32 a, .int .i64 b, .int .i64 c, .int .u32 d, .int .i64 e, .int .i64 f, .int .i64 g]) (.agg #[.int .u32 a, .int .i64 b, .int .i64 c, .int .u32 d, .int .i64 e, .int .i64 f, .int .i64 g])).run Tryd.prog w = .ok (.bool false) w := by
  rw [run_neq_struct, run_equalIn_agg w 9999 _ _ _ (by kernel_rfl) (by kernel_rfl)]
  go_simp

set_option maxRecDepth 1000000 in
set_option maxHeartbeats 4000000 in
theorem rpawake_any (w : World) (hT : Tab w) : Calls Tryd.prog 14 #[] w fun e w' => e = .returned (.bool true) ∧ Mod [] w w' := by
  have hcmp := fun w => rp_eql_same 1 3 0 0 0 0 0 w
  go_enter Tryd.func14, Tryd.ntmps14
  go_wp2_with (first
                | (with_reducible refine st_bslice ?_)
                | (go_at_call 8; refine (awR_put _ hT).mono ?_; rintro e w1 ⟨v1, rfl, ho1, hm1⟩; obtain ⟨ao1, cap1, rfl, _, _⟩ := ho1.bs.form))
  refine StopOp.go rfl fun K hK => ?_
  refine wp_bslice stB [.int .u8 1, .int .u8 0, .int .u8 0, .int .u8 0, .int .u8 3, .int .u8 0, .int .u8 0] rfl (by decide) (by rfl) (by simp [Value.cells]) ?_
  intro p2 w2 hp1 hp2 hm2 hB2
  simp only [put_some, List.set_cons_succ, List.set_cons_zero]
  refine hK _ _ ?_
  clear hK K
  have hb2 : Bs w2 (.slice (some ⟨p2, 0, none⟩) 7 7) awR2 := Bs.of_blk (l := awR2) (rest := []) hB2 (by decide) (by omega)
  go_wp2_with (first
                | (with_reducible refine st_alloc ?_)
                | (go_at_call 16; refine (awR_get _ _ ((hT.ext hm1).ext hm2) hb2).mono ?_; rintro e w3 ⟨rfl, hm3⟩))
  refine StopOp.go rfl fun K hK => ?_
  refine wp_alloc zero_rep ?_
  intro g4 w4 h41 h42 hm4 hB4
  simp only [put_some, List.set_cons_succ, List.set_cons_zero]
  refine hK _ _ ?_
  clear hK K
  go_wp2_with (with_reducible refine st_store ?_)
  refine StopOp.go rfl fun K hK => ?_
  refine wp_store (u := .agg #[.int .u32 1, .int .i64 3, .int .i64 0, .int .u32 0, .int .i64 0, .int .i64 0, .int .i64 0]) (by rfl) (by rfl) (by kernel_rfl) hB4 (by simp [Value.cells]) (by simp [Value.cells, Value.oneCell']) ?_
  intro w5 hm5 hB5
  refine hK _ _ ?_
  clear hK K
  have hX : Blk w5 g4 26 [.int .u32 1, .int .i64 3, .int .i64 0, .int .u32 0, .int .i64 0, .int .i64 0, .int .i64 0] := hB5
  have hm35 : Mod [] w3 w5 := hm4.fresh hm5 (by simpa using h41)
  have hM5 := ((hm1.ext hm2).ext hm3).ext hm35
  have ho5 := ((ho1.ext hm2).ext hm3).ext hm35
  have s5 : (convert 27 9 (.slice ao1 awRB.length cap1)).run Tryd.prog w5 = .ok (.string ⟨awRB.toArray⟩) w5 := ho5.bs.str
  have e5 : (binOp .eql 9 (.string ⟨awRB.toArray⟩) (.string ⟨#[5, 0, 0, 0, 1, 0, 0, 2, 1, 0, 0, 3, 0, 0, 0, 0, 0, 0, 0]⟩)).run Tryd.prog w5 = .ok (.bool true) w5 := by kernel_rfl
  have a0 := hX.cell' (i := 0) rfl
  have a1 := hX.cell' (i := 1) rfl
  have a2 := hX.cell' (i := 2) rfl
  have a3 := hX.cell' (i := 3) rfl
  have a4 := hX.cell' (i := 4) rfl
  have a5 := hX.cell' (i := 5) rfl
  have a6 := hX.cell' (i := 6) rfl
  clear hB4 hB5 hm4 hm5 hX ho1 ho5
  go_wp2_with (go_at_call 10; refine (awR_chk _ (hT.ext hM5)).mono ?_; rintro e w6 ⟨rfl, hm6⟩)
  go_ret
  exact ⟨rfl, hM5.ext hm6⟩
end Go.Proofs.YtfcoaiggpcjldaaDoor
