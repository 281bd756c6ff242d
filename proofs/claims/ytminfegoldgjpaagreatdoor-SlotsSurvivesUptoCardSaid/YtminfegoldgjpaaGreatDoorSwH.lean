import Derived.Test.YtminfegoldgjpaaGreatDoorSwG
import Derived.Test.YtminfegoldgjpaaGreatDoorGRi
set_option linter.unusedVariables false
set_option linter.unusedSimpArgs false
set_option maxRecDepth 100000
namespace Go.Proofs.YtminfegoldgjpaaGreatDoor
open Go.RowKit Gw
def spN : Nat → (Nat × Nat) × (Nat × Nat)
 | 1 => ((5, 4), (0, 4))
 | 2 => ((2, 2), (4, 2))
 | 3 => ((0, 4), (2, 4))
 | 4 => ((0, 4), (0, 4))
 | 5 => ((0, 4), (5, 3))
 | 6 => ((0, 1), (5, 1))
 | _ => ((0, 4), (5, 4))
theorem zero_span : (Tryz.prog.info? 64).map (·.zero) = some (some (.agg #[.int .i64 0, .int .i64 0])) := by kernel_rfl
set_option maxHeartbeats 8000000 in
theorem spans_any (k : Int) (i : Nat) (w : World) (hk : i64 k) (hi : pick k 8 = i) : Calls Tryz.prog 27 #[.int .i64 k] w fun e w' => e = .returned (.tuple #[.agg #[.int .i64 ((spN i).1.1 : Nat), .int .i64 ((spN i).1.2 : Nat)], .agg #[.int .i64 ((spN i).2.1 : Nat), .int .i64 ((spN i).2.2 : Nat)]]) ∧ Mod [] w w' := by
 have P8 := fun w => pick_any k 8 w hk.1 hk.2 (by omega) (by omega)
 have h0 := pick_ge k 8
 have h1 := pick_lt k 8 (by omega)
 rw [hi] at P8 h0 h1
 obtain h | h | h | h | h | h | h | h : i = 0 ∨ i = 1 ∨ i = 2 ∨ i = 3 ∨ i = 4 ∨ i = 5 ∨ i = 6 ∨ i = 7 := by omega
 · subst h
   clear h0 h1 hi
   go_enter Tryz.func27, Tryz.ntmps27
   go_wp2_with (with_reducible refine st_alloc ?_)
   refine StopOp.go rfl fun K hK => ?_
   refine wp_alloc zero_span ?_
   intro c0 w1 hc0 hc0' hm1 hC0
   simp only [put_some, List.set_cons_succ, List.set_cons_zero]
   refine hK _ _ ?_
   clear hK K
   go_wp2_with (with_reducible refine st_alloc ?_)
   refine StopOp.go rfl fun K hK => ?_
   refine wp_alloc zero_span ?_
   intro c1 w2 hc1 hc1' hm2 hC1
   simp only [put_some, List.set_cons_succ, List.set_cons_zero]
   refine hK _ _ ?_
   clear hK K
   go_wp2_with (with_reducible refine st_alloc ?_)
   refine StopOp.go rfl fun K hK => ?_
   refine wp_alloc zero_span ?_
   intro t4 w3 ht4 ht4' hm3 hT4
   simp only [put_some, List.set_cons_succ, List.set_cons_zero]
   refine hK _ _ ?_
   clear hK K
   go_wp2_with (with_reducible refine st_alloc ?_)
   refine StopOp.go rfl fun K hK => ?_
   refine wp_alloc zero_span ?_
   intro t5 w4 ht5 ht5' hm4 hT5
   simp only [put_some, List.set_cons_succ, List.set_cons_zero]
   refine hK _ _ ?_
   clear hK K
   have hC0' : Blk w4 c0 64 [.int .i64 0, .int .i64 0] := ((Blk.ext (show Blk w1 c0 64 [.int .i64 0, .int .i64 0] from hC0) hm2).ext hm3).ext hm4
   have hC1' : Blk w4 c1 64 [.int .i64 0, .int .i64 0] := (Blk.ext (show Blk w2 c1 64 [.int .i64 0, .int .i64 0] from hC1) hm3).ext hm4
   have hT4' : Blk w4 t4 64 [.int .i64 0, .int .i64 0] := Blk.ext (show Blk w3 t4 64 [.int .i64 0, .int .i64 0] from hT4) hm4
   have hT5' : Blk w4 t5 64 [.int .i64 0, .int .i64 0] := hT5
   have hM0 : Mod [] w w4 := ((hm1.ext hm2).ext hm3).ext hm4
   have n1 : c0 ≠ c1 := by omega
   have n2 : c0 ≠ t4 := by omega
   have n3 : c0 ≠ t5 := by omega
   have n4 : c1 ≠ t4 := by omega
   have n5 : c1 ≠ t5 := by omega
   have n6 : t4 ≠ t5 := by omega
   have hsz := hm1.size
   have hsz2 := hm2.size
   have hsz3 := hm3.size
   have hM : Mod [c0, c1, t4, t5] w4 w4 := Mod.refl _ _
   clear hC0 hC1 hT4 hT5 hm1 hm2 hm3 hm4
   go_wp2_with (first
                 | (with_reducible refine st_store ?_)
                 | (go_at_call 10; (with_reducible refine (P8 _).mono ?_); rintro e z1 ⟨rfl, rfl⟩))
   refine StopOp.go rfl fun K hK => ?_
   refine wp_store (u := .agg #[.int .i64 0, .int .i64 4]) (by rfl) (by rfl) (by kernel_rfl) hT4' (by simp [Value.cells]) (by simp [Value.cells, Value.oneCell']) ?_
   intro v1 hmv1 hBv1
   refine hK _ _ ?_
   clear hK K
   have hT4x : Blk v1 t4 64 [.int .i64 0, .int .i64 4] := hBv1
   have hT5x := hT5'.mod hmv1 (by simp; omega)
   have hC0x := hC0'.mod hmv1 (by simp; omega)
   have hC1x := hC1'.mod hmv1 (by simp; omega)
   have hMx : Mod [c0, c1, t4, t5] w4 v1 := hM.trans (hmv1.weak (by simp))
   clear hT4' hT5' hC0' hC1' hM hBv1 hmv1
   have hT4' := hT4x
   have hT5' := hT5x
   have hC0' := hC0x
   have hC1' := hC1x
   have hM := hMx
   clear hT4x hT5x hC0x hC1x hMx
   try have a0 := hT4'.cell' (i := 0) rfl
   try have a1 := hT4'.cell' (i := 1) rfl
   try have b0 := hT5'.cell' (i := 0) rfl
   try have b1 := hT5'.cell' (i := 1) rfl
   go_wp2_with (first
                 | (with_reducible refine st_store ?_)
                 | (go_at_call 10; (with_reducible refine (P8 _).mono ?_); rintro e z1 ⟨rfl, rfl⟩))
   refine StopOp.go rfl fun K hK => ?_
   refine wp_store (u := .agg #[.int .i64 5, .int .i64 4]) (by rfl) (by rfl) (by kernel_rfl) hT5' (by simp [Value.cells]) (by simp [Value.cells, Value.oneCell']) ?_
   intro v2 hmv2 hBv2
   refine hK _ _ ?_
   clear hK K
   have hT5x : Blk v2 t5 64 [.int .i64 5, .int .i64 4] := hBv2
   have hT4x := hT4'.mod hmv2 (by simp; omega)
   have hC0x := hC0'.mod hmv2 (by simp; omega)
   have hC1x := hC1'.mod hmv2 (by simp; omega)
   have hMx : Mod [c0, c1, t4, t5] w4 v2 := hM.trans (hmv2.weak (by simp))
   clear hT4' hT5' hC0' hC1' hM hBv2 hmv2
   have hT4' := hT4x
   have hT5' := hT5x
   have hC0' := hC0x
   have hC1' := hC1x
   have hM := hMx
   clear hT4x hT5x hC0x hC1x hMx
   try have a0 := hT4'.cell' (i := 0) rfl
   try have a1 := hT4'.cell' (i := 1) rfl
   try have b0 := hT5'.cell' (i := 0) rfl
   try have b1 := hT5'.cell' (i := 1) rfl
   go_wp2_with (go_at_call 10; (with_reducible refine (P8 _).mono ?_); rintro e z1 ⟨rfl, rfl⟩; dsimp only)
   refine wp_region_T [⟨0, true, []⟩, ⟨1, true, []⟩, ⟨2, false, [1]⟩, ⟨3, false, []⟩] (by kernel_rfl) (by kernel_rfl) ?_
   have hmD := Mod.drew [] v2
   obtain ⟨x, hx⟩ : ∃ x, x = v2.drew := ⟨_, rfl⟩
   rw [← hx] at hmD ⊢
   clear hx
   clear a0 a1 b0 b1
   have hA := hT4'.ext hmD
   have hB := hT5'.ext hmD
   have hC := hC0'.ext hmD
   have hD := hC1'.ext hmD
   have a0 := hA.cell' (i := 0) rfl
   have a1 := hA.cell' (i := 1) rfl
   have b0 := hB.cell' (i := 0) rfl
   have b1 := hB.cell' (i := 1) rfl
   iterate 2 (refine wpT_n rfl rfl (fun K hK => ?_); go_wp2_with fail)
   refine wpT_e rfl rfl (fun K hK => ?_)
   refine wp_store (u := .agg #[.int .i64 0, .int .i64 4]) (by rfl) (by rfl) (by kernel_rfl) hC (by simp [Value.cells]) (by simp [Value.cells, Value.oneCell']) ?_
   intro x1 hmx1 hBx1
   refine hK _ _ ⟨agains_cons rfl (again_load rfl rfl (hmx1.block t5 hB.lt (by simp; omega)) hB.kinds) agains_nil, ?_⟩
   clear hK K
   refine wpT_e0 rfl rfl (fun K hK => ?_)
   refine wp_store (u := .agg #[.int .i64 5, .int .i64 4]) (by rfl) (by rfl) (by kernel_rfl) (hD.mod hmx1 (by simp; omega)) (by simp [Value.cells]) (by simp [Value.cells, Value.oneCell']) ?_
   intro x2 hmx2 hBx2
   refine hK _ _ ?_
   clear hK K
   have hE1 : Blk x2 c0 64 [.int .i64 0, .int .i64 4] := Blk.mod (show Blk x1 c0 64 [.int .i64 0, .int .i64 4] from hBx1) hmx2 (by simp; omega)
   have hE2 : Blk x2 c1 64 [.int .i64 5, .int .i64 4] := hBx2
   have q0 := hE1.cell' (i := 0) rfl
   have q1 := hE1.cell' (i := 1) rfl
   have q2 := hE2.cell' (i := 0) rfl
   have q3 := hE2.cell' (i := 1) rfl
   refine wpT_nil ?_
   go_wp2_with fail
   have hMM : Mod [c0, c1, t4, t5] w4 x2 := ((hM.ext hmD).trans (hmx1.weak (by simp))).trans (hmx2.weak (by simp))
   refine bodyPost_ret (v := .tuple #[.agg #[.int .i64 0, .int .i64 4], .agg #[.int .i64 5, .int .i64 4]]) (by simp [results, Tryz.results27, go_sem, q0, q1, q2, q3]) rfl ⟨rfl, hM0.fresh hMM (by simp; omega)⟩
 · subst h
   clear h0 h1 hi
   go_enter Tryz.func27, Tryz.ntmps27
   go_wp2_with (with_reducible refine st_alloc ?_)
   refine StopOp.go rfl fun K hK => ?_
   refine wp_alloc zero_span ?_
   intro c0 w1 hc0 hc0' hm1 hC0
   simp only [put_some, List.set_cons_succ, List.set_cons_zero]
   refine hK _ _ ?_
   clear hK K
   go_wp2_with (with_reducible refine st_alloc ?_)
   refine StopOp.go rfl fun K hK => ?_
   refine wp_alloc zero_span ?_
   intro c1 w2 hc1 hc1' hm2 hC1
   simp only [put_some, List.set_cons_succ, List.set_cons_zero]
   refine hK _ _ ?_
   clear hK K
   go_wp2_with (with_reducible refine st_alloc ?_)
   refine StopOp.go rfl fun K hK => ?_
   refine wp_alloc zero_span ?_
   intro t4 w3 ht4 ht4' hm3 hT4
   simp only [put_some, List.set_cons_succ, List.set_cons_zero]
   refine hK _ _ ?_
   clear hK K
   go_wp2_with (with_reducible refine st_alloc ?_)
   refine StopOp.go rfl fun K hK => ?_
   refine wp_alloc zero_span ?_
   intro t5 w4 ht5 ht5' hm4 hT5
   simp only [put_some, List.set_cons_succ, List.set_cons_zero]
   refine hK _ _ ?_
   clear hK K
   have hC0' : Blk w4 c0 64 [.int .i64 0, .int .i64 0] := ((Blk.ext (show Blk w1 c0 64 [.int .i64 0, .int .i64 0] from hC0) hm2).ext hm3).ext hm4
   have hC1' : Blk w4 c1 64 [.int .i64 0, .int .i64 0] := (Blk.ext (show Blk w2 c1 64 [.int .i64 0, .int .i64 0] from hC1) hm3).ext hm4
   have hT4' : Blk w4 t4 64 [.int .i64 0, .int .i64 0] := Blk.ext (show Blk w3 t4 64 [.int .i64 0, .int .i64 0] from hT4) hm4
   have hT5' : Blk w4 t5 64 [.int .i64 0, .int .i64 0] := hT5
   have hM0 : Mod [] w w4 := ((hm1.ext hm2).ext hm3).ext hm4
   have n1 : c0 ≠ c1 := by omega
   have n2 : c0 ≠ t4 := by omega
   have n3 : c0 ≠ t5 := by omega
   have n4 : c1 ≠ t4 := by omega
   have n5 : c1 ≠ t5 := by omega
   have n6 : t4 ≠ t5 := by omega
   have hsz := hm1.size
   have hsz2 := hm2.size
   have hsz3 := hm3.size
   have hM : Mod [c0, c1, t4, t5] w4 w4 := Mod.refl _ _
   clear hC0 hC1 hT4 hT5 hm1 hm2 hm3 hm4
   go_wp2_with (first
                 | (with_reducible refine st_store ?_)
                 | (go_at_call 10; (with_reducible refine (P8 _).mono ?_); rintro e z1 ⟨rfl, rfl⟩))
   refine StopOp.go rfl fun K hK => ?_
   refine wp_store (u := .agg #[.int .i64 0, .int .i64 4]) (by rfl) (by rfl) (by kernel_rfl) hT4' (by simp [Value.cells]) (by simp [Value.cells, Value.oneCell']) ?_
   intro v1 hmv1 hBv1
   refine hK _ _ ?_
   clear hK K
   have hT4x : Blk v1 t4 64 [.int .i64 0, .int .i64 4] := hBv1
   have hT5x := hT5'.mod hmv1 (by simp; omega)
   have hC0x := hC0'.mod hmv1 (by simp; omega)
   have hC1x := hC1'.mod hmv1 (by simp; omega)
   have hMx : Mod [c0, c1, t4, t5] w4 v1 := hM.trans (hmv1.weak (by simp))
   clear hT4' hT5' hC0' hC1' hM hBv1 hmv1
   have hT4' := hT4x
   have hT5' := hT5x
   have hC0' := hC0x
   have hC1' := hC1x
   have hM := hMx
   clear hT4x hT5x hC0x hC1x hMx
   try have a0 := hT4'.cell' (i := 0) rfl
   try have a1 := hT4'.cell' (i := 1) rfl
   try have b0 := hT5'.cell' (i := 0) rfl
   try have b1 := hT5'.cell' (i := 1) rfl
   go_wp2_with (first
                 | (with_reducible refine st_store ?_)
                 | (go_at_call 10; (with_reducible refine (P8 _).mono ?_); rintro e z1 ⟨rfl, rfl⟩))
   refine StopOp.go rfl fun K hK => ?_
   refine wp_store (u := .agg #[.int .i64 5, .int .i64 4]) (by rfl) (by rfl) (by kernel_rfl) hT5' (by simp [Value.cells]) (by simp [Value.cells, Value.oneCell']) ?_
   intro v2 hmv2 hBv2
   refine hK _ _ ?_
   clear hK K
   have hT5x : Blk v2 t5 64 [.int .i64 5, .int .i64 4] := hBv2
   have hT4x := hT4'.mod hmv2 (by simp; omega)
   have hC0x := hC0'.mod hmv2 (by simp; omega)
   have hC1x := hC1'.mod hmv2 (by simp; omega)
   have hMx : Mod [c0, c1, t4, t5] w4 v2 := hM.trans (hmv2.weak (by simp))
   clear hT4' hT5' hC0' hC1' hM hBv2 hmv2
   have hT4' := hT4x
   have hT5' := hT5x
   have hC0' := hC0x
   have hC1' := hC1x
   have hM := hMx
   clear hT4x hT5x hC0x hC1x hMx
   try have a0 := hT4'.cell' (i := 0) rfl
   try have a1 := hT4'.cell' (i := 1) rfl
   try have b0 := hT5'.cell' (i := 0) rfl
   try have b1 := hT5'.cell' (i := 1) rfl
   go_wp2_with (first
                 | (with_reducible refine st_store ?_)
                 | (go_at_call 10; (with_reducible refine (P8 _).mono ?_); rintro e z1 ⟨rfl, rfl⟩))
   refine StopOp.go rfl fun K hK => ?_
   refine wp_store (u := .agg #[.int .i64 5, .int .i64 4]) (by rfl) (by rfl) (by kernel_rfl) hT4' (by simp [Value.cells]) (by simp [Value.cells, Value.oneCell']) ?_
   intro v3 hmv3 hBv3
   refine hK _ _ ?_
   clear hK K
   have hT4x : Blk v3 t4 64 [.int .i64 5, .int .i64 4] := hBv3
   have hT5x := hT5'.mod hmv3 (by simp; omega)
   have hC0x := hC0'.mod hmv3 (by simp; omega)
   have hC1x := hC1'.mod hmv3 (by simp; omega)
   have hMx : Mod [c0, c1, t4, t5] w4 v3 := hM.trans (hmv3.weak (by simp))
   clear hT4' hT5' hC0' hC1' hM hBv3 hmv3
   have hT4' := hT4x
   have hT5' := hT5x
   have hC0' := hC0x
   have hC1' := hC1x
   have hM := hMx
   clear hT4x hT5x hC0x hC1x hMx
   try have a0 := hT4'.cell' (i := 0) rfl
   try have a1 := hT4'.cell' (i := 1) rfl
   try have b0 := hT5'.cell' (i := 0) rfl
   try have b1 := hT5'.cell' (i := 1) rfl
   go_wp2_with (first
                 | (with_reducible refine st_store ?_)
                 | (go_at_call 10; (with_reducible refine (P8 _).mono ?_); rintro e z1 ⟨rfl, rfl⟩))
   refine StopOp.go rfl fun K hK => ?_
   refine wp_store (u := .agg #[.int .i64 0, .int .i64 4]) (by rfl) (by rfl) (by kernel_rfl) hT5' (by simp [Value.cells]) (by simp [Value.cells, Value.oneCell']) ?_
   intro v4 hmv4 hBv4
   refine hK _ _ ?_
   clear hK K
   have hT5x : Blk v4 t5 64 [.int .i64 0, .int .i64 4] := hBv4
   have hT4x := hT4'.mod hmv4 (by simp; omega)
   have hC0x := hC0'.mod hmv4 (by simp; omega)
   have hC1x := hC1'.mod hmv4 (by simp; omega)
   have hMx : Mod [c0, c1, t4, t5] w4 v4 := hM.trans (hmv4.weak (by simp))
   clear hT4' hT5' hC0' hC1' hM hBv4 hmv4
   have hT4' := hT4x
   have hT5' := hT5x
   have hC0' := hC0x
   have hC1' := hC1x
   have hM := hMx
   clear hT4x hT5x hC0x hC1x hMx
   try have a0 := hT4'.cell' (i := 0) rfl
   try have a1 := hT4'.cell' (i := 1) rfl
   try have b0 := hT5'.cell' (i := 0) rfl
   try have b1 := hT5'.cell' (i := 1) rfl
   go_wp2_with (go_at_call 10; (with_reducible refine (P8 _).mono ?_); rintro e z1 ⟨rfl, rfl⟩; dsimp only)
   refine wp_region_T [⟨0, true, []⟩, ⟨1, true, []⟩, ⟨2, false, [1]⟩, ⟨3, false, []⟩] (by kernel_rfl) (by kernel_rfl) ?_
   have hmD := Mod.drew [] v4
   obtain ⟨x, hx⟩ : ∃ x, x = v4.drew := ⟨_, rfl⟩
   rw [← hx] at hmD ⊢
   clear hx
   clear a0 a1 b0 b1
   have hA := hT4'.ext hmD
   have hB := hT5'.ext hmD
   have hC := hC0'.ext hmD
   have hD := hC1'.ext hmD
   have a0 := hA.cell' (i := 0) rfl
   have a1 := hA.cell' (i := 1) rfl
   have b0 := hB.cell' (i := 0) rfl
   have b1 := hB.cell' (i := 1) rfl
   iterate 2 (refine wpT_n rfl rfl (fun K hK => ?_); go_wp2_with fail)
   refine wpT_e rfl rfl (fun K hK => ?_)
   refine wp_store (u := .agg #[.int .i64 5, .int .i64 4]) (by rfl) (by rfl) (by kernel_rfl) hC (by simp [Value.cells]) (by simp [Value.cells, Value.oneCell']) ?_
   intro x1 hmx1 hBx1
   refine hK _ _ ⟨agains_cons rfl (again_load rfl rfl (hmx1.block t5 hB.lt (by simp; omega)) hB.kinds) agains_nil, ?_⟩
   clear hK K
   refine wpT_e0 rfl rfl (fun K hK => ?_)
   refine wp_store (u := .agg #[.int .i64 0, .int .i64 4]) (by rfl) (by rfl) (by kernel_rfl) (hD.mod hmx1 (by simp; omega)) (by simp [Value.cells]) (by simp [Value.cells, Value.oneCell']) ?_
   intro x2 hmx2 hBx2
   refine hK _ _ ?_
   clear hK K
   have hE1 : Blk x2 c0 64 [.int .i64 5, .int .i64 4] := Blk.mod (show Blk x1 c0 64 [.int .i64 5, .int .i64 4] from hBx1) hmx2 (by simp; omega)
   have hE2 : Blk x2 c1 64 [.int .i64 0, .int .i64 4] := hBx2
   have q0 := hE1.cell' (i := 0) rfl
   have q1 := hE1.cell' (i := 1) rfl
   have q2 := hE2.cell' (i := 0) rfl
   have q3 := hE2.cell' (i := 1) rfl
   refine wpT_nil ?_
   go_wp2_with fail
   have hMM : Mod [c0, c1, t4, t5] w4 x2 := ((hM.ext hmD).trans (hmx1.weak (by simp))).trans (hmx2.weak (by simp))
   refine bodyPost_ret (v := .tuple #[.agg #[.int .i64 5, .int .i64 4], .agg #[.int .i64 0, .int .i64 4]]) (by simp [results, Tryz.results27, go_sem, q0, q1, q2, q3]) rfl ⟨rfl, hM0.fresh hMM (by simp; omega)⟩
 · subst h
   clear h0 h1 hi
   go_enter Tryz.func27, Tryz.ntmps27
   go_wp2_with (with_reducible refine st_alloc ?_)
   refine StopOp.go rfl fun K hK => ?_
   refine wp_alloc zero_span ?_
   intro c0 w1 hc0 hc0' hm1 hC0
   simp only [put_some, List.set_cons_succ, List.set_cons_zero]
   refine hK _ _ ?_
   clear hK K
   go_wp2_with (with_reducible refine st_alloc ?_)
   refine StopOp.go rfl fun K hK => ?_
   refine wp_alloc zero_span ?_
   intro c1 w2 hc1 hc1' hm2 hC1
   simp only [put_some, List.set_cons_succ, List.set_cons_zero]
   refine hK _ _ ?_
   clear hK K
   go_wp2_with (with_reducible refine st_alloc ?_)
   refine StopOp.go rfl fun K hK => ?_
   refine wp_alloc zero_span ?_
   intro t4 w3 ht4 ht4' hm3 hT4
   simp only [put_some, List.set_cons_succ, List.set_cons_zero]
   refine hK _ _ ?_
   clear hK K
   go_wp2_with (with_reducible refine st_alloc ?_)
   refine StopOp.go rfl fun K hK => ?_
   refine wp_alloc zero_span ?_
   intro t5 w4 ht5 ht5' hm4 hT5
   simp only [put_some, List.set_cons_succ, List.set_cons_zero]
   refine hK _ _ ?_
   clear hK K
   have hC0' : Blk w4 c0 64 [.int .i64 0, .int .i64 0] := ((Blk.ext (show Blk w1 c0 64 [.int .i64 0, .int .i64 0] from hC0) hm2).ext hm3).ext hm4
   have hC1' : Blk w4 c1 64 [.int .i64 0, .int .i64 0] := (Blk.ext (show Blk w2 c1 64 [.int .i64 0, .int .i64 0] from hC1) hm3).ext hm4
   have hT4' : Blk w4 t4 64 [.int .i64 0, .int .i64 0] := Blk.ext (show Blk w3 t4 64 [.int .i64 0, .int .i64 0] from hT4) hm4
   have hT5' : Blk w4 t5 64 [.int .i64 0, .int .i64 0] := hT5
   have hM0 : Mod [] w w4 := ((hm1.ext hm2).ext hm3).ext hm4
   have n1 : c0 ≠ c1 := by omega
   have n2 : c0 ≠ t4 := by omega
   have n3 : c0 ≠ t5 := by omega
   have n4 : c1 ≠ t4 := by omega
   have n5 : c1 ≠ t5 := by omega
   have n6 : t4 ≠ t5 := by omega
   have hsz := hm1.size
   have hsz2 := hm2.size
   have hsz3 := hm3.size
   have hM : Mod [c0, c1, t4, t5] w4 w4 := Mod.refl _ _
   clear hC0 hC1 hT4 hT5 hm1 hm2 hm3 hm4
   go_wp2_with (first
                 | (with_reducible refine st_store ?_)
                 | (go_at_call 10; (with_reducible refine (P8 _).mono ?_); rintro e z1 ⟨rfl, rfl⟩))
   refine StopOp.go rfl fun K hK => ?_
   refine wp_store (u := .agg #[.int .i64 0, .int .i64 4]) (by rfl) (by rfl) (by kernel_rfl) hT4' (by simp [Value.cells]) (by simp [Value.cells, Value.oneCell']) ?_
   intro v1 hmv1 hBv1
   refine hK _ _ ?_
   clear hK K
   have hT4x : Blk v1 t4 64 [.int .i64 0, .int .i64 4] := hBv1
   have hT5x := hT5'.mod hmv1 (by simp; omega)
   have hC0x := hC0'.mod hmv1 (by simp; omega)
   have hC1x := hC1'.mod hmv1 (by simp; omega)
   have hMx : Mod [c0, c1, t4, t5] w4 v1 := hM.trans (hmv1.weak (by simp))
   clear hT4' hT5' hC0' hC1' hM hBv1 hmv1
   have hT4' := hT4x
   have hT5' := hT5x
   have hC0' := hC0x
   have hC1' := hC1x
   have hM := hMx
   clear hT4x hT5x hC0x hC1x hMx
   try have a0 := hT4'.cell' (i := 0) rfl
   try have a1 := hT4'.cell' (i := 1) rfl
   try have b0 := hT5'.cell' (i := 0) rfl
   try have b1 := hT5'.cell' (i := 1) rfl
   go_wp2_with (first
                 | (with_reducible refine st_store ?_)
                 | (go_at_call 10; (with_reducible refine (P8 _).mono ?_); rintro e z1 ⟨rfl, rfl⟩))
   refine StopOp.go rfl fun K hK => ?_
   refine wp_store (u := .agg #[.int .i64 5, .int .i64 4]) (by rfl) (by rfl) (by kernel_rfl) hT5' (by simp [Value.cells]) (by simp [Value.cells, Value.oneCell']) ?_
   intro v2 hmv2 hBv2
   refine hK _ _ ?_
   clear hK K
   have hT5x : Blk v2 t5 64 [.int .i64 5, .int .i64 4] := hBv2
   have hT4x := hT4'.mod hmv2 (by simp; omega)
   have hC0x := hC0'.mod hmv2 (by simp; omega)
   have hC1x := hC1'.mod hmv2 (by simp; omega)
   have hMx : Mod [c0, c1, t4, t5] w4 v2 := hM.trans (hmv2.weak (by simp))
   clear hT4' hT5' hC0' hC1' hM hBv2 hmv2
   have hT4' := hT4x
   have hT5' := hT5x
   have hC0' := hC0x
   have hC1' := hC1x
   have hM := hMx
   clear hT4x hT5x hC0x hC1x hMx
   try have a0 := hT4'.cell' (i := 0) rfl
   try have a1 := hT4'.cell' (i := 1) rfl
   try have b0 := hT5'.cell' (i := 0) rfl
   try have b1 := hT5'.cell' (i := 1) rfl
   go_wp2_with (first
                 | (with_reducible refine st_store ?_)
                 | (go_at_call 10; (with_reducible refine (P8 _).mono ?_); rintro e z1 ⟨rfl, rfl⟩))
   refine StopOp.go rfl fun K hK => ?_
   refine wp_store (u := .agg #[.int .i64 2, .int .i64 2]) (by rfl) (by rfl) (by kernel_rfl) hT4' (by simp [Value.cells]) (by simp [Value.cells, Value.oneCell']) ?_
   intro v3 hmv3 hBv3
   refine hK _ _ ?_
   clear hK K
   have hT4x : Blk v3 t4 64 [.int .i64 2, .int .i64 2] := hBv3
   have hT5x := hT5'.mod hmv3 (by simp; omega)
   have hC0x := hC0'.mod hmv3 (by simp; omega)
   have hC1x := hC1'.mod hmv3 (by simp; omega)
   have hMx : Mod [c0, c1, t4, t5] w4 v3 := hM.trans (hmv3.weak (by simp))
   clear hT4' hT5' hC0' hC1' hM hBv3 hmv3
   have hT4' := hT4x
   have hT5' := hT5x
   have hC0' := hC0x
   have hC1' := hC1x
   have hM := hMx
   clear hT4x hT5x hC0x hC1x hMx
   try have a0 := hT4'.cell' (i := 0) rfl
   try have a1 := hT4'.cell' (i := 1) rfl
   try have b0 := hT5'.cell' (i := 0) rfl
   try have b1 := hT5'.cell' (i := 1) rfl
   go_wp2_with (first
                 | (with_reducible refine st_store ?_)
                 | (go_at_call 10; (with_reducible refine (P8 _).mono ?_); rintro e z1 ⟨rfl, rfl⟩))
   refine StopOp.go rfl fun K hK => ?_
   refine wp_store (u := .agg #[.int .i64 4, .int .i64 2]) (by rfl) (by rfl) (by kernel_rfl) hT5' (by simp [Value.cells]) (by simp [Value.cells, Value.oneCell']) ?_
   intro v4 hmv4 hBv4
   refine hK _ _ ?_
   clear hK K
   have hT5x : Blk v4 t5 64 [.int .i64 4, .int .i64 2] := hBv4
   have hT4x := hT4'.mod hmv4 (by simp; omega)
   have hC0x := hC0'.mod hmv4 (by simp; omega)
   have hC1x := hC1'.mod hmv4 (by simp; omega)
   have hMx : Mod [c0, c1, t4, t5] w4 v4 := hM.trans (hmv4.weak (by simp))
   clear hT4' hT5' hC0' hC1' hM hBv4 hmv4
   have hT4' := hT4x
   have hT5' := hT5x
   have hC0' := hC0x
   have hC1' := hC1x
   have hM := hMx
   clear hT4x hT5x hC0x hC1x hMx
   try have a0 := hT4'.cell' (i := 0) rfl
   try have a1 := hT4'.cell' (i := 1) rfl
   try have b0 := hT5'.cell' (i := 0) rfl
   try have b1 := hT5'.cell' (i := 1) rfl
   go_wp2_with (go_at_call 10; (with_reducible refine (P8 _).mono ?_); rintro e z1 ⟨rfl, rfl⟩; dsimp only)
   refine wp_region_T [⟨0, true, []⟩, ⟨1, true, []⟩, ⟨2, false, [1]⟩, ⟨3, false, []⟩] (by kernel_rfl) (by kernel_rfl) ?_
   have hmD := Mod.drew [] v4
   obtain ⟨x, hx⟩ : ∃ x, x = v4.drew := ⟨_, rfl⟩
   rw [← hx] at hmD ⊢
   clear hx
   clear a0 a1 b0 b1
   have hA := hT4'.ext hmD
   have hB := hT5'.ext hmD
   have hC := hC0'.ext hmD
   have hD := hC1'.ext hmD
   have a0 := hA.cell' (i := 0) rfl
   have a1 := hA.cell' (i := 1) rfl
   have b0 := hB.cell' (i := 0) rfl
   have b1 := hB.cell' (i := 1) rfl
   iterate 2 (refine wpT_n rfl rfl (fun K hK => ?_); go_wp2_with fail)
   refine wpT_e rfl rfl (fun K hK => ?_)
   refine wp_store (u := .agg #[.int .i64 2, .int .i64 2]) (by rfl) (by rfl) (by kernel_rfl) hC (by simp [Value.cells]) (by simp [Value.cells, Value.oneCell']) ?_
   intro x1 hmx1 hBx1
   refine hK _ _ ⟨agains_cons rfl (again_load rfl rfl (hmx1.block t5 hB.lt (by simp; omega)) hB.kinds) agains_nil, ?_⟩
   clear hK K
   refine wpT_e0 rfl rfl (fun K hK => ?_)
   refine wp_store (u := .agg #[.int .i64 4, .int .i64 2]) (by rfl) (by rfl) (by kernel_rfl) (hD.mod hmx1 (by simp; omega)) (by simp [Value.cells]) (by simp [Value.cells, Value.oneCell']) ?_
   intro x2 hmx2 hBx2
   refine hK _ _ ?_
   clear hK K
   have hE1 : Blk x2 c0 64 [.int .i64 2, .int .i64 2] := Blk.mod (show Blk x1 c0 64 [.int .i64 2, .int .i64 2] from hBx1) hmx2 (by simp; omega)
   have hE2 : Blk x2 c1 64 [.int .i64 4, .int .i64 2] := hBx2
   have q0 := hE1.cell' (i := 0) rfl
   have q1 := hE1.cell' (i := 1) rfl
   have q2 := hE2.cell' (i := 0) rfl
   have q3 := hE2.cell' (i := 1) rfl
   refine wpT_nil ?_
   go_wp2_with fail
   have hMM : Mod [c0, c1, t4, t5] w4 x2 := ((hM.ext hmD).trans (hmx1.weak (by simp))).trans (hmx2.weak (by simp))
   refine bodyPost_ret (v := .tuple #[.agg #[.int .i64 2, .int .i64 2], .agg #[.int .i64 4, .int .i64 2]]) (by simp [results, Tryz.results27, go_sem, q0, q1, q2, q3]) rfl ⟨rfl, hM0.fresh hMM (by simp; omega)⟩
 · subst h
   clear h0 h1 hi
   go_enter Tryz.func27, Tryz.ntmps27
   go_wp2_with (with_reducible refine st_alloc ?_)
   refine StopOp.go rfl fun K hK => ?_
   refine wp_alloc zero_span ?_
   intro c0 w1 hc0 hc0' hm1 hC0
   simp only [put_some, List.set_cons_succ, List.set_cons_zero]
   refine hK _ _ ?_
   clear hK K
   go_wp2_with (with_reducible refine st_alloc ?_)
   refine StopOp.go rfl fun K hK => ?_
   refine wp_alloc zero_span ?_
   intro c1 w2 hc1 hc1' hm2 hC1
   simp only [put_some, List.set_cons_succ, List.set_cons_zero]
   refine hK _ _ ?_
   clear hK K
   go_wp2_with (with_reducible refine st_alloc ?_)
   refine StopOp.go rfl fun K hK => ?_
   refine wp_alloc zero_span ?_
   intro t4 w3 ht4 ht4' hm3 hT4
   simp only [put_some, List.set_cons_succ, List.set_cons_zero]
   refine hK _ _ ?_
   clear hK K
   go_wp2_with (with_reducible refine st_alloc ?_)
   refine StopOp.go rfl fun K hK => ?_
   refine wp_alloc zero_span ?_
   intro t5 w4 ht5 ht5' hm4 hT5
   simp only [put_some, List.set_cons_succ, List.set_cons_zero]
   refine hK _ _ ?_
   clear hK K
   have hC0' : Blk w4 c0 64 [.int .i64 0, .int .i64 0] := ((Blk.ext (show Blk w1 c0 64 [.int .i64 0, .int .i64 0] from hC0) hm2).ext hm3).ext hm4
   have hC1' : Blk w4 c1 64 [.int .i64 0, .int .i64 0] := (Blk.ext (show Blk w2 c1 64 [.int .i64 0, .int .i64 0] from hC1) hm3).ext hm4
   have hT4' : Blk w4 t4 64 [.int .i64 0, .int .i64 0] := Blk.ext (show Blk w3 t4 64 [.int .i64 0, .int .i64 0] from hT4) hm4
   have hT5' : Blk w4 t5 64 [.int .i64 0, .int .i64 0] := hT5
   have hM0 : Mod [] w w4 := ((hm1.ext hm2).ext hm3).ext hm4
   have n1 : c0 ≠ c1 := by omega
   have n2 : c0 ≠ t4 := by omega
   have n3 : c0 ≠ t5 := by omega
   have n4 : c1 ≠ t4 := by omega
   have n5 : c1 ≠ t5 := by omega
   have n6 : t4 ≠ t5 := by omega
   have hsz := hm1.size
   have hsz2 := hm2.size
   have hsz3 := hm3.size
   have hM : Mod [c0, c1, t4, t5] w4 w4 := Mod.refl _ _
   clear hC0 hC1 hT4 hT5 hm1 hm2 hm3 hm4
   go_wp2_with (first
                 | (with_reducible refine st_store ?_)
                 | (go_at_call 10; (with_reducible refine (P8 _).mono ?_); rintro e z1 ⟨rfl, rfl⟩))
   refine StopOp.go rfl fun K hK => ?_
   refine wp_store (u := .agg #[.int .i64 0, .int .i64 4]) (by rfl) (by rfl) (by kernel_rfl) hT4' (by simp [Value.cells]) (by simp [Value.cells, Value.oneCell']) ?_
   intro v1 hmv1 hBv1
   refine hK _ _ ?_
   clear hK K
   have hT4x : Blk v1 t4 64 [.int .i64 0, .int .i64 4] := hBv1
   have hT5x := hT5'.mod hmv1 (by simp; omega)
   have hC0x := hC0'.mod hmv1 (by simp; omega)
   have hC1x := hC1'.mod hmv1 (by simp; omega)
   have hMx : Mod [c0, c1, t4, t5] w4 v1 := hM.trans (hmv1.weak (by simp))
   clear hT4' hT5' hC0' hC1' hM hBv1 hmv1
   have hT4' := hT4x
   have hT5' := hT5x
   have hC0' := hC0x
   have hC1' := hC1x
   have hM := hMx
   clear hT4x hT5x hC0x hC1x hMx
   try have a0 := hT4'.cell' (i := 0) rfl
   try have a1 := hT4'.cell' (i := 1) rfl
   try have b0 := hT5'.cell' (i := 0) rfl
   try have b1 := hT5'.cell' (i := 1) rfl
   go_wp2_with (first
                 | (with_reducible refine st_store ?_)
                 | (go_at_call 10; (with_reducible refine (P8 _).mono ?_); rintro e z1 ⟨rfl, rfl⟩))
   refine StopOp.go rfl fun K hK => ?_
   refine wp_store (u := .agg #[.int .i64 5, .int .i64 4]) (by rfl) (by rfl) (by kernel_rfl) hT5' (by simp [Value.cells]) (by simp [Value.cells, Value.oneCell']) ?_
   intro v2 hmv2 hBv2
   refine hK _ _ ?_
   clear hK K
   have hT5x : Blk v2 t5 64 [.int .i64 5, .int .i64 4] := hBv2
   have hT4x := hT4'.mod hmv2 (by simp; omega)
   have hC0x := hC0'.mod hmv2 (by simp; omega)
   have hC1x := hC1'.mod hmv2 (by simp; omega)
   have hMx : Mod [c0, c1, t4, t5] w4 v2 := hM.trans (hmv2.weak (by simp))
   clear hT4' hT5' hC0' hC1' hM hBv2 hmv2
   have hT4' := hT4x
   have hT5' := hT5x
   have hC0' := hC0x
   have hC1' := hC1x
   have hM := hMx
   clear hT4x hT5x hC0x hC1x hMx
   try have a0 := hT4'.cell' (i := 0) rfl
   try have a1 := hT4'.cell' (i := 1) rfl
   try have b0 := hT5'.cell' (i := 0) rfl
   try have b1 := hT5'.cell' (i := 1) rfl
   go_wp2_with (first
                 | (with_reducible refine st_store ?_)
                 | (go_at_call 10; (with_reducible refine (P8 _).mono ?_); rintro e z1 ⟨rfl, rfl⟩))
   refine StopOp.go rfl fun K hK => ?_
   refine wp_store (u := .int .i64 2) (by rfl) (by rfl) (by kernel_rfl) hT5' (by simp [Value.cells]) (by simp [Value.cells, Value.oneCell']) ?_
   intro v3 hmv3 hBv3
   refine hK _ _ ?_
   clear hK K
   have hT5x : Blk v3 t5 64 [.int .i64 2, .int .i64 4] := hBv3
   have hT4x := hT4'.mod hmv3 (by simp; omega)
   have hC0x := hC0'.mod hmv3 (by simp; omega)
   have hC1x := hC1'.mod hmv3 (by simp; omega)
   have hMx : Mod [c0, c1, t4, t5] w4 v3 := hM.trans (hmv3.weak (by simp))
   clear hT4' hT5' hC0' hC1' hM hBv3 hmv3
   have hT4' := hT4x
   have hT5' := hT5x
   have hC0' := hC0x
   have hC1' := hC1x
   have hM := hMx
   clear hT4x hT5x hC0x hC1x hMx
   try have a0 := hT4'.cell' (i := 0) rfl
   try have a1 := hT4'.cell' (i := 1) rfl
   try have b0 := hT5'.cell' (i := 0) rfl
   try have b1 := hT5'.cell' (i := 1) rfl
   go_wp2_with (go_at_call 10; (with_reducible refine (P8 _).mono ?_); rintro e z1 ⟨rfl, rfl⟩; dsimp only)
   refine wp_region_T [⟨0, true, []⟩, ⟨1, true, []⟩, ⟨2, false, [1]⟩, ⟨3, false, []⟩] (by kernel_rfl) (by kernel_rfl) ?_
   have hmD := Mod.drew [] v3
   obtain ⟨x, hx⟩ : ∃ x, x = v3.drew := ⟨_, rfl⟩
   rw [← hx] at hmD ⊢
   clear hx
   clear a0 a1 b0 b1
   have hA := hT4'.ext hmD
   have hB := hT5'.ext hmD
   have hC := hC0'.ext hmD
   have hD := hC1'.ext hmD
   have a0 := hA.cell' (i := 0) rfl
   have a1 := hA.cell' (i := 1) rfl
   have b0 := hB.cell' (i := 0) rfl
   have b1 := hB.cell' (i := 1) rfl
   iterate 2 (refine wpT_n rfl rfl (fun K hK => ?_); go_wp2_with fail)
   refine wpT_e rfl rfl (fun K hK => ?_)
   refine wp_store (u := .agg #[.int .i64 0, .int .i64 4]) (by rfl) (by rfl) (by kernel_rfl) hC (by simp [Value.cells]) (by simp [Value.cells, Value.oneCell']) ?_
   intro x1 hmx1 hBx1
   refine hK _ _ ⟨agains_cons rfl (again_load rfl rfl (hmx1.block t5 hB.lt (by simp; omega)) hB.kinds) agains_nil, ?_⟩
   clear hK K
   refine wpT_e0 rfl rfl (fun K hK => ?_)
   refine wp_store (u := .agg #[.int .i64 2, .int .i64 4]) (by rfl) (by rfl) (by kernel_rfl) (hD.mod hmx1 (by simp; omega)) (by simp [Value.cells]) (by simp [Value.cells, Value.oneCell']) ?_
   intro x2 hmx2 hBx2
   refine hK _ _ ?_
   clear hK K
   have hE1 : Blk x2 c0 64 [.int .i64 0, .int .i64 4] := Blk.mod (show Blk x1 c0 64 [.int .i64 0, .int .i64 4] from hBx1) hmx2 (by simp; omega)
   have hE2 : Blk x2 c1 64 [.int .i64 2, .int .i64 4] := hBx2
   have q0 := hE1.cell' (i := 0) rfl
   have q1 := hE1.cell' (i := 1) rfl
   have q2 := hE2.cell' (i := 0) rfl
   have q3 := hE2.cell' (i := 1) rfl
   refine wpT_nil ?_
   go_wp2_with fail
   have hMM : Mod [c0, c1, t4, t5] w4 x2 := ((hM.ext hmD).trans (hmx1.weak (by simp))).trans (hmx2.weak (by simp))
   refine bodyPost_ret (v := .tuple #[.agg #[.int .i64 0, .int .i64 4], .agg #[.int .i64 2, .int .i64 4]]) (by simp [results, Tryz.results27, go_sem, q0, q1, q2, q3]) rfl ⟨rfl, hM0.fresh hMM (by simp; omega)⟩
 · subst h
   clear h0 h1 hi
   go_enter Tryz.func27, Tryz.ntmps27
   go_wp2_with (with_reducible refine st_alloc ?_)
   refine StopOp.go rfl fun K hK => ?_
   refine wp_alloc zero_span ?_
   intro c0 w1 hc0 hc0' hm1 hC0
   simp only [put_some, List.set_cons_succ, List.set_cons_zero]
   refine hK _ _ ?_
   clear hK K
   go_wp2_with (with_reducible refine st_alloc ?_)
   refine StopOp.go rfl fun K hK => ?_
   refine wp_alloc zero_span ?_
   intro c1 w2 hc1 hc1' hm2 hC1
   simp only [put_some, List.set_cons_succ, List.set_cons_zero]
   refine hK _ _ ?_
   clear hK K
   go_wp2_with (with_reducible refine st_alloc ?_)
   refine StopOp.go rfl fun K hK => ?_
   refine wp_alloc zero_span ?_
   intro t4 w3 ht4 ht4' hm3 hT4
   simp only [put_some, List.set_cons_succ, List.set_cons_zero]
   refine hK _ _ ?_
   clear hK K
   go_wp2_with (with_reducible refine st_alloc ?_)
   refine StopOp.go rfl fun K hK => ?_
   refine wp_alloc zero_span ?_
   intro t5 w4 ht5 ht5' hm4 hT5
   simp only [put_some, List.set_cons_succ, List.set_cons_zero]
   refine hK _ _ ?_
   clear hK K
   have hC0' : Blk w4 c0 64 [.int .i64 0, .int .i64 0] := ((Blk.ext (show Blk w1 c0 64 [.int .i64 0, .int .i64 0] from hC0) hm2).ext hm3).ext hm4
   have hC1' : Blk w4 c1 64 [.int .i64 0, .int .i64 0] := (Blk.ext (show Blk w2 c1 64 [.int .i64 0, .int .i64 0] from hC1) hm3).ext hm4
   have hT4' : Blk w4 t4 64 [.int .i64 0, .int .i64 0] := Blk.ext (show Blk w3 t4 64 [.int .i64 0, .int .i64 0] from hT4) hm4
   have hT5' : Blk w4 t5 64 [.int .i64 0, .int .i64 0] := hT5
   have hM0 : Mod [] w w4 := ((hm1.ext hm2).ext hm3).ext hm4
   have n1 : c0 ≠ c1 := by omega
   have n2 : c0 ≠ t4 := by omega
   have n3 : c0 ≠ t5 := by omega
   have n4 : c1 ≠ t4 := by omega
   have n5 : c1 ≠ t5 := by omega
   have n6 : t4 ≠ t5 := by omega
   have hsz := hm1.size
   have hsz2 := hm2.size
   have hsz3 := hm3.size
   have hM : Mod [c0, c1, t4, t5] w4 w4 := Mod.refl _ _
   clear hC0 hC1 hT4 hT5 hm1 hm2 hm3 hm4
   go_wp2_with (first
                 | (with_reducible refine st_store ?_)
                 | (go_at_call 10; (with_reducible refine (P8 _).mono ?_); rintro e z1 ⟨rfl, rfl⟩))
   refine StopOp.go rfl fun K hK => ?_
   refine wp_store (u := .agg #[.int .i64 0, .int .i64 4]) (by rfl) (by rfl) (by kernel_rfl) hT4' (by simp [Value.cells]) (by simp [Value.cells, Value.oneCell']) ?_
   intro v1 hmv1 hBv1
   refine hK _ _ ?_
   clear hK K
   have hT4x : Blk v1 t4 64 [.int .i64 0, .int .i64 4] := hBv1
   have hT5x := hT5'.mod hmv1 (by simp; omega)
   have hC0x := hC0'.mod hmv1 (by simp; omega)
   have hC1x := hC1'.mod hmv1 (by simp; omega)
   have hMx : Mod [c0, c1, t4, t5] w4 v1 := hM.trans (hmv1.weak (by simp))
   clear hT4' hT5' hC0' hC1' hM hBv1 hmv1
   have hT4' := hT4x
   have hT5' := hT5x
   have hC0' := hC0x
   have hC1' := hC1x
   have hM := hMx
   clear hT4x hT5x hC0x hC1x hMx
   try have a0 := hT4'.cell' (i := 0) rfl
   try have a1 := hT4'.cell' (i := 1) rfl
   try have b0 := hT5'.cell' (i := 0) rfl
   try have b1 := hT5'.cell' (i := 1) rfl
   go_wp2_with (first
                 | (with_reducible refine st_store ?_)
                 | (go_at_call 10; (with_reducible refine (P8 _).mono ?_); rintro e z1 ⟨rfl, rfl⟩))
   refine StopOp.go rfl fun K hK => ?_
   refine wp_store (u := .agg #[.int .i64 5, .int .i64 4]) (by rfl) (by rfl) (by kernel_rfl) hT5' (by simp [Value.cells]) (by simp [Value.cells, Value.oneCell']) ?_
   intro v2 hmv2 hBv2
   refine hK _ _ ?_
   clear hK K
   have hT5x : Blk v2 t5 64 [.int .i64 5, .int .i64 4] := hBv2
   have hT4x := hT4'.mod hmv2 (by simp; omega)
   have hC0x := hC0'.mod hmv2 (by simp; omega)
   have hC1x := hC1'.mod hmv2 (by simp; omega)
   have hMx : Mod [c0, c1, t4, t5] w4 v2 := hM.trans (hmv2.weak (by simp))
   clear hT4' hT5' hC0' hC1' hM hBv2 hmv2
   have hT4' := hT4x
   have hT5' := hT5x
   have hC0' := hC0x
   have hC1' := hC1x
   have hM := hMx
   clear hT4x hT5x hC0x hC1x hMx
   try have a0 := hT4'.cell' (i := 0) rfl
   try have a1 := hT4'.cell' (i := 1) rfl
   try have b0 := hT5'.cell' (i := 0) rfl
   try have b1 := hT5'.cell' (i := 1) rfl
   go_wp2_with (first
                 | (with_reducible refine st_store ?_)
                 | (go_at_call 10; (with_reducible refine (P8 _).mono ?_); rintro e z1 ⟨rfl, rfl⟩))
   refine StopOp.go rfl fun K hK => ?_
   refine wp_store (u := .agg #[.int .i64 0, .int .i64 4]) (by rfl) (by rfl) (by kernel_rfl) hT5' (by simp [Value.cells]) (by simp [Value.cells, Value.oneCell']) ?_
   intro v3 hmv3 hBv3
   refine hK _ _ ?_
   clear hK K
   have hT5x : Blk v3 t5 64 [.int .i64 0, .int .i64 4] := hBv3
   have hT4x := hT4'.mod hmv3 (by simp; omega)
   have hC0x := hC0'.mod hmv3 (by simp; omega)
   have hC1x := hC1'.mod hmv3 (by simp; omega)
   have hMx : Mod [c0, c1, t4, t5] w4 v3 := hM.trans (hmv3.weak (by simp))
   clear hT4' hT5' hC0' hC1' hM hBv3 hmv3
   have hT4' := hT4x
   have hT5' := hT5x
   have hC0' := hC0x
   have hC1' := hC1x
   have hM := hMx
   clear hT4x hT5x hC0x hC1x hMx
   try have a0 := hT4'.cell' (i := 0) rfl
   try have a1 := hT4'.cell' (i := 1) rfl
   try have b0 := hT5'.cell' (i := 0) rfl
   try have b1 := hT5'.cell' (i := 1) rfl
   go_wp2_with (go_at_call 10; (with_reducible refine (P8 _).mono ?_); rintro e z1 ⟨rfl, rfl⟩; dsimp only)
   refine wp_region_T [⟨0, true, []⟩, ⟨1, true, []⟩, ⟨2, false, [1]⟩, ⟨3, false, []⟩] (by kernel_rfl) (by kernel_rfl) ?_
   have hmD := Mod.drew [] v3
   obtain ⟨x, hx⟩ : ∃ x, x = v3.drew := ⟨_, rfl⟩
   rw [← hx] at hmD ⊢
   clear hx
   clear a0 a1 b0 b1
   have hA := hT4'.ext hmD
   have hB := hT5'.ext hmD
   have hC := hC0'.ext hmD
   have hD := hC1'.ext hmD
   have a0 := hA.cell' (i := 0) rfl
   have a1 := hA.cell' (i := 1) rfl
   have b0 := hB.cell' (i := 0) rfl
   have b1 := hB.cell' (i := 1) rfl
   iterate 2 (refine wpT_n rfl rfl (fun K hK => ?_); go_wp2_with fail)
   refine wpT_e rfl rfl (fun K hK => ?_)
   refine wp_store (u := .agg #[.int .i64 0, .int .i64 4]) (by rfl) (by rfl) (by kernel_rfl) hC (by simp [Value.cells]) (by simp [Value.cells, Value.oneCell']) ?_
   intro x1 hmx1 hBx1
   refine hK _ _ ⟨agains_cons rfl (again_load rfl rfl (hmx1.block t5 hB.lt (by simp; omega)) hB.kinds) agains_nil, ?_⟩
   clear hK K
   refine wpT_e0 rfl rfl (fun K hK => ?_)
   refine wp_store (u := .agg #[.int .i64 0, .int .i64 4]) (by rfl) (by rfl) (by kernel_rfl) (hD.mod hmx1 (by simp; omega)) (by simp [Value.cells]) (by simp [Value.cells, Value.oneCell']) ?_
   intro x2 hmx2 hBx2
   refine hK _ _ ?_
   clear hK K
   have hE1 : Blk x2 c0 64 [.int .i64 0, .int .i64 4] := Blk.mod (show Blk x1 c0 64 [.int .i64 0, .int .i64 4] from hBx1) hmx2 (by simp; omega)
   have hE2 : Blk x2 c1 64 [.int .i64 0, .int .i64 4] := hBx2
   have q0 := hE1.cell' (i := 0) rfl
   have q1 := hE1.cell' (i := 1) rfl
   have q2 := hE2.cell' (i := 0) rfl
   have q3 := hE2.cell' (i := 1) rfl
   refine wpT_nil ?_
   go_wp2_with fail
   have hMM : Mod [c0, c1, t4, t5] w4 x2 := ((hM.ext hmD).trans (hmx1.weak (by simp))).trans (hmx2.weak (by simp))
   refine bodyPost_ret (v := .tuple #[.agg #[.int .i64 0, .int .i64 4], .agg #[.int .i64 0, .int .i64 4]]) (by simp [results, Tryz.results27, go_sem, q0, q1, q2, q3]) rfl ⟨rfl, hM0.fresh hMM (by simp; omega)⟩
 · subst h
   clear h0 h1 hi
   go_enter Tryz.func27, Tryz.ntmps27
   go_wp2_with (with_reducible refine st_alloc ?_)
   refine StopOp.go rfl fun K hK => ?_
   refine wp_alloc zero_span ?_
   intro c0 w1 hc0 hc0' hm1 hC0
   simp only [put_some, List.set_cons_succ, List.set_cons_zero]
   refine hK _ _ ?_
   clear hK K
   go_wp2_with (with_reducible refine st_alloc ?_)
   refine StopOp.go rfl fun K hK => ?_
   refine wp_alloc zero_span ?_
   intro c1 w2 hc1 hc1' hm2 hC1
   simp only [put_some, List.set_cons_succ, List.set_cons_zero]
   refine hK _ _ ?_
   clear hK K
   go_wp2_with (with_reducible refine st_alloc ?_)
   refine StopOp.go rfl fun K hK => ?_
   refine wp_alloc zero_span ?_
   intro t4 w3 ht4 ht4' hm3 hT4
   simp only [put_some, List.set_cons_succ, List.set_cons_zero]
   refine hK _ _ ?_
   clear hK K
   go_wp2_with (with_reducible refine st_alloc ?_)
   refine StopOp.go rfl fun K hK => ?_
   refine wp_alloc zero_span ?_
   intro t5 w4 ht5 ht5' hm4 hT5
   simp only [put_some, List.set_cons_succ, List.set_cons_zero]
   refine hK _ _ ?_
   clear hK K
   have hC0' : Blk w4 c0 64 [.int .i64 0, .int .i64 0] := ((Blk.ext (show Blk w1 c0 64 [.int .i64 0, .int .i64 0] from hC0) hm2).ext hm3).ext hm4
   have hC1' : Blk w4 c1 64 [.int .i64 0, .int .i64 0] := (Blk.ext (show Blk w2 c1 64 [.int .i64 0, .int .i64 0] from hC1) hm3).ext hm4
   have hT4' : Blk w4 t4 64 [.int .i64 0, .int .i64 0] := Blk.ext (show Blk w3 t4 64 [.int .i64 0, .int .i64 0] from hT4) hm4
   have hT5' : Blk w4 t5 64 [.int .i64 0, .int .i64 0] := hT5
   have hM0 : Mod [] w w4 := ((hm1.ext hm2).ext hm3).ext hm4
   have n1 : c0 ≠ c1 := by omega
   have n2 : c0 ≠ t4 := by omega
   have n3 : c0 ≠ t5 := by omega
   have n4 : c1 ≠ t4 := by omega
   have n5 : c1 ≠ t5 := by omega
   have n6 : t4 ≠ t5 := by omega
   have hsz := hm1.size
   have hsz2 := hm2.size
   have hsz3 := hm3.size
   have hM : Mod [c0, c1, t4, t5] w4 w4 := Mod.refl _ _
   clear hC0 hC1 hT4 hT5 hm1 hm2 hm3 hm4
   go_wp2_with (first
                 | (with_reducible refine st_store ?_)
                 | (go_at_call 10; (with_reducible refine (P8 _).mono ?_); rintro e z1 ⟨rfl, rfl⟩))
   refine StopOp.go rfl fun K hK => ?_
   refine wp_store (u := .agg #[.int .i64 0, .int .i64 4]) (by rfl) (by rfl) (by kernel_rfl) hT4' (by simp [Value.cells]) (by simp [Value.cells, Value.oneCell']) ?_
   intro v1 hmv1 hBv1
   refine hK _ _ ?_
   clear hK K
   have hT4x : Blk v1 t4 64 [.int .i64 0, .int .i64 4] := hBv1
   have hT5x := hT5'.mod hmv1 (by simp; omega)
   have hC0x := hC0'.mod hmv1 (by simp; omega)
   have hC1x := hC1'.mod hmv1 (by simp; omega)
   have hMx : Mod [c0, c1, t4, t5] w4 v1 := hM.trans (hmv1.weak (by simp))
   clear hT4' hT5' hC0' hC1' hM hBv1 hmv1
   have hT4' := hT4x
   have hT5' := hT5x
   have hC0' := hC0x
   have hC1' := hC1x
   have hM := hMx
   clear hT4x hT5x hC0x hC1x hMx
   try have a0 := hT4'.cell' (i := 0) rfl
   try have a1 := hT4'.cell' (i := 1) rfl
   try have b0 := hT5'.cell' (i := 0) rfl
   try have b1 := hT5'.cell' (i := 1) rfl
   go_wp2_with (first
                 | (with_reducible refine st_store ?_)
                 | (go_at_call 10; (with_reducible refine (P8 _).mono ?_); rintro e z1 ⟨rfl, rfl⟩))
   refine StopOp.go rfl fun K hK => ?_
   refine wp_store (u := .agg #[.int .i64 5, .int .i64 4]) (by rfl) (by rfl) (by kernel_rfl) hT5' (by simp [Value.cells]) (by simp [Value.cells, Value.oneCell']) ?_
   intro v2 hmv2 hBv2
   refine hK _ _ ?_
   clear hK K
   have hT5x : Blk v2 t5 64 [.int .i64 5, .int .i64 4] := hBv2
   have hT4x := hT4'.mod hmv2 (by simp; omega)
   have hC0x := hC0'.mod hmv2 (by simp; omega)
   have hC1x := hC1'.mod hmv2 (by simp; omega)
   have hMx : Mod [c0, c1, t4, t5] w4 v2 := hM.trans (hmv2.weak (by simp))
   clear hT4' hT5' hC0' hC1' hM hBv2 hmv2
   have hT4' := hT4x
   have hT5' := hT5x
   have hC0' := hC0x
   have hC1' := hC1x
   have hM := hMx
   clear hT4x hT5x hC0x hC1x hMx
   try have a0 := hT4'.cell' (i := 0) rfl
   try have a1 := hT4'.cell' (i := 1) rfl
   try have b0 := hT5'.cell' (i := 0) rfl
   try have b1 := hT5'.cell' (i := 1) rfl
   go_wp2_with (first
                 | (with_reducible refine st_store ?_)
                 | (go_at_call 10; (with_reducible refine (P8 _).mono ?_); rintro e z1 ⟨rfl, rfl⟩))
   refine StopOp.go rfl fun K hK => ?_
   refine wp_store (u := .int .i64 3) (by rfl) (by rfl) (by kernel_rfl) hT5' (by simp [Value.cells]) (by simp [Value.cells, Value.oneCell']) ?_
   intro v3 hmv3 hBv3
   refine hK _ _ ?_
   clear hK K
   have hT5x : Blk v3 t5 64 [.int .i64 5, .int .i64 3] := hBv3
   have hT4x := hT4'.mod hmv3 (by simp; omega)
   have hC0x := hC0'.mod hmv3 (by simp; omega)
   have hC1x := hC1'.mod hmv3 (by simp; omega)
   have hMx : Mod [c0, c1, t4, t5] w4 v3 := hM.trans (hmv3.weak (by simp))
   clear hT4' hT5' hC0' hC1' hM hBv3 hmv3
   have hT4' := hT4x
   have hT5' := hT5x
   have hC0' := hC0x
   have hC1' := hC1x
   have hM := hMx
   clear hT4x hT5x hC0x hC1x hMx
   try have a0 := hT4'.cell' (i := 0) rfl
   try have a1 := hT4'.cell' (i := 1) rfl
   try have b0 := hT5'.cell' (i := 0) rfl
   try have b1 := hT5'.cell' (i := 1) rfl
   go_wp2_with (go_at_call 10; (with_reducible refine (P8 _).mono ?_); rintro e z1 ⟨rfl, rfl⟩; dsimp only)
   refine wp_region_T [⟨0, true, []⟩, ⟨1, true, []⟩, ⟨2, false, [1]⟩, ⟨3, false, []⟩] (by kernel_rfl) (by kernel_rfl) ?_
   have hmD := Mod.drew [] v3
   obtain ⟨x, hx⟩ : ∃ x, x = v3.drew := ⟨_, rfl⟩
   rw [← hx] at hmD ⊢
   clear hx
   clear a0 a1 b0 b1
   have hA := hT4'.ext hmD
   have hB := hT5'.ext hmD
   have hC := hC0'.ext hmD
   have hD := hC1'.ext hmD
   have a0 := hA.cell' (i := 0) rfl
   have a1 := hA.cell' (i := 1) rfl
   have b0 := hB.cell' (i := 0) rfl
   have b1 := hB.cell' (i := 1) rfl
   iterate 2 (refine wpT_n rfl rfl (fun K hK => ?_); go_wp2_with fail)
   refine wpT_e rfl rfl (fun K hK => ?_)
   refine wp_store (u := .agg #[.int .i64 0, .int .i64 4]) (by rfl) (by rfl) (by kernel_rfl) hC (by simp [Value.cells]) (by simp [Value.cells, Value.oneCell']) ?_
   intro x1 hmx1 hBx1
   refine hK _ _ ⟨agains_cons rfl (again_load rfl rfl (hmx1.block t5 hB.lt (by simp; omega)) hB.kinds) agains_nil, ?_⟩
   clear hK K
   refine wpT_e0 rfl rfl (fun K hK => ?_)
   refine wp_store (u := .agg #[.int .i64 5, .int .i64 3]) (by rfl) (by rfl) (by kernel_rfl) (hD.mod hmx1 (by simp; omega)) (by simp [Value.cells]) (by simp [Value.cells, Value.oneCell']) ?_
   intro x2 hmx2 hBx2
   refine hK _ _ ?_
   clear hK K
   have hE1 : Blk x2 c0 64 [.int .i64 0, .int .i64 4] := Blk.mod (show Blk x1 c0 64 [.int .i64 0, .int .i64 4] from hBx1) hmx2 (by simp; omega)
   have hE2 : Blk x2 c1 64 [.int .i64 5, .int .i64 3] := hBx2
   have q0 := hE1.cell' (i := 0) rfl
   have q1 := hE1.cell' (i := 1) rfl
   have q2 := hE2.cell' (i := 0) rfl
   have q3 := hE2.cell' (i := 1) rfl
   refine wpT_nil ?_
   go_wp2_with fail
   have hMM : Mod [c0, c1, t4, t5] w4 x2 := ((hM.ext hmD).trans (hmx1.weak (by simp))).trans (hmx2.weak (by simp))
   refine bodyPost_ret (v := .tuple #[.agg #[.int .i64 0, .int .i64 4], .agg #[.int .i64 5, .int .i64 3]]) (by simp [results, Tryz.results27, go_sem, q0, q1, q2, q3]) rfl ⟨rfl, hM0.fresh hMM (by simp; omega)⟩
 · subst h
   clear h0 h1 hi
   go_enter Tryz.func27, Tryz.ntmps27
   go_wp2_with (with_reducible refine st_alloc ?_)
   refine StopOp.go rfl fun K hK => ?_
   refine wp_alloc zero_span ?_
   intro c0 w1 hc0 hc0' hm1 hC0
   simp only [put_some, List.set_cons_succ, List.set_cons_zero]
   refine hK _ _ ?_
   clear hK K
   go_wp2_with (with_reducible refine st_alloc ?_)
   refine StopOp.go rfl fun K hK => ?_
   refine wp_alloc zero_span ?_
   intro c1 w2 hc1 hc1' hm2 hC1
   simp only [put_some, List.set_cons_succ, List.set_cons_zero]
   refine hK _ _ ?_
   clear hK K
   go_wp2_with (with_reducible refine st_alloc ?_)
   refine StopOp.go rfl fun K hK => ?_
   refine wp_alloc zero_span ?_
   intro t4 w3 ht4 ht4' hm3 hT4
   simp only [put_some, List.set_cons_succ, List.set_cons_zero]
   refine hK _ _ ?_
   clear hK K
   go_wp2_with (with_reducible refine st_alloc ?_)
   refine StopOp.go rfl fun K hK => ?_
   refine wp_alloc zero_span ?_
   intro t5 w4 ht5 ht5' hm4 hT5
   simp only [put_some, List.set_cons_succ, List.set_cons_zero]
   refine hK _ _ ?_
   clear hK K
   have hC0' : Blk w4 c0 64 [.int .i64 0, .int .i64 0] := ((Blk.ext (show Blk w1 c0 64 [.int .i64 0, .int .i64 0] from hC0) hm2).ext hm3).ext hm4
   have hC1' : Blk w4 c1 64 [.int .i64 0, .int .i64 0] := (Blk.ext (show Blk w2 c1 64 [.int .i64 0, .int .i64 0] from hC1) hm3).ext hm4
   have hT4' : Blk w4 t4 64 [.int .i64 0, .int .i64 0] := Blk.ext (show Blk w3 t4 64 [.int .i64 0, .int .i64 0] from hT4) hm4
   have hT5' : Blk w4 t5 64 [.int .i64 0, .int .i64 0] := hT5
   have hM0 : Mod [] w w4 := ((hm1.ext hm2).ext hm3).ext hm4
   have n1 : c0 ≠ c1 := by omega
   have n2 : c0 ≠ t4 := by omega
   have n3 : c0 ≠ t5 := by omega
   have n4 : c1 ≠ t4 := by omega
   have n5 : c1 ≠ t5 := by omega
   have n6 : t4 ≠ t5 := by omega
   have hsz := hm1.size
   have hsz2 := hm2.size
   have hsz3 := hm3.size
   have hM : Mod [c0, c1, t4, t5] w4 w4 := Mod.refl _ _
   clear hC0 hC1 hT4 hT5 hm1 hm2 hm3 hm4
   go_wp2_with (first
                 | (with_reducible refine st_store ?_)
                 | (go_at_call 10; (with_reducible refine (P8 _).mono ?_); rintro e z1 ⟨rfl, rfl⟩))
   refine StopOp.go rfl fun K hK => ?_
   refine wp_store (u := .agg #[.int .i64 0, .int .i64 4]) (by rfl) (by rfl) (by kernel_rfl) hT4' (by simp [Value.cells]) (by simp [Value.cells, Value.oneCell']) ?_
   intro v1 hmv1 hBv1
   refine hK _ _ ?_
   clear hK K
   have hT4x : Blk v1 t4 64 [.int .i64 0, .int .i64 4] := hBv1
   have hT5x := hT5'.mod hmv1 (by simp; omega)
   have hC0x := hC0'.mod hmv1 (by simp; omega)
   have hC1x := hC1'.mod hmv1 (by simp; omega)
   have hMx : Mod [c0, c1, t4, t5] w4 v1 := hM.trans (hmv1.weak (by simp))
   clear hT4' hT5' hC0' hC1' hM hBv1 hmv1
   have hT4' := hT4x
   have hT5' := hT5x
   have hC0' := hC0x
   have hC1' := hC1x
   have hM := hMx
   clear hT4x hT5x hC0x hC1x hMx
   try have a0 := hT4'.cell' (i := 0) rfl
   try have a1 := hT4'.cell' (i := 1) rfl
   try have b0 := hT5'.cell' (i := 0) rfl
   try have b1 := hT5'.cell' (i := 1) rfl
   go_wp2_with (first
                 | (with_reducible refine st_store ?_)
                 | (go_at_call 10; (with_reducible refine (P8 _).mono ?_); rintro e z1 ⟨rfl, rfl⟩))
   refine StopOp.go rfl fun K hK => ?_
   refine wp_store (u := .agg #[.int .i64 5, .int .i64 4]) (by rfl) (by rfl) (by kernel_rfl) hT5' (by simp [Value.cells]) (by simp [Value.cells, Value.oneCell']) ?_
   intro v2 hmv2 hBv2
   refine hK _ _ ?_
   clear hK K
   have hT5x : Blk v2 t5 64 [.int .i64 5, .int .i64 4] := hBv2
   have hT4x := hT4'.mod hmv2 (by simp; omega)
   have hC0x := hC0'.mod hmv2 (by simp; omega)
   have hC1x := hC1'.mod hmv2 (by simp; omega)
   have hMx : Mod [c0, c1, t4, t5] w4 v2 := hM.trans (hmv2.weak (by simp))
   clear hT4' hT5' hC0' hC1' hM hBv2 hmv2
   have hT4' := hT4x
   have hT5' := hT5x
   have hC0' := hC0x
   have hC1' := hC1x
   have hM := hMx
   clear hT4x hT5x hC0x hC1x hMx
   try have a0 := hT4'.cell' (i := 0) rfl
   try have a1 := hT4'.cell' (i := 1) rfl
   try have b0 := hT5'.cell' (i := 0) rfl
   try have b1 := hT5'.cell' (i := 1) rfl
   go_wp2_with (first
                 | (with_reducible refine st_store ?_)
                 | (go_at_call 10; (with_reducible refine (P8 _).mono ?_); rintro e z1 ⟨rfl, rfl⟩))
   refine StopOp.go rfl fun K hK => ?_
   refine wp_store (u := .int .i64 1) (by rfl) (by rfl) (by kernel_rfl) hT4' (by simp [Value.cells]) (by simp [Value.cells, Value.oneCell']) ?_
   intro v3 hmv3 hBv3
   refine hK _ _ ?_
   clear hK K
   have hT4x : Blk v3 t4 64 [.int .i64 0, .int .i64 1] := hBv3
   have hT5x := hT5'.mod hmv3 (by simp; omega)
   have hC0x := hC0'.mod hmv3 (by simp; omega)
   have hC1x := hC1'.mod hmv3 (by simp; omega)
   have hMx : Mod [c0, c1, t4, t5] w4 v3 := hM.trans (hmv3.weak (by simp))
   clear hT4' hT5' hC0' hC1' hM hBv3 hmv3
   have hT4' := hT4x
   have hT5' := hT5x
   have hC0' := hC0x
   have hC1' := hC1x
   have hM := hMx
   clear hT4x hT5x hC0x hC1x hMx
   try have a0 := hT4'.cell' (i := 0) rfl
   try have a1 := hT4'.cell' (i := 1) rfl
   try have b0 := hT5'.cell' (i := 0) rfl
   try have b1 := hT5'.cell' (i := 1) rfl
   go_wp2_with (first
                 | (with_reducible refine st_store ?_)
                 | (go_at_call 10; (with_reducible refine (P8 _).mono ?_); rintro e z1 ⟨rfl, rfl⟩))
   refine StopOp.go rfl fun K hK => ?_
   refine wp_store (u := .int .i64 1) (by rfl) (by rfl) (by kernel_rfl) hT5' (by simp [Value.cells]) (by simp [Value.cells, Value.oneCell']) ?_
   intro v4 hmv4 hBv4
   refine hK _ _ ?_
   clear hK K
   have hT5x : Blk v4 t5 64 [.int .i64 5, .int .i64 1] := hBv4
   have hT4x := hT4'.mod hmv4 (by simp; omega)
   have hC0x := hC0'.mod hmv4 (by simp; omega)
   have hC1x := hC1'.mod hmv4 (by simp; omega)
   have hMx : Mod [c0, c1, t4, t5] w4 v4 := hM.trans (hmv4.weak (by simp))
   clear hT4' hT5' hC0' hC1' hM hBv4 hmv4
   have hT4' := hT4x
   have hT5' := hT5x
   have hC0' := hC0x
   have hC1' := hC1x
   have hM := hMx
   clear hT4x hT5x hC0x hC1x hMx
   try have a0 := hT4'.cell' (i := 0) rfl
   try have a1 := hT4'.cell' (i := 1) rfl
   try have b0 := hT5'.cell' (i := 0) rfl
   try have b1 := hT5'.cell' (i := 1) rfl
   go_wp2_with (go_at_call 10; (with_reducible refine (P8 _).mono ?_); rintro e z1 ⟨rfl, rfl⟩; dsimp only)
   refine wp_region_T [⟨0, true, []⟩, ⟨1, true, []⟩, ⟨2, false, [1]⟩, ⟨3, false, []⟩] (by kernel_rfl) (by kernel_rfl) ?_
   have hmD := Mod.drew [] v4
   obtain ⟨x, hx⟩ : ∃ x, x = v4.drew := ⟨_, rfl⟩
   rw [← hx] at hmD ⊢
   clear hx
   clear a0 a1 b0 b1
   have hA := hT4'.ext hmD
   have hB := hT5'.ext hmD
   have hC := hC0'.ext hmD
   have hD := hC1'.ext hmD
   have a0 := hA.cell' (i := 0) rfl
   have a1 := hA.cell' (i := 1) rfl
   have b0 := hB.cell' (i := 0) rfl
   have b1 := hB.cell' (i := 1) rfl
   iterate 2 (refine wpT_n rfl rfl (fun K hK => ?_); go_wp2_with fail)
   refine wpT_e rfl rfl (fun K hK => ?_)
   refine wp_store (u := .agg #[.int .i64 0, .int .i64 1]) (by rfl) (by rfl) (by kernel_rfl) hC (by simp [Value.cells]) (by simp [Value.cells, Value.oneCell']) ?_
   intro x1 hmx1 hBx1
   refine hK _ _ ⟨agains_cons rfl (again_load rfl rfl (hmx1.block t5 hB.lt (by simp; omega)) hB.kinds) agains_nil, ?_⟩
   clear hK K
   refine wpT_e0 rfl rfl (fun K hK => ?_)
   refine wp_store (u := .agg #[.int .i64 5, .int .i64 1]) (by rfl) (by rfl) (by kernel_rfl) (hD.mod hmx1 (by simp; omega)) (by simp [Value.cells]) (by simp [Value.cells, Value.oneCell']) ?_
   intro x2 hmx2 hBx2
   refine hK _ _ ?_
   clear hK K
   have hE1 : Blk x2 c0 64 [.int .i64 0, .int .i64 1] := Blk.mod (show Blk x1 c0 64 [.int .i64 0, .int .i64 1] from hBx1) hmx2 (by simp; omega)
   have hE2 : Blk x2 c1 64 [.int .i64 5, .int .i64 1] := hBx2
   have q0 := hE1.cell' (i := 0) rfl
   have q1 := hE1.cell' (i := 1) rfl
   have q2 := hE2.cell' (i := 0) rfl
   have q3 := hE2.cell' (i := 1) rfl
   refine wpT_nil ?_
   go_wp2_with fail
   have hMM : Mod [c0, c1, t4, t5] w4 x2 := ((hM.ext hmD).trans (hmx1.weak (by simp))).trans (hmx2.weak (by simp))
   refine bodyPost_ret (v := .tuple #[.agg #[.int .i64 0, .int .i64 1], .agg #[.int .i64 5, .int .i64 1]]) (by simp [results, Tryz.results27, go_sem, q0, q1, q2, q3]) rfl ⟨rfl, hM0.fresh hMM (by simp; omega)⟩
 · subst h
   clear h0 h1 hi
   go_enter Tryz.func27, Tryz.ntmps27
   go_wp2_with (with_reducible refine st_alloc ?_)
   refine StopOp.go rfl fun K hK => ?_
   refine wp_alloc zero_span ?_
   intro c0 w1 hc0 hc0' hm1 hC0
   simp only [put_some, List.set_cons_succ, List.set_cons_zero]
   refine hK _ _ ?_
   clear hK K
   go_wp2_with (with_reducible refine st_alloc ?_)
   refine StopOp.go rfl fun K hK => ?_
   refine wp_alloc zero_span ?_
   intro c1 w2 hc1 hc1' hm2 hC1
   simp only [put_some, List.set_cons_succ, List.set_cons_zero]
   refine hK _ _ ?_
   clear hK K
   go_wp2_with (with_reducible refine st_alloc ?_)
   refine StopOp.go rfl fun K hK => ?_
   refine wp_alloc zero_span ?_
   intro t4 w3 ht4 ht4' hm3 hT4
   simp only [put_some, List.set_cons_succ, List.set_cons_zero]
   refine hK _ _ ?_
   clear hK K
   go_wp2_with (with_reducible refine st_alloc ?_)
   refine StopOp.go rfl fun K hK => ?_
   refine wp_alloc zero_span ?_
   intro t5 w4 ht5 ht5' hm4 hT5
   simp only [put_some, List.set_cons_succ, List.set_cons_zero]
   refine hK _ _ ?_
   clear hK K
   have hC0' : Blk w4 c0 64 [.int .i64 0, .int .i64 0] := ((Blk.ext (show Blk w1 c0 64 [.int .i64 0, .int .i64 0] from hC0) hm2).ext hm3).ext hm4
   have hC1' : Blk w4 c1 64 [.int .i64 0, .int .i64 0] := (Blk.ext (show Blk w2 c1 64 [.int .i64 0, .int .i64 0] from hC1) hm3).ext hm4
   have hT4' : Blk w4 t4 64 [.int .i64 0, .int .i64 0] := Blk.ext (show Blk w3 t4 64 [.int .i64 0, .int .i64 0] from hT4) hm4
   have hT5' : Blk w4 t5 64 [.int .i64 0, .int .i64 0] := hT5
   have hM0 : Mod [] w w4 := ((hm1.ext hm2).ext hm3).ext hm4
   have n1 : c0 ≠ c1 := by omega
   have n2 : c0 ≠ t4 := by omega
   have n3 : c0 ≠ t5 := by omega
   have n4 : c1 ≠ t4 := by omega
   have n5 : c1 ≠ t5 := by omega
   have n6 : t4 ≠ t5 := by omega
   have hsz := hm1.size
   have hsz2 := hm2.size
   have hsz3 := hm3.size
   have hM : Mod [c0, c1, t4, t5] w4 w4 := Mod.refl _ _
   clear hC0 hC1 hT4 hT5 hm1 hm2 hm3 hm4
   go_wp2_with (first
                 | (with_reducible refine st_store ?_)
                 | (go_at_call 10; (with_reducible refine (P8 _).mono ?_); rintro e z1 ⟨rfl, rfl⟩))
   refine StopOp.go rfl fun K hK => ?_
   refine wp_store (u := .agg #[.int .i64 0, .int .i64 4]) (by rfl) (by rfl) (by kernel_rfl) hT4' (by simp [Value.cells]) (by simp [Value.cells, Value.oneCell']) ?_
   intro v1 hmv1 hBv1
   refine hK _ _ ?_
   clear hK K
   have hT4x : Blk v1 t4 64 [.int .i64 0, .int .i64 4] := hBv1
   have hT5x := hT5'.mod hmv1 (by simp; omega)
   have hC0x := hC0'.mod hmv1 (by simp; omega)
   have hC1x := hC1'.mod hmv1 (by simp; omega)
   have hMx : Mod [c0, c1, t4, t5] w4 v1 := hM.trans (hmv1.weak (by simp))
   clear hT4' hT5' hC0' hC1' hM hBv1 hmv1
   have hT4' := hT4x
   have hT5' := hT5x
   have hC0' := hC0x
   have hC1' := hC1x
   have hM := hMx
   clear hT4x hT5x hC0x hC1x hMx
   try have a0 := hT4'.cell' (i := 0) rfl
   try have a1 := hT4'.cell' (i := 1) rfl
   try have b0 := hT5'.cell' (i := 0) rfl
   try have b1 := hT5'.cell' (i := 1) rfl
   go_wp2_with (first
                 | (with_reducible refine st_store ?_)
                 | (go_at_call 10; (with_reducible refine (P8 _).mono ?_); rintro e z1 ⟨rfl, rfl⟩))
   refine StopOp.go rfl fun K hK => ?_
   refine wp_store (u := .agg #[.int .i64 5, .int .i64 4]) (by rfl) (by rfl) (by kernel_rfl) hT5' (by simp [Value.cells]) (by simp [Value.cells, Value.oneCell']) ?_
   intro v2 hmv2 hBv2
   refine hK _ _ ?_
   clear hK K
   have hT5x : Blk v2 t5 64 [.int .i64 5, .int .i64 4] := hBv2
   have hT4x := hT4'.mod hmv2 (by simp; omega)
   have hC0x := hC0'.mod hmv2 (by simp; omega)
   have hC1x := hC1'.mod hmv2 (by simp; omega)
   have hMx : Mod [c0, c1, t4, t5] w4 v2 := hM.trans (hmv2.weak (by simp))
   clear hT4' hT5' hC0' hC1' hM hBv2 hmv2
   have hT4' := hT4x
   have hT5' := hT5x
   have hC0' := hC0x
   have hC1' := hC1x
   have hM := hMx
   clear hT4x hT5x hC0x hC1x hMx
   try have a0 := hT4'.cell' (i := 0) rfl
   try have a1 := hT4'.cell' (i := 1) rfl
   try have b0 := hT5'.cell' (i := 0) rfl
   try have b1 := hT5'.cell' (i := 1) rfl
   go_wp2_with (go_at_call 10; (with_reducible refine (P8 _).mono ?_); rintro e z1 ⟨rfl, rfl⟩; dsimp only)
   refine wp_region_T [⟨0, true, []⟩, ⟨1, true, []⟩, ⟨2, false, [1]⟩, ⟨3, false, []⟩] (by kernel_rfl) (by kernel_rfl) ?_
   have hmD := Mod.drew [] v2
   obtain ⟨x, hx⟩ : ∃ x, x = v2.drew := ⟨_, rfl⟩
   rw [← hx] at hmD ⊢
   clear hx
   clear a0 a1 b0 b1
   have hA := hT4'.ext hmD
   have hB := hT5'.ext hmD
   have hC := hC0'.ext hmD
   have hD := hC1'.ext hmD
   have a0 := hA.cell' (i := 0) rfl
   have a1 := hA.cell' (i := 1) rfl
   have b0 := hB.cell' (i := 0) rfl
   have b1 := hB.cell' (i := 1) rfl
   iterate 2 (refine wpT_n rfl rfl (fun K hK => ?_); go_wp2_with fail)
   refine wpT_e rfl rfl (fun K hK => ?_)
   refine wp_store (u := .agg #[.int .i64 0, .int .i64 4]) (by rfl) (by rfl) (by kernel_rfl) hC (by simp [Value.cells]) (by simp [Value.cells, Value.oneCell']) ?_
   intro x1 hmx1 hBx1
   refine hK _ _ ⟨agains_cons rfl (again_load rfl rfl (hmx1.block t5 hB.lt (by simp; omega)) hB.kinds) agains_nil, ?_⟩
   clear hK K
   refine wpT_e0 rfl rfl (fun K hK => ?_)
   refine wp_store (u := .agg #[.int .i64 5, .int .i64 4]) (by rfl) (by rfl) (by kernel_rfl) (hD.mod hmx1 (by simp; omega)) (by simp [Value.cells]) (by simp [Value.cells, Value.oneCell']) ?_
   intro x2 hmx2 hBx2
   refine hK _ _ ?_
   clear hK K
   have hE1 : Blk x2 c0 64 [.int .i64 0, .int .i64 4] := Blk.mod (show Blk x1 c0 64 [.int .i64 0, .int .i64 4] from hBx1) hmx2 (by simp; omega)
   have hE2 : Blk x2 c1 64 [.int .i64 5, .int .i64 4] := hBx2
   have q0 := hE1.cell' (i := 0) rfl
   have q1 := hE1.cell' (i := 1) rfl
   have q2 := hE2.cell' (i := 0) rfl
   have q3 := hE2.cell' (i := 1) rfl
   refine wpT_nil ?_
   go_wp2_with fail
   have hMM : Mod [c0, c1, t4, t5] w4 x2 := ((hM.ext hmD).trans (hmx1.weak (by simp))).trans (hmx2.weak (by simp))
   refine bodyPost_ret (v := .tuple #[.agg #[.int .i64 0, .int .i64 4], .agg #[.int .i64 5, .int .i64 4]]) (by simp [results, Tryz.results27, go_sem, q0, q1, q2, q3]) rfl ⟨rfl, hM0.fresh hMM (by simp; omega)⟩
set_option maxRecDepth 1000000 in
set_option maxHeartbeats 8000000 in
theorem snew_any (a b p f0 c0 f1 c1 z : Nat) (w : World) (hA : Rgn w a p f0 c0 z) (hB : Rgn w b p f1 c1 z) (h0 : 1 ≤ c0 ∧ c0 ≤ 16) (h1 : 1 ≤ c1 ∧ c1 ≤ 16) (hz : 1 ≤ z ∧ z ≤ 4096) :
   Calls Tryz.prog 34 #[.pointer (some ⟨a, 0, none⟩), .pointer (some ⟨b, 0, none⟩)] w fun e w' => ((c0 = c1 ∧ 2 ≤ c0) ∧ ∃ s, e = .returned (.tuple #[.pointer (some ⟨s, 0, none⟩), .int .i64 0]) ∧ Sls w' s a b ∧ w.heap.size ≤ s ∧ Mod [] w w') ∨ (¬ (c0 = c1 ∧ 2 ≤ c0) ∧ e = .returned (.tuple #[.pointer none, .int .i64 2]) ∧ Mod [] w w') := by
 have hz0 : 1 * 1 ≤ c0 * z := Nat.mul_le_mul h0.1 hz.1
 have hz1 : 1 * 1 ≤ c1 * z := Nat.mul_le_mul h1.1 hz.1
 have hw0 : c0 * z ≤ 16 * 4096 := Nat.mul_le_mul h0.2 hz.2
 have hw1 : c1 * z ≤ 16 * 4096 := Nat.mul_le_mul h1.2 hz.2
 have BA := fun w h => gBytes_any a p f0 c0 z w h (by omega)
 have BB := fun w h => gBytes_any b p f1 c1 z w h (by omega)
 have SA := fun w h => gSize_any a p f0 c0 z w h
 have SB := fun w h => gSize_any b p f1 c1 z w h
 have hne : c0 * z = c1 * z ↔ c0 = c1 := ⟨fun h => Nat.eq_of_mul_eq_mul_right (by omega) h, fun h => by rw [h]⟩
 have hlt : c0 * z < 2 * z ↔ c0 < 2 := ⟨fun h => Nat.lt_of_mul_lt_mul_right h, fun h => Nat.mul_lt_mul_of_pos_right h (by omega)⟩
 obtain ⟨X, hX⟩ : ∃ X, X = c0 * z := ⟨_, rfl⟩
 obtain ⟨Y, hY⟩ : ∃ X, X = c1 * z := ⟨_, rfl⟩
 rw [← hX] at hz0 hw0 BA hne hlt
 rw [← hY] at hz1 hw1 BB hne
 have y1 : (1 : Int) ≤ X := by omega
 have y2 : (1 : Int) ≤ Y := by omega
 have y3 : (X : Int) ≤ 65536 := by omega
 have y4 : (Y : Int) ≤ 65536 := by omega
 have y5 : (z : Int) ≤ 4096 := by omega
 have d1 : ((X : Int) == 0) = false := by rw [beq_eq_false_iff_ne]; omega
 have d2 : ((Y : Int) == 0) = false := by rw [beq_eq_false_iff_ne]; omega
 clear hX hY hz0 hz1 hw0 hw1 hz h1
 by_cases hXY : X = Y
 · have hc : c0 = c1 := hne.1 hXY
   have d3 : ((X : Int) != (Y : Int)) = false := by rw [hXY]; simp
   by_cases hl : X < 2 * z
   · have y6 : (X : Int) < 2 * z := by omega
     have hc2 : ¬ (c0 = c1 ∧ 2 ≤ c0) := fun h => by have := hlt.1 hl; omega
     have HC := Lib.hid (And.intro hc2 (And.intro hc hXY))
     clear hc hXY hc2 hl hlt hne h0
     go_enter Tryz.func34, Tryz.ntmps34
     go_wp2_with (first
                   | (go_at_call 42; (with_reducible refine (BA _ hA).mono ?_); rintro e w1 ⟨rfl, hm1⟩; have hA1 := hA.ext hm1; have hB1 := hB.ext hm1; clear hA hB)
                   | (go_at_call 42; (with_reducible refine (BB _ hB1).mono ?_); rintro e w2 ⟨rfl, hm2⟩; have hA2 := hA1.ext hm2; have hB2 := hB1.ext hm2; clear hA1 hB1)
                   | (go_at_call 42; (with_reducible refine (BA _ hA2).mono ?_); rintro e w3 ⟨rfl, hm3⟩; have hA3 := hA2.ext hm3; have hB3 := hB2.ext hm3; clear hA2 hB2)
                   | (go_at_call 42; (with_reducible refine (BB _ hB3).mono ?_); rintro e w4 ⟨rfl, hm4⟩; have hA4 := hA3.ext hm4; have hB4 := hB3.ext hm4; clear hA3 hB3)
                   | (go_at_call 39; (with_reducible refine (SA _ hA4).mono ?_); rintro e w5 ⟨rfl, rfl⟩)
                   | (go_at_call 39; (with_reducible refine (SB _ hB4).mono ?_); rintro e w5 ⟨rfl, rfl⟩)
                   | (go_at_call 42; (with_reducible refine (BA _ hA4).mono ?_); rintro e w5 ⟨rfl, hm5⟩; have hA5 := hA4.ext hm5; have hB5 := hB4.ext hm5; clear hA4 hB4)
                   | (go_at_call 39; (with_reducible refine (SA _ hA5).mono ?_); rintro e w5' ⟨rfl, rfl⟩))
     go_ret2
     exact .inr ⟨HC.out.1, rfl, ((hm1.ext hm2).ext (hm3.ext hm4)).ext hm5⟩
   · have y6 : (2 : Int) * z ≤ X := by omega
     have hc2 : c0 = c1 ∧ 2 ≤ c0 := ⟨hc, by have := fun h => hl (hlt.2 h); omega⟩
     have HC := Lib.hid (And.intro hc2 (And.intro hc hXY))
     clear hc hXY hc2 hl hlt hne h0
     go_enter Tryz.func34, Tryz.ntmps34
     go_wp2_with (first
                   | (with_reducible refine st_box ?_)
                   | (go_at_call 42; (with_reducible refine (BA _ hA).mono ?_); rintro e w1 ⟨rfl, hm1⟩; have hA1 := hA.ext hm1; have hB1 := hB.ext hm1; clear hA hB)
                   | (go_at_call 42; (with_reducible refine (BB _ hB1).mono ?_); rintro e w2 ⟨rfl, hm2⟩; have hA2 := hA1.ext hm2; have hB2 := hB1.ext hm2; clear hA1 hB1)
                   | (go_at_call 42; (with_reducible refine (BA _ hA2).mono ?_); rintro e w3 ⟨rfl, hm3⟩; have hA3 := hA2.ext hm3; have hB3 := hB2.ext hm3; clear hA2 hB2)
                   | (go_at_call 42; (with_reducible refine (BB _ hB3).mono ?_); rintro e w4 ⟨rfl, hm4⟩; have hA4 := hA3.ext hm4; have hB4 := hB3.ext hm4; clear hA3 hB3)
                   | (go_at_call 39; (with_reducible refine (SA _ hA4).mono ?_); rintro e w5 ⟨rfl, rfl⟩)
                   | (go_at_call 39; (with_reducible refine (SB _ hB4).mono ?_); rintro e w5 ⟨rfl, rfl⟩)
                   | (go_at_call 42; (with_reducible refine (BA _ hA4).mono ?_); rintro e w5 ⟨rfl, hm5⟩; have hA5 := hA4.ext hm5; have hB5 := hB4.ext hm5; clear hA4 hB4)
                   | (go_at_call 39; (with_reducible refine (SA _ hA5).mono ?_); rintro e w5' ⟨rfl, rfl⟩))
     refine StopOp.go rfl fun K hK => ?_
     refine wp_box (v := .agg #[.pointer (some ⟨a, 0, none⟩), .pointer (some ⟨b, 0, none⟩)]) (by rfl) ?_
     intro s w6 hs1 hs2 hm6 hS6
     simp only [put_some, List.set_cons_succ, List.set_cons_zero]
     refine hK _ _ ?_
     clear hK K
     have hS : Sls w6 s a b := hS6
     have hmm := ((hm1.ext hm2).ext (hm3.ext hm4)).ext hm5
     have := hmm.size
     go_wp2_with fail
     go_ret2
     exact .inl ⟨HC.out.1, s, rfl, hS, by omega, hmm.ext hm6⟩
 · have d3 : ((X : Int) != (Y : Int)) = true := by rw [bne_iff_ne]; omega
   have hc2 : ¬ (c0 = c1 ∧ 2 ≤ c0) := fun h => hXY (hne.2 h.1)
   have HC := Lib.hid hc2
   clear hXY hc2 hne hlt h0
   go_enter Tryz.func34, Tryz.ntmps34
   go_wp2_with (first
                 | (go_at_call 42; (with_reducible refine (BA _ hA).mono ?_); rintro e w1 ⟨rfl, hm1⟩; have hA1 := hA.ext hm1; have hB1 := hB.ext hm1; clear hA hB)
                 | (go_at_call 42; (with_reducible refine (BB _ hB1).mono ?_); rintro e w2 ⟨rfl, hm2⟩; have hA2 := hA1.ext hm2; have hB2 := hB1.ext hm2; clear hA1 hB1)
                 | (go_at_call 42; (with_reducible refine (BA _ hA2).mono ?_); rintro e w3 ⟨rfl, hm3⟩; have hA3 := hA2.ext hm3; have hB3 := hB2.ext hm3; clear hA2 hB2)
                 | (go_at_call 42; (with_reducible refine (BB _ hB3).mono ?_); rintro e w4 ⟨rfl, hm4⟩; have hA4 := hA3.ext hm4; have hB4 := hB3.ext hm4; clear hA3 hB3)
                 | (go_at_call 39; (with_reducible refine (SA _ hA4).mono ?_); rintro e w5 ⟨rfl, rfl⟩)
                 | (go_at_call 39; (with_reducible refine (SB _ hB4).mono ?_); rintro e w5 ⟨rfl, rfl⟩)
                 | (go_at_call 42; (with_reducible refine (BA _ hA4).mono ?_); rintro e w5 ⟨rfl, hm5⟩; have hA5 := hA4.ext hm5; have hB5 := hB4.ext hm5; clear hA4 hB4)
                 | (go_at_call 39; (with_reducible refine (SA _ hA5).mono ?_); rintro e w5' ⟨rfl, rfl⟩))
   go_ret2
   exact .inr ⟨HC.out, rfl, (hm1.ext hm2).ext (hm3.ext hm4)⟩
end Go.Proofs.YtminfegoldgjpaaGreatDoor
