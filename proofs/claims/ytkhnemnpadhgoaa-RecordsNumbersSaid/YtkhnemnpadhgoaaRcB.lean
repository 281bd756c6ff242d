import Derived.Test.YtkhnemnpadhgoaaRcA
/-! Records: within, of, Check. -/
set_option linter.unusedVariables false
set_option linter.unusedSimpArgs false
set_option maxRecDepth 100000
namespace Go.Proofs.Ytkhnemnpadhgoaa
open Go.RowKit Gw

theorem within_any (t : Bool) (n lo hi : Int) (c : Bool) (w : World) (hc : c = decide (within t n lo hi)) :
    Calls Try.prog 29 #[.bool t, .int .i64 n, .int .i64 lo, .int .i64 hi] w fun e w' => e = .returned (.bool c) ∧ w = w' := by
  cases t with
  | false =>
    have e1 : (n == 0) = c := by rw [hc]; unfold within; by_cases hn : n = 0 <;> simp [hn]
    clear hc
    go_enter Try.func29, Try.ntmps29
    go_wp2
    go_ret
    exact ⟨rfl, rfl⟩
  | true =>
    by_cases h1 : lo ≤ n
    · have e1 : decide (lo ≤ n) = true := decide_eq_true h1
      have e2 : decide (n ≤ hi) = c := by rw [hc]; unfold within; simp [h1]
      clear hc
      go_enter Try.func29, Try.ntmps29
      go_wp2
      go_ret
      exact ⟨rfl, rfl⟩
    · have e1 : decide (lo ≤ n) = false := decide_eq_false h1
      have e2 : c = false := by rw [hc]; unfold within; simp [h1]
      subst e2
      clear hc
      go_enter Try.func29, Try.ntmps29
      go_wp2
      go_ret
      exact ⟨rfl, rfl⟩

theorem zero_shape : (Try.prog.info? 45).map (·.zero) = some (some (.agg #[.bool false, .bool false, .bool false, .bool false])) := by kernel_rfl
theorem zero_shapes : (Try.prog.info? 91).map (·.zero) = some (some (.agg #[.bool false, .bool false, .bool false, .bool false, .bool false, .bool false, .bool false, .bool false, .bool false, .bool false, .bool false, .bool false, .bool false, .bool false, .bool false, .bool false, .bool false, .bool false, .bool false, .bool false, .bool false, .bool false, .bool false, .bool false])) := by kernel_rfl
def OfC (k : Int) (w : World) (e : Ending) (w' : World) : Prop := e = .returned (.tuple #[.agg #[.bool (cI k), .bool (cS k), .bool (cU k), .bool (cC k)], .bool (okC k)]) ∧ Mod [] w w'
theorem ofC_of {k : Int} {a b c d f : Bool} {w w' : World} (h1 : cI k = a) (h2 : cS k = b) (h3 : cU k = c) (h4 : cC k = d) (h5 : okC k = f) (hm : Mod [] w w') : OfC k w (.returned (.tuple #[.agg #[.bool a, .bool b, .bool c, .bool d], .bool f])) w' := by
  unfold OfC
  rw [h1, h2, h3, h4, h5]
  exact ⟨rfl, hm⟩
set_option maxRecDepth 1000000 in
set_option maxHeartbeats 4000000 in
theorem ofC_any (k : Int) (w : World) : Calls Try.prog 23 #[.int .i64 k] w (OfC k w) := by
  by_cases k1 : k = 1
  · subst k1
    go_enter Try.func23, Try.ntmps23
    go_wp2_with (with_reducible refine st_alloc ?_)
    refine StopOp.go rfl fun K hK => ?_
    refine wp_alloc zero_shape ?_
    intro p w1 hp1 hp2 hm1 hB1
    simp only [put_some, List.set_cons_succ, List.set_cons_zero]
    refine hK _ _ ?_
    clear hK K
    go_wp2_with (with_reducible refine st_alloc ?_)
    refine StopOp.go rfl fun K hK => ?_
    refine wp_alloc zero_shapes ?_
    intro q w2 hq1 hq2 hm2 hB2
    simp only [put_some, List.set_cons_succ, List.set_cons_zero]
    refine hK _ _ ?_
    clear hK K
    go_wp2_with (with_reducible refine st_store ?_)
    refine StopOp.go rfl fun K hK => ?_
    refine wp_store (u := .agg #[.bool false, .bool false, .bool false, .bool false, .bool true, .bool true, .bool true, .bool false, .bool true, .bool false, .bool false, .bool false, .bool true, .bool false, .bool false, .bool false, .bool true, .bool true, .bool false, .bool false, .bool false, .bool false, .bool false, .bool true]) (by rfl) (by rfl) (by kernel_rfl) hB2 (by simp [Value.cells]) (by simp [Value.cells, Value.oneCell']) ?_
    intro w3 hm3 hB3
    refine hK _ _ ?_
    clear hK K
    have hQ : Blk w3 q 91 [.bool false, .bool false, .bool false, .bool false, .bool true, .bool true, .bool true, .bool false, .bool true, .bool false, .bool false, .bool false, .bool true, .bool false, .bool false, .bool false, .bool true, .bool true, .bool false, .bool false, .bool false, .bool false, .bool false, .bool true] := hB3
    have hm13 : Mod [] w1 w3 := hm2.fresh hm3 (by simpa using hq1)
    have hP := hB1.ext hm13
    have y0 := hQ.cell' (i := 4) rfl
    have y1 := hQ.cell' (i := 5) rfl
    have y2 := hQ.cell' (i := 6) rfl
    have y3 := hQ.cell' (i := 7) rfl
    clear hB3 hB2 hm2 hm3 hB1
    go_wp2_with (with_reducible refine st_store ?_)
    refine StopOp.go rfl fun K hK => ?_
    refine wp_store (u := .agg #[.bool true, .bool true, .bool true, .bool false]) (by rfl) (by rfl) (by kernel_rfl) hP (by simp [Value.cells]) (by simp [Value.cells, Value.oneCell']) ?_
    intro w4 hm4 hB4
    refine hK _ _ ?_
    clear hK K
    have z0 := hB4.cell' (i := 0) rfl
    have z1 := hB4.cell' (i := 1) rfl
    have z2 := hB4.cell' (i := 2) rfl
    have z3 := hB4.cell' (i := 3) rfl
    go_wp2_with fail
    exact bodyPost_ret (v := .tuple #[.agg #[.bool true, .bool true, .bool true, .bool false], .bool true]) (by simp [results, Try.results23, go_sem, z0, z1, z2, z3]) rfl (ofC_of (by decide) (by decide) (by decide) (by decide) (by decide) ((hm1.ext hm13).fresh hm4 (by simpa using hp1)))
  by_cases k2 : k = 2
  · subst k2
    go_enter Try.func23, Try.ntmps23
    go_wp2_with (with_reducible refine st_alloc ?_)
    refine StopOp.go rfl fun K hK => ?_
    refine wp_alloc zero_shape ?_
    intro p w1 hp1 hp2 hm1 hB1
    simp only [put_some, List.set_cons_succ, List.set_cons_zero]
    refine hK _ _ ?_
    clear hK K
    go_wp2_with (with_reducible refine st_alloc ?_)
    refine StopOp.go rfl fun K hK => ?_
    refine wp_alloc zero_shapes ?_
    intro q w2 hq1 hq2 hm2 hB2
    simp only [put_some, List.set_cons_succ, List.set_cons_zero]
    refine hK _ _ ?_
    clear hK K
    go_wp2_with (with_reducible refine st_store ?_)
    refine StopOp.go rfl fun K hK => ?_
    refine wp_store (u := .agg #[.bool false, .bool false, .bool false, .bool false, .bool true, .bool true, .bool true, .bool false, .bool true, .bool false, .bool false, .bool false, .bool true, .bool false, .bool false, .bool false, .bool true, .bool true, .bool false, .bool false, .bool false, .bool false, .bool false, .bool true]) (by rfl) (by rfl) (by kernel_rfl) hB2 (by simp [Value.cells]) (by simp [Value.cells, Value.oneCell']) ?_
    intro w3 hm3 hB3
    refine hK _ _ ?_
    clear hK K
    have hQ : Blk w3 q 91 [.bool false, .bool false, .bool false, .bool false, .bool true, .bool true, .bool true, .bool false, .bool true, .bool false, .bool false, .bool false, .bool true, .bool false, .bool false, .bool false, .bool true, .bool true, .bool false, .bool false, .bool false, .bool false, .bool false, .bool true] := hB3
    have hm13 : Mod [] w1 w3 := hm2.fresh hm3 (by simpa using hq1)
    have hP := hB1.ext hm13
    have y0 := hQ.cell' (i := 8) rfl
    have y1 := hQ.cell' (i := 9) rfl
    have y2 := hQ.cell' (i := 10) rfl
    have y3 := hQ.cell' (i := 11) rfl
    clear hB3 hB2 hm2 hm3 hB1
    go_wp2_with (with_reducible refine st_store ?_)
    refine StopOp.go rfl fun K hK => ?_
    refine wp_store (u := .agg #[.bool true, .bool false, .bool false, .bool false]) (by rfl) (by rfl) (by kernel_rfl) hP (by simp [Value.cells]) (by simp [Value.cells, Value.oneCell']) ?_
    intro w4 hm4 hB4
    refine hK _ _ ?_
    clear hK K
    have z0 := hB4.cell' (i := 0) rfl
    have z1 := hB4.cell' (i := 1) rfl
    have z2 := hB4.cell' (i := 2) rfl
    have z3 := hB4.cell' (i := 3) rfl
    go_wp2_with fail
    exact bodyPost_ret (v := .tuple #[.agg #[.bool true, .bool false, .bool false, .bool false], .bool true]) (by simp [results, Try.results23, go_sem, z0, z1, z2, z3]) rfl (ofC_of (by decide) (by decide) (by decide) (by decide) (by decide) ((hm1.ext hm13).fresh hm4 (by simpa using hp1)))
  by_cases k3 : k = 3
  · subst k3
    go_enter Try.func23, Try.ntmps23
    go_wp2_with (with_reducible refine st_alloc ?_)
    refine StopOp.go rfl fun K hK => ?_
    refine wp_alloc zero_shape ?_
    intro p w1 hp1 hp2 hm1 hB1
    simp only [put_some, List.set_cons_succ, List.set_cons_zero]
    refine hK _ _ ?_
    clear hK K
    go_wp2_with (with_reducible refine st_alloc ?_)
    refine StopOp.go rfl fun K hK => ?_
    refine wp_alloc zero_shapes ?_
    intro q w2 hq1 hq2 hm2 hB2
    simp only [put_some, List.set_cons_succ, List.set_cons_zero]
    refine hK _ _ ?_
    clear hK K
    go_wp2_with (with_reducible refine st_store ?_)
    refine StopOp.go rfl fun K hK => ?_
    refine wp_store (u := .agg #[.bool false, .bool false, .bool false, .bool false, .bool true, .bool true, .bool true, .bool false, .bool true, .bool false, .bool false, .bool false, .bool true, .bool false, .bool false, .bool false, .bool true, .bool true, .bool false, .bool false, .bool false, .bool false, .bool false, .bool true]) (by rfl) (by rfl) (by kernel_rfl) hB2 (by simp [Value.cells]) (by simp [Value.cells, Value.oneCell']) ?_
    intro w3 hm3 hB3
    refine hK _ _ ?_
    clear hK K
    have hQ : Blk w3 q 91 [.bool false, .bool false, .bool false, .bool false, .bool true, .bool true, .bool true, .bool false, .bool true, .bool false, .bool false, .bool false, .bool true, .bool false, .bool false, .bool false, .bool true, .bool true, .bool false, .bool false, .bool false, .bool false, .bool false, .bool true] := hB3
    have hm13 : Mod [] w1 w3 := hm2.fresh hm3 (by simpa using hq1)
    have hP := hB1.ext hm13
    have y0 := hQ.cell' (i := 12) rfl
    have y1 := hQ.cell' (i := 13) rfl
    have y2 := hQ.cell' (i := 14) rfl
    have y3 := hQ.cell' (i := 15) rfl
    clear hB3 hB2 hm2 hm3 hB1
    go_wp2_with (with_reducible refine st_store ?_)
    refine StopOp.go rfl fun K hK => ?_
    refine wp_store (u := .agg #[.bool true, .bool false, .bool false, .bool false]) (by rfl) (by rfl) (by kernel_rfl) hP (by simp [Value.cells]) (by simp [Value.cells, Value.oneCell']) ?_
    intro w4 hm4 hB4
    refine hK _ _ ?_
    clear hK K
    have z0 := hB4.cell' (i := 0) rfl
    have z1 := hB4.cell' (i := 1) rfl
    have z2 := hB4.cell' (i := 2) rfl
    have z3 := hB4.cell' (i := 3) rfl
    go_wp2_with fail
    exact bodyPost_ret (v := .tuple #[.agg #[.bool true, .bool false, .bool false, .bool false], .bool true]) (by simp [results, Try.results23, go_sem, z0, z1, z2, z3]) rfl (ofC_of (by decide) (by decide) (by decide) (by decide) (by decide) ((hm1.ext hm13).fresh hm4 (by simpa using hp1)))
  by_cases k4 : k = 4
  · subst k4
    go_enter Try.func23, Try.ntmps23
    go_wp2_with (with_reducible refine st_alloc ?_)
    refine StopOp.go rfl fun K hK => ?_
    refine wp_alloc zero_shape ?_
    intro p w1 hp1 hp2 hm1 hB1
    simp only [put_some, List.set_cons_succ, List.set_cons_zero]
    refine hK _ _ ?_
    clear hK K
    go_wp2_with (with_reducible refine st_alloc ?_)
    refine StopOp.go rfl fun K hK => ?_
    refine wp_alloc zero_shapes ?_
    intro q w2 hq1 hq2 hm2 hB2
    simp only [put_some, List.set_cons_succ, List.set_cons_zero]
    refine hK _ _ ?_
    clear hK K
    go_wp2_with (with_reducible refine st_store ?_)
    refine StopOp.go rfl fun K hK => ?_
    refine wp_store (u := .agg #[.bool false, .bool false, .bool false, .bool false, .bool true, .bool true, .bool true, .bool false, .bool true, .bool false, .bool false, .bool false, .bool true, .bool false, .bool false, .bool false, .bool true, .bool true, .bool false, .bool false, .bool false, .bool false, .bool false, .bool true]) (by rfl) (by rfl) (by kernel_rfl) hB2 (by simp [Value.cells]) (by simp [Value.cells, Value.oneCell']) ?_
    intro w3 hm3 hB3
    refine hK _ _ ?_
    clear hK K
    have hQ : Blk w3 q 91 [.bool false, .bool false, .bool false, .bool false, .bool true, .bool true, .bool true, .bool false, .bool true, .bool false, .bool false, .bool false, .bool true, .bool false, .bool false, .bool false, .bool true, .bool true, .bool false, .bool false, .bool false, .bool false, .bool false, .bool true] := hB3
    have hm13 : Mod [] w1 w3 := hm2.fresh hm3 (by simpa using hq1)
    have hP := hB1.ext hm13
    have y0 := hQ.cell' (i := 16) rfl
    have y1 := hQ.cell' (i := 17) rfl
    have y2 := hQ.cell' (i := 18) rfl
    have y3 := hQ.cell' (i := 19) rfl
    clear hB3 hB2 hm2 hm3 hB1
    go_wp2_with (with_reducible refine st_store ?_)
    refine StopOp.go rfl fun K hK => ?_
    refine wp_store (u := .agg #[.bool true, .bool true, .bool false, .bool false]) (by rfl) (by rfl) (by kernel_rfl) hP (by simp [Value.cells]) (by simp [Value.cells, Value.oneCell']) ?_
    intro w4 hm4 hB4
    refine hK _ _ ?_
    clear hK K
    have z0 := hB4.cell' (i := 0) rfl
    have z1 := hB4.cell' (i := 1) rfl
    have z2 := hB4.cell' (i := 2) rfl
    have z3 := hB4.cell' (i := 3) rfl
    go_wp2_with fail
    exact bodyPost_ret (v := .tuple #[.agg #[.bool true, .bool true, .bool false, .bool false], .bool true]) (by simp [results, Try.results23, go_sem, z0, z1, z2, z3]) rfl (ofC_of (by decide) (by decide) (by decide) (by decide) (by decide) ((hm1.ext hm13).fresh hm4 (by simpa using hp1)))
  by_cases k5 : k = 5
  · subst k5
    go_enter Try.func23, Try.ntmps23
    go_wp2_with (with_reducible refine st_alloc ?_)
    refine StopOp.go rfl fun K hK => ?_
    refine wp_alloc zero_shape ?_
    intro p w1 hp1 hp2 hm1 hB1
    simp only [put_some, List.set_cons_succ, List.set_cons_zero]
    refine hK _ _ ?_
    clear hK K
    go_wp2_with (with_reducible refine st_alloc ?_)
    refine StopOp.go rfl fun K hK => ?_
    refine wp_alloc zero_shapes ?_
    intro q w2 hq1 hq2 hm2 hB2
    simp only [put_some, List.set_cons_succ, List.set_cons_zero]
    refine hK _ _ ?_
    clear hK K
    go_wp2_with (with_reducible refine st_store ?_)
    refine StopOp.go rfl fun K hK => ?_
    refine wp_store (u := .agg #[.bool false, .bool false, .bool false, .bool false, .bool true, .bool true, .bool true, .bool false, .bool true, .bool false, .bool false, .bool false, .bool true, .bool false, .bool false, .bool false, .bool true, .bool true, .bool false, .bool false, .bool false, .bool false, .bool false, .bool true]) (by rfl) (by rfl) (by kernel_rfl) hB2 (by simp [Value.cells]) (by simp [Value.cells, Value.oneCell']) ?_
    intro w3 hm3 hB3
    refine hK _ _ ?_
    clear hK K
    have hQ : Blk w3 q 91 [.bool false, .bool false, .bool false, .bool false, .bool true, .bool true, .bool true, .bool false, .bool true, .bool false, .bool false, .bool false, .bool true, .bool false, .bool false, .bool false, .bool true, .bool true, .bool false, .bool false, .bool false, .bool false, .bool false, .bool true] := hB3
    have hm13 : Mod [] w1 w3 := hm2.fresh hm3 (by simpa using hq1)
    have hP := hB1.ext hm13
    have y0 := hQ.cell' (i := 20) rfl
    have y1 := hQ.cell' (i := 21) rfl
    have y2 := hQ.cell' (i := 22) rfl
    have y3 := hQ.cell' (i := 23) rfl
    clear hB3 hB2 hm2 hm3 hB1
    go_wp2_with (with_reducible refine st_store ?_)
    refine StopOp.go rfl fun K hK => ?_
    refine wp_store (u := .agg #[.bool false, .bool false, .bool false, .bool true]) (by rfl) (by rfl) (by kernel_rfl) hP (by simp [Value.cells]) (by simp [Value.cells, Value.oneCell']) ?_
    intro w4 hm4 hB4
    refine hK _ _ ?_
    clear hK K
    have z0 := hB4.cell' (i := 0) rfl
    have z1 := hB4.cell' (i := 1) rfl
    have z2 := hB4.cell' (i := 2) rfl
    have z3 := hB4.cell' (i := 3) rfl
    go_wp2_with fail
    exact bodyPost_ret (v := .tuple #[.agg #[.bool false, .bool false, .bool false, .bool true], .bool true]) (by simp [results, Try.results23, go_sem, z0, z1, z2, z3]) rfl (ofC_of (by decide) (by decide) (by decide) (by decide) (by decide) ((hm1.ext hm13).fresh hm4 (by simpa using hp1)))
  by_cases h1 : k < 1
  · have e1 : decide (k < 1) = true := decide_eq_true h1
    go_enter Try.func23, Try.ntmps23
    go_wp2_with (with_reducible refine st_alloc ?_)
    refine StopOp.go rfl fun K hK => ?_
    refine wp_alloc zero_shape ?_
    intro p w1 hp1 hp2 hm1 hB1
    simp only [put_some, List.set_cons_succ, List.set_cons_zero]
    refine hK _ _ ?_
    clear hK K
    go_wp2_with (with_reducible refine st_alloc ?_)
    refine StopOp.go rfl fun K hK => ?_
    refine wp_alloc zero_shapes ?_
    intro q w2 hq1 hq2 hm2 hB2
    simp only [put_some, List.set_cons_succ, List.set_cons_zero]
    refine hK _ _ ?_
    clear hK K
    go_wp2_with (with_reducible refine st_store ?_)
    refine StopOp.go rfl fun K hK => ?_
    refine wp_store (u := .agg #[.bool false, .bool false, .bool false, .bool false, .bool true, .bool true, .bool true, .bool false, .bool true, .bool false, .bool false, .bool false, .bool true, .bool false, .bool false, .bool false, .bool true, .bool true, .bool false, .bool false, .bool false, .bool false, .bool false, .bool true]) (by rfl) (by rfl) (by kernel_rfl) hB2 (by simp [Value.cells]) (by simp [Value.cells, Value.oneCell']) ?_
    intro w3 hm3 hB3
    refine hK _ _ ?_
    clear hK K
    have hQ : Blk w3 q 91 [.bool false, .bool false, .bool false, .bool false, .bool true, .bool true, .bool true, .bool false, .bool true, .bool false, .bool false, .bool false, .bool true, .bool false, .bool false, .bool false, .bool true, .bool true, .bool false, .bool false, .bool false, .bool false, .bool false, .bool true] := hB3
    have hm13 : Mod [] w1 w3 := hm2.fresh hm3 (by simpa using hq1)
    have hP := hB1.ext hm13
    clear hB3 hB2 hm2 hm3 hB1
    go_wp2_with (with_reducible refine st_store ?_)
    refine StopOp.go rfl fun K hK => ?_
    refine wp_store (u := .agg #[.bool false, .bool false, .bool false, .bool false]) (by rfl) (by rfl) (by kernel_rfl) hP (by simp [Value.cells]) (by simp [Value.cells, Value.oneCell']) ?_
    intro w4 hm4 hB4
    refine hK _ _ ?_
    clear hK K
    have z0 := hB4.cell' (i := 0) rfl
    have z1 := hB4.cell' (i := 1) rfl
    have z2 := hB4.cell' (i := 2) rfl
    have z3 := hB4.cell' (i := 3) rfl
    go_wp2_with fail
    exact bodyPost_ret (v := .tuple #[.agg #[.bool false, .bool false, .bool false, .bool false], .bool false]) (by simp [results, Try.results23, go_sem, z0, z1, z2, z3]) rfl (ofC_of (decide_eq_false (fun h => by omega)) (decide_eq_false (fun h => by omega)) (decide_eq_false (fun h => by omega)) (decide_eq_false (fun h => by omega)) (decide_eq_false (fun h => by omega))  ((hm1.ext hm13).fresh hm4 (by simpa using hp1)))
  · have e1 : decide (k < 1) = false := decide_eq_false h1
    have e2 : decide (6 ≤ k) = true := decide_eq_true (by omega)
    go_enter Try.func23, Try.ntmps23
    go_wp2_with (with_reducible refine st_alloc ?_)
    refine StopOp.go rfl fun K hK => ?_
    refine wp_alloc zero_shape ?_
    intro p w1 hp1 hp2 hm1 hB1
    simp only [put_some, List.set_cons_succ, List.set_cons_zero]
    refine hK _ _ ?_
    clear hK K
    go_wp2_with (with_reducible refine st_alloc ?_)
    refine StopOp.go rfl fun K hK => ?_
    refine wp_alloc zero_shapes ?_
    intro q w2 hq1 hq2 hm2 hB2
    simp only [put_some, List.set_cons_succ, List.set_cons_zero]
    refine hK _ _ ?_
    clear hK K
    go_wp2_with (with_reducible refine st_store ?_)
    refine StopOp.go rfl fun K hK => ?_
    refine wp_store (u := .agg #[.bool false, .bool false, .bool false, .bool false, .bool true, .bool true, .bool true, .bool false, .bool true, .bool false, .bool false, .bool false, .bool true, .bool false, .bool false, .bool false, .bool true, .bool true, .bool false, .bool false, .bool false, .bool false, .bool false, .bool true]) (by rfl) (by rfl) (by kernel_rfl) hB2 (by simp [Value.cells]) (by simp [Value.cells, Value.oneCell']) ?_
    intro w3 hm3 hB3
    refine hK _ _ ?_
    clear hK K
    have hQ : Blk w3 q 91 [.bool false, .bool false, .bool false, .bool false, .bool true, .bool true, .bool true, .bool false, .bool true, .bool false, .bool false, .bool false, .bool true, .bool false, .bool false, .bool false, .bool true, .bool true, .bool false, .bool false, .bool false, .bool false, .bool false, .bool true] := hB3
    have hm13 : Mod [] w1 w3 := hm2.fresh hm3 (by simpa using hq1)
    have hP := hB1.ext hm13
    clear hB3 hB2 hm2 hm3 hB1
    go_wp2_with (with_reducible refine st_store ?_)
    refine StopOp.go rfl fun K hK => ?_
    refine wp_store (u := .agg #[.bool false, .bool false, .bool false, .bool false]) (by rfl) (by rfl) (by kernel_rfl) hP (by simp [Value.cells]) (by simp [Value.cells, Value.oneCell']) ?_
    intro w4 hm4 hB4
    refine hK _ _ ?_
    clear hK K
    have z0 := hB4.cell' (i := 0) rfl
    have z1 := hB4.cell' (i := 1) rfl
    have z2 := hB4.cell' (i := 2) rfl
    have z3 := hB4.cell' (i := 3) rfl
    go_wp2_with fail
    exact bodyPost_ret (v := .tuple #[.agg #[.bool false, .bool false, .bool false, .bool false], .bool false]) (by simp [results, Try.results23, go_sem, z0, z1, z2, z3]) rfl (ofC_of (decide_eq_false (fun h => by omega)) (decide_eq_false (fun h => by omega)) (decide_eq_false (fun h => by omega)) (decide_eq_false (fun h => by omega)) (decide_eq_false (fun h => by omega))  ((hm1.ext hm13).fresh hm4 (by simpa using hp1)))

set_option maxRecDepth 1000000 in
set_option maxHeartbeats 4000000 in
theorem ccheck_any (r : Rc) (hr : r.ok) (w : World) : Calls Try.prog 10 #[r.v] w fun e w' => e = .returned (.int .i64 (chkC r)) ∧ Mod [] w w' := by
  obtain ⟨D, hD⟩ : ∃ D, D = chkC r := ⟨_, rfl⟩
  rw [← hD]
  have OF := fun w => ofC_any r.kind w
  unfold OfC at OF
  obtain ⟨c1, hc1⟩ : ∃ c, c = decide (within (cI r.kind) r.id 1 4294967295) := ⟨_, rfl⟩
  obtain ⟨c2, hc2⟩ : ∃ c, c = decide (within (cS r.kind) r.seat 0 1023) := ⟨_, rfl⟩
  obtain ⟨c3, hc3⟩ : ∃ c, c = decide (within (cU r.kind) r.till 1 1099511627776) := ⟨_, rfl⟩
  obtain ⟨c4, hc4⟩ : ∃ c, c = decide (within (cC r.kind) r.clock 1 1099511627776) := ⟨_, rfl⟩
  obtain ⟨okb, hok⟩ : ∃ c, c = okC r.kind := ⟨_, rfl⟩
  have hm : MayC r ↔ okb = true ∧ c1 = true ∧ c2 = true ∧ c3 = true ∧ c4 = true := by
    rw [hok, hc1, hc2, hc3, hc4]
    unfold MayC okC
    simp only [decide_eq_true_eq]
  have HN : RowKit.Hid (okb = false ∨ c1 = false ∨ c2 = false ∨ c3 = false ∨ c4 = false → D = 160) := Lib.hid fun h => hD.trans (chkC_no fun hh => by
    obtain ⟨a, b, c, d, e⟩ := hm.1 hh
    rcases h with h | h | h | h | h
    · rw [a] at h; cases h
    · rw [b] at h; cases h
    · rw [c] at h; cases h
    · rw [d] at h; cases h
    · rw [e] at h; cases h)
  have HY : RowKit.Hid (okb = true → c1 = true → c2 = true → c3 = true → c4 = true → D = 0) := Lib.hid fun a b c d e => hD.trans (chkC_yes (hm.2 ⟨a, b, c, d, e⟩))
  rw [← hok] at OF
  have W1 := fun w => within_any (cI r.kind) r.id 1 4294967295 c1 w hc1
  have W2 := fun w => within_any (cS r.kind) r.seat 0 1023 c2 w hc2
  have W3 := fun w => within_any (cU r.kind) r.till 1 1099511627776 c3 w hc3
  have W4 := fun w => within_any (cC r.kind) r.clock 1 1099511627776 c4 w hc4
  obtain ⟨f1, hf1⟩ : ∃ b, b = cI r.kind := ⟨_, rfl⟩
  obtain ⟨f2, hf2⟩ : ∃ b, b = cS r.kind := ⟨_, rfl⟩
  obtain ⟨f3, hf3⟩ : ∃ b, b = cU r.kind := ⟨_, rfl⟩
  obtain ⟨f4, hf4⟩ : ∃ b, b = cC r.kind := ⟨_, rfl⟩
  rw [← hf1, ← hf2, ← hf3, ← hf4] at OF
  rw [← hf1] at W1
  rw [← hf2] at W2
  rw [← hf3] at W3
  rw [← hf4] at W4
  have i1 := hr.i1
  have i2 := hr.i2
  clear hD hc1 hc2 hc3 hc4 hok hm hf1 hf2 hf3 hf4 hr
  obtain ⟨kind, id, seat, till, clock⟩ := r
  dsimp only [Rc.v] at *
  go_enter Try.func10, Try.ntmps10
  go_wp2_with (with_reducible refine st_box ?_)
  refine StopOp.go rfl fun K hK => ?_
  refine wp_box (v := .agg #[.int .i64 kind, .int .u32 id, .int .i64 seat, .int .i64 till, .int .i64 clock]) (by rfl) ?_
  intro g w1 hg1 hg2 hm1 hB1
  simp only [put_some, List.set_cons_succ, List.set_cons_zero]
  refine hK _ _ ?_
  clear hK K
  have hB : Blk w1 g 25 [.int .i64 kind, .int .u32 id, .int .i64 seat, .int .i64 till, .int .i64 clock] := hB1
  have k0 := hB.cell' (i := 0) rfl
  go_wp2_with (first | (with_reducible refine st_alloc ?_) | (go_at_call 23; (with_reducible refine (OF _).mono ?_); rintro e w2 ⟨rfl, hm2⟩))
  refine StopOp.go rfl fun K hK => ?_
  refine wp_alloc zero_shape ?_
  intro p w3 hp1 hp2 hm3 hP3
  simp only [put_some, List.set_cons_succ, List.set_cons_zero]
  refine hK _ _ ?_
  clear hK K
  go_wp2_with (with_reducible refine st_store ?_)
  refine StopOp.go rfl fun K hK => ?_
  refine wp_store (u := .agg #[.bool f1, .bool f2, .bool f3, .bool f4]) (by rfl) (by rfl) (by kernel_rfl) hP3 (by simp [Value.cells]) (by simp [Value.cells, Value.oneCell']) ?_
  intro w4 hm4 hP4
  refine hK _ _ ?_
  clear hK K
  have hm24 : Mod [] w2 w4 := hm3.fresh hm4 (by simpa using hp1)
  have hB4 := (hB.ext hm2).ext hm24
  have hM := (hm1.ext hm2).ext hm24
  have hP : Blk w4 p 45 [.bool f1, .bool f2, .bool f3, .bool f4] := hP4
  have d0 := hB4.cell' (i := 0) rfl
  have d1 := hB4.cell' (i := 1) rfl
  have d2 := hB4.cell' (i := 2) rfl
  have d3 := hB4.cell' (i := 3) rfl
  have d4 := hB4.cell' (i := 4) rfl
  have s0 := hP.cell' (i := 0) rfl
  have s1 := hP.cell' (i := 1) rfl
  have s2 := hP.cell' (i := 2) rfl
  have s3 := hP.cell' (i := 3) rfl
  clear hB hB1 hP3 hP4 hm3 hm4 k0 hm1 hm2 hm24 OF hB4 hP
  cases okb with
  | false =>
    obtain rfl : D = 160 := HN.out (.inl rfl)
    go_wp2_with (go_at_call 29; first | ((with_reducible refine (W1 _).mono ?_); rintro e wz ⟨rfl, rfl⟩) | ((with_reducible refine (W2 _).mono ?_); rintro e wz ⟨rfl, rfl⟩) | ((with_reducible refine (W3 _).mono ?_); rintro e wz ⟨rfl, rfl⟩) | ((with_reducible refine (W4 _).mono ?_); rintro e wz ⟨rfl, rfl⟩))
    all_goals go_ret
    all_goals exact ⟨rfl, hM⟩
  | true =>
    cases c1 with
    | false =>
      obtain rfl : D = 160 := HN.out (.inr (.inl rfl))
      go_wp2_with (go_at_call 29; first | ((with_reducible refine (W1 _).mono ?_); rintro e wz ⟨rfl, rfl⟩) | ((with_reducible refine (W2 _).mono ?_); rintro e wz ⟨rfl, rfl⟩) | ((with_reducible refine (W3 _).mono ?_); rintro e wz ⟨rfl, rfl⟩) | ((with_reducible refine (W4 _).mono ?_); rintro e wz ⟨rfl, rfl⟩))
      all_goals go_ret
      all_goals exact ⟨rfl, hM⟩
    | true =>
      cases c2 with
      | false =>
        obtain rfl : D = 160 := HN.out (.inr (.inr (.inl rfl)))
        go_wp2_with (go_at_call 29; first | ((with_reducible refine (W1 _).mono ?_); rintro e wz ⟨rfl, rfl⟩) | ((with_reducible refine (W2 _).mono ?_); rintro e wz ⟨rfl, rfl⟩) | ((with_reducible refine (W3 _).mono ?_); rintro e wz ⟨rfl, rfl⟩) | ((with_reducible refine (W4 _).mono ?_); rintro e wz ⟨rfl, rfl⟩))
        all_goals go_ret
        all_goals exact ⟨rfl, hM⟩
      | true =>
        cases c3 with
        | false =>
          obtain rfl : D = 160 := HN.out (.inr (.inr (.inr (.inl rfl))))
          go_wp2_with (go_at_call 29; first | ((with_reducible refine (W1 _).mono ?_); rintro e wz ⟨rfl, rfl⟩) | ((with_reducible refine (W2 _).mono ?_); rintro e wz ⟨rfl, rfl⟩) | ((with_reducible refine (W3 _).mono ?_); rintro e wz ⟨rfl, rfl⟩) | ((with_reducible refine (W4 _).mono ?_); rintro e wz ⟨rfl, rfl⟩))
          all_goals go_ret
          all_goals exact ⟨rfl, hM⟩
        | true =>
          cases c4 with
          | false =>
            obtain rfl : D = 160 := HN.out (.inr (.inr (.inr (.inr rfl))))
            go_wp2_with (go_at_call 29; first | ((with_reducible refine (W1 _).mono ?_); rintro e wz ⟨rfl, rfl⟩) | ((with_reducible refine (W2 _).mono ?_); rintro e wz ⟨rfl, rfl⟩) | ((with_reducible refine (W3 _).mono ?_); rintro e wz ⟨rfl, rfl⟩) | ((with_reducible refine (W4 _).mono ?_); rintro e wz ⟨rfl, rfl⟩))
            all_goals go_ret
            all_goals exact ⟨rfl, hM⟩
          | true =>
            obtain rfl : D = 0 := HY.out rfl rfl rfl rfl rfl
            go_wp2_with (go_at_call 29; first | ((with_reducible refine (W1 _).mono ?_); rintro e wz ⟨rfl, rfl⟩) | ((with_reducible refine (W2 _).mono ?_); rintro e wz ⟨rfl, rfl⟩) | ((with_reducible refine (W3 _).mono ?_); rintro e wz ⟨rfl, rfl⟩) | ((with_reducible refine (W4 _).mono ?_); rintro e wz ⟨rfl, rfl⟩))
            go_ret
            exact ⟨rfl, hM⟩
end Go.Proofs.Ytkhnemnpadhgoaa
