import Derived.Test.YtfcoaiggpcjldaaDoorRpD
/-! Replies: the reference's Fields, Check. -/
set_option linter.unusedVariables false
set_option linter.unusedSimpArgs false
set_option maxRecDepth 100000
namespace Go.Proofs.YtfcoaiggpcjldaaDoor
open Go.RowKit Gw

def okK (k : Int) : Bool := decide (1 ≤ k ∧ k ≤ 10)
theorem zero_four : (Tryd.prog.info? 53).map (·.zero) = some (some (.agg #[.bool false, .bool false, .bool false, .bool false])) := by kernel_rfl
def FldQ (k : Int) (w : World) (e : Ending) (w' : World) : Prop := e = .returned (.tuple #[.agg #[.bool (hI k 0), .bool (hS k 0), .bool (hU k 0), .bool (hC k 0)], .bool (okK k)]) ∧ Mod [] w w'
theorem fldQ_of {k : Int} {a b c d f : Bool} {w w' : World} (h1 : hI k 0 = a) (h2 : hS k 0 = b) (h3 : hU k 0 = c) (h4 : hC k 0 = d) (h5 : okK k = f) (hm : Mod [] w w') : FldQ k w (.returned (.tuple #[.agg #[.bool a, .bool b, .bool c, .bool d], .bool f])) w' := by
  unfold FldQ
  rw [h1, h2, h3, h4, h5]
  exact ⟨rfl, hm⟩
set_option maxRecDepth 1000000 in
set_option maxHeartbeats 8000000 in
theorem refFields_any (k : Int) (w : World) : Calls Tryd.prog 27 #[.int .i64 k] w (FldQ k w) := by
  by_cases k1 : k = 1
  · subst k1
    go_enter Tryd.func27, Tryd.ntmps27
    go_wp2_with (with_reducible refine st_alloc ?_)
    refine StopOp.go rfl fun K hK => ?_
    refine wp_alloc zero_four ?_
    intro p w1 hp1 hp2 hm1 hB1
    simp only [put_some, List.set_cons_succ, List.set_cons_zero]
    refine hK _ _ ?_
    clear hK K
    go_wp2_with (with_reducible refine st_store ?_)
    refine StopOp.go rfl fun K hK => ?_
    refine wp_store (u := .agg #[.bool true, .bool false, .bool true, .bool false]) (by rfl) (by rfl) (by kernel_rfl) hB1 (by simp [Value.cells]) (by simp [Value.cells, Value.oneCell']) ?_
    intro w2 hm2 hB2
    refine hK _ _ ?_
    clear hK K
    have z0 := hB2.cell' (i := 0) rfl
    have z1 := hB2.cell' (i := 1) rfl
    have z2 := hB2.cell' (i := 2) rfl
    have z3 := hB2.cell' (i := 3) rfl
    go_wp2_with fail
    exact bodyPost_ret (v := .tuple #[.agg #[.bool true, .bool false, .bool true, .bool false], .bool true]) (by simp [results, Tryd.results27, go_sem, z0, z1, z2, z3]) rfl (fldQ_of (by decide) (by decide) (by decide) (by decide) (by decide) (hm1.fresh hm2 (by simpa using hp1)))
  by_cases k2 : k = 2
  · subst k2
    go_enter Tryd.func27, Tryd.ntmps27
    go_wp2_with (with_reducible refine st_alloc ?_)
    refine StopOp.go rfl fun K hK => ?_
    refine wp_alloc zero_four ?_
    intro p w1 hp1 hp2 hm1 hB1
    simp only [put_some, List.set_cons_succ, List.set_cons_zero]
    refine hK _ _ ?_
    clear hK K
    go_wp2_with (with_reducible refine st_store ?_)
    refine StopOp.go rfl fun K hK => ?_
    refine wp_store (u := .agg #[.bool false, .bool false, .bool false, .bool false]) (by rfl) (by rfl) (by kernel_rfl) hB1 (by simp [Value.cells]) (by simp [Value.cells, Value.oneCell']) ?_
    intro w2 hm2 hB2
    refine hK _ _ ?_
    clear hK K
    have z0 := hB2.cell' (i := 0) rfl
    have z1 := hB2.cell' (i := 1) rfl
    have z2 := hB2.cell' (i := 2) rfl
    have z3 := hB2.cell' (i := 3) rfl
    go_wp2_with fail
    exact bodyPost_ret (v := .tuple #[.agg #[.bool false, .bool false, .bool false, .bool false], .bool true]) (by simp [results, Tryd.results27, go_sem, z0, z1, z2, z3]) rfl (fldQ_of (by decide) (by decide) (by decide) (by decide) (by decide) (hm1.fresh hm2 (by simpa using hp1)))
  by_cases k3 : k = 3
  · subst k3
    go_enter Tryd.func27, Tryd.ntmps27
    go_wp2_with (with_reducible refine st_alloc ?_)
    refine StopOp.go rfl fun K hK => ?_
    refine wp_alloc zero_four ?_
    intro p w1 hp1 hp2 hm1 hB1
    simp only [put_some, List.set_cons_succ, List.set_cons_zero]
    refine hK _ _ ?_
    clear hK K
    go_wp2_with (with_reducible refine st_store ?_)
    refine StopOp.go rfl fun K hK => ?_
    refine wp_store (u := .agg #[.bool false, .bool false, .bool false, .bool false]) (by rfl) (by rfl) (by kernel_rfl) hB1 (by simp [Value.cells]) (by simp [Value.cells, Value.oneCell']) ?_
    intro w2 hm2 hB2
    refine hK _ _ ?_
    clear hK K
    have z0 := hB2.cell' (i := 0) rfl
    have z1 := hB2.cell' (i := 1) rfl
    have z2 := hB2.cell' (i := 2) rfl
    have z3 := hB2.cell' (i := 3) rfl
    go_wp2_with fail
    exact bodyPost_ret (v := .tuple #[.agg #[.bool false, .bool false, .bool false, .bool false], .bool true]) (by simp [results, Tryd.results27, go_sem, z0, z1, z2, z3]) rfl (fldQ_of (by decide) (by decide) (by decide) (by decide) (by decide) (hm1.fresh hm2 (by simpa using hp1)))
  by_cases k4 : k = 4
  · subst k4
    go_enter Tryd.func27, Tryd.ntmps27
    go_wp2_with (with_reducible refine st_alloc ?_)
    refine StopOp.go rfl fun K hK => ?_
    refine wp_alloc zero_four ?_
    intro p w1 hp1 hp2 hm1 hB1
    simp only [put_some, List.set_cons_succ, List.set_cons_zero]
    refine hK _ _ ?_
    clear hK K
    go_wp2_with (with_reducible refine st_store ?_)
    refine StopOp.go rfl fun K hK => ?_
    refine wp_store (u := .agg #[.bool false, .bool true, .bool false, .bool false]) (by rfl) (by rfl) (by kernel_rfl) hB1 (by simp [Value.cells]) (by simp [Value.cells, Value.oneCell']) ?_
    intro w2 hm2 hB2
    refine hK _ _ ?_
    clear hK K
    have z0 := hB2.cell' (i := 0) rfl
    have z1 := hB2.cell' (i := 1) rfl
    have z2 := hB2.cell' (i := 2) rfl
    have z3 := hB2.cell' (i := 3) rfl
    go_wp2_with fail
    exact bodyPost_ret (v := .tuple #[.agg #[.bool false, .bool true, .bool false, .bool false], .bool true]) (by simp [results, Tryd.results27, go_sem, z0, z1, z2, z3]) rfl (fldQ_of (by decide) (by decide) (by decide) (by decide) (by decide) (hm1.fresh hm2 (by simpa using hp1)))
  by_cases k5 : k = 5
  · subst k5
    go_enter Tryd.func27, Tryd.ntmps27
    go_wp2_with (with_reducible refine st_alloc ?_)
    refine StopOp.go rfl fun K hK => ?_
    refine wp_alloc zero_four ?_
    intro p w1 hp1 hp2 hm1 hB1
    simp only [put_some, List.set_cons_succ, List.set_cons_zero]
    refine hK _ _ ?_
    clear hK K
    go_wp2_with (with_reducible refine st_store ?_)
    refine StopOp.go rfl fun K hK => ?_
    refine wp_store (u := .agg #[.bool false, .bool true, .bool true, .bool false]) (by rfl) (by rfl) (by kernel_rfl) hB1 (by simp [Value.cells]) (by simp [Value.cells, Value.oneCell']) ?_
    intro w2 hm2 hB2
    refine hK _ _ ?_
    clear hK K
    have z0 := hB2.cell' (i := 0) rfl
    have z1 := hB2.cell' (i := 1) rfl
    have z2 := hB2.cell' (i := 2) rfl
    have z3 := hB2.cell' (i := 3) rfl
    go_wp2_with fail
    exact bodyPost_ret (v := .tuple #[.agg #[.bool false, .bool true, .bool true, .bool false], .bool true]) (by simp [results, Tryd.results27, go_sem, z0, z1, z2, z3]) rfl (fldQ_of (by decide) (by decide) (by decide) (by decide) (by decide) (hm1.fresh hm2 (by simpa using hp1)))
  by_cases k6 : k = 6
  · subst k6
    go_enter Tryd.func27, Tryd.ntmps27
    go_wp2_with (with_reducible refine st_alloc ?_)
    refine StopOp.go rfl fun K hK => ?_
    refine wp_alloc zero_four ?_
    intro p w1 hp1 hp2 hm1 hB1
    simp only [put_some, List.set_cons_succ, List.set_cons_zero]
    refine hK _ _ ?_
    clear hK K
    go_wp2_with (with_reducible refine st_store ?_)
    refine StopOp.go rfl fun K hK => ?_
    refine wp_store (u := .agg #[.bool true, .bool false, .bool true, .bool false]) (by rfl) (by rfl) (by kernel_rfl) hB1 (by simp [Value.cells]) (by simp [Value.cells, Value.oneCell']) ?_
    intro w2 hm2 hB2
    refine hK _ _ ?_
    clear hK K
    have z0 := hB2.cell' (i := 0) rfl
    have z1 := hB2.cell' (i := 1) rfl
    have z2 := hB2.cell' (i := 2) rfl
    have z3 := hB2.cell' (i := 3) rfl
    go_wp2_with fail
    exact bodyPost_ret (v := .tuple #[.agg #[.bool true, .bool false, .bool true, .bool false], .bool true]) (by simp [results, Tryd.results27, go_sem, z0, z1, z2, z3]) rfl (fldQ_of (by decide) (by decide) (by decide) (by decide) (by decide) (hm1.fresh hm2 (by simpa using hp1)))
  by_cases k7 : k = 7
  · subst k7
    go_enter Tryd.func27, Tryd.ntmps27
    go_wp2_with (with_reducible refine st_alloc ?_)
    refine StopOp.go rfl fun K hK => ?_
    refine wp_alloc zero_four ?_
    intro p w1 hp1 hp2 hm1 hB1
    simp only [put_some, List.set_cons_succ, List.set_cons_zero]
    refine hK _ _ ?_
    clear hK K
    go_wp2_with (with_reducible refine st_store ?_)
    refine StopOp.go rfl fun K hK => ?_
    refine wp_store (u := .agg #[.bool false, .bool false, .bool true, .bool false]) (by rfl) (by rfl) (by kernel_rfl) hB1 (by simp [Value.cells]) (by simp [Value.cells, Value.oneCell']) ?_
    intro w2 hm2 hB2
    refine hK _ _ ?_
    clear hK K
    have z0 := hB2.cell' (i := 0) rfl
    have z1 := hB2.cell' (i := 1) rfl
    have z2 := hB2.cell' (i := 2) rfl
    have z3 := hB2.cell' (i := 3) rfl
    go_wp2_with fail
    exact bodyPost_ret (v := .tuple #[.agg #[.bool false, .bool false, .bool true, .bool false], .bool true]) (by simp [results, Tryd.results27, go_sem, z0, z1, z2, z3]) rfl (fldQ_of (by decide) (by decide) (by decide) (by decide) (by decide) (hm1.fresh hm2 (by simpa using hp1)))
  by_cases k8 : k = 8
  · subst k8
    go_enter Tryd.func27, Tryd.ntmps27
    go_wp2_with (with_reducible refine st_alloc ?_)
    refine StopOp.go rfl fun K hK => ?_
    refine wp_alloc zero_four ?_
    intro p w1 hp1 hp2 hm1 hB1
    simp only [put_some, List.set_cons_succ, List.set_cons_zero]
    refine hK _ _ ?_
    clear hK K
    go_wp2_with (with_reducible refine st_store ?_)
    refine StopOp.go rfl fun K hK => ?_
    refine wp_store (u := .agg #[.bool false, .bool false, .bool false, .bool true]) (by rfl) (by rfl) (by kernel_rfl) hB1 (by simp [Value.cells]) (by simp [Value.cells, Value.oneCell']) ?_
    intro w2 hm2 hB2
    refine hK _ _ ?_
    clear hK K
    have z0 := hB2.cell' (i := 0) rfl
    have z1 := hB2.cell' (i := 1) rfl
    have z2 := hB2.cell' (i := 2) rfl
    have z3 := hB2.cell' (i := 3) rfl
    go_wp2_with fail
    exact bodyPost_ret (v := .tuple #[.agg #[.bool false, .bool false, .bool false, .bool true], .bool true]) (by simp [results, Tryd.results27, go_sem, z0, z1, z2, z3]) rfl (fldQ_of (by decide) (by decide) (by decide) (by decide) (by decide) (hm1.fresh hm2 (by simpa using hp1)))
  by_cases k9 : k = 9
  · subst k9
    go_enter Tryd.func27, Tryd.ntmps27
    go_wp2_with (with_reducible refine st_alloc ?_)
    refine StopOp.go rfl fun K hK => ?_
    refine wp_alloc zero_four ?_
    intro p w1 hp1 hp2 hm1 hB1
    simp only [put_some, List.set_cons_succ, List.set_cons_zero]
    refine hK _ _ ?_
    clear hK K
    go_wp2_with (with_reducible refine st_store ?_)
    refine StopOp.go rfl fun K hK => ?_
    refine wp_store (u := .agg #[.bool false, .bool false, .bool false, .bool true]) (by rfl) (by rfl) (by kernel_rfl) hB1 (by simp [Value.cells]) (by simp [Value.cells, Value.oneCell']) ?_
    intro w2 hm2 hB2
    refine hK _ _ ?_
    clear hK K
    have z0 := hB2.cell' (i := 0) rfl
    have z1 := hB2.cell' (i := 1) rfl
    have z2 := hB2.cell' (i := 2) rfl
    have z3 := hB2.cell' (i := 3) rfl
    go_wp2_with fail
    exact bodyPost_ret (v := .tuple #[.agg #[.bool false, .bool false, .bool false, .bool true], .bool true]) (by simp [results, Tryd.results27, go_sem, z0, z1, z2, z3]) rfl (fldQ_of (by decide) (by decide) (by decide) (by decide) (by decide) (hm1.fresh hm2 (by simpa using hp1)))
  by_cases k10 : k = 10
  · subst k10
    go_enter Tryd.func27, Tryd.ntmps27
    go_wp2_with (with_reducible refine st_alloc ?_)
    refine StopOp.go rfl fun K hK => ?_
    refine wp_alloc zero_four ?_
    intro p w1 hp1 hp2 hm1 hB1
    simp only [put_some, List.set_cons_succ, List.set_cons_zero]
    refine hK _ _ ?_
    clear hK K
    go_wp2_with (with_reducible refine st_store ?_)
    refine StopOp.go rfl fun K hK => ?_
    refine wp_store (u := .agg #[.bool false, .bool false, .bool false, .bool true]) (by rfl) (by rfl) (by kernel_rfl) hB1 (by simp [Value.cells]) (by simp [Value.cells, Value.oneCell']) ?_
    intro w2 hm2 hB2
    refine hK _ _ ?_
    clear hK K
    have z0 := hB2.cell' (i := 0) rfl
    have z1 := hB2.cell' (i := 1) rfl
    have z2 := hB2.cell' (i := 2) rfl
    have z3 := hB2.cell' (i := 3) rfl
    go_wp2_with fail
    exact bodyPost_ret (v := .tuple #[.agg #[.bool false, .bool false, .bool false, .bool true], .bool true]) (by simp [results, Tryd.results27, go_sem, z0, z1, z2, z3]) rfl (fldQ_of (by decide) (by decide) (by decide) (by decide) (by decide) (hm1.fresh hm2 (by simpa using hp1)))
  have n1 : (k == 1) = false := by simpa using k1
  have n2 : (k == 2) = false := by simpa using k2
  have n3 : (k == 3) = false := by simpa using k3
  have n4 : (k == 4) = false := by simpa using k4
  have n5 : (k == 5) = false := by simpa using k5
  have n6 : (k == 6) = false := by simpa using k6
  have n7 : (k == 7) = false := by simpa using k7
  have n8 : (k == 8) = false := by simpa using k8
  have n9 : (k == 9) = false := by simpa using k9
  have n10 : (k == 10) = false := by simpa using k10
  go_enter Tryd.func27, Tryd.ntmps27
  go_wp2_with (with_reducible refine st_alloc ?_)
  refine StopOp.go rfl fun K hK => ?_
  refine wp_alloc zero_four ?_
  intro p w1 hp1 hp2 hm1 hB1
  simp only [put_some, List.set_cons_succ, List.set_cons_zero]
  refine hK _ _ ?_
  clear hK K
  go_wp2_with (with_reducible refine st_store ?_)
  refine StopOp.go rfl fun K hK => ?_
  refine wp_store (u := .agg #[.bool false, .bool false, .bool false, .bool false]) (by rfl) (by rfl) (by kernel_rfl) hB1 (by simp [Value.cells]) (by simp [Value.cells, Value.oneCell']) ?_
  intro w2 hm2 hB2
  refine hK _ _ ?_
  clear hK K
  have z0 := hB2.cell' (i := 0) rfl
  have z1 := hB2.cell' (i := 1) rfl
  have z2 := hB2.cell' (i := 2) rfl
  have z3 := hB2.cell' (i := 3) rfl
  go_wp2_with fail
  exact bodyPost_ret (v := .tuple #[.agg #[.bool false, .bool false, .bool false, .bool false], .bool false]) (by simp [results, Tryd.results27, go_sem, z0, z1, z2, z3]) rfl (fldQ_of (decide_eq_false (fun h => by omega)) (decide_eq_false (fun h => by omega)) (decide_eq_false (fun h => by omega)) (decide_eq_false (fun h => by omega)) (decide_eq_false (fun h => by omega)) (hm1.fresh hm2 (by simpa using hp1)))

set_option maxRecDepth 1000000 in
set_option maxHeartbeats 8000000 in
theorem rrefCheck_any (r : Rp) (w : World) : Calls Tryd.prog 11 #[r.v] w fun e w' => e = .returned (.int .i64 (chkR r)) ∧ Mod [] w w' := by
  obtain ⟨D, hD⟩ : ∃ D, D = chkR r := ⟨_, rfl⟩
  rw [← hD]
  have hno : ¬ MayR r → D = 210 := fun h => hD.trans (chkR_no h)
  have hyes : MayR r → D = 0 := fun h => hD.trans (chkR_yes h)
  unfold MayR at hno hyes
  obtain ⟨tag, kind, err, id, seat, till, count⟩ := r
  dsimp only [Rp.v] at *
  have FL := fun w => refFields_any kind w
  unfold FldQ at FL
  have hz : ∀ b : Bool, (err ≠ 0 → b = false) → (err = 0 → b = true ∨ b = false) := fun b _ _ => by cases b <;> simp
  have gI : hI kind err = (decide (err = 0) && hI kind 0) := by unfold hI; by_cases h : err = 0 <;> simp [h]
  have gS : hS kind err = (decide (err = 0) && hS kind 0) := by unfold hS; by_cases h : err = 0 <;> simp [h]
  have gU : hU kind err = (decide (err = 0) && hU kind 0) := by unfold hU; by_cases h : err = 0 <;> simp [h]
  have gC : hC kind err = (decide (err = 0) && hC kind 0) := by unfold hC; by_cases h : err = 0 <;> simp [h]
  obtain ⟨fI, hfI⟩ : ∃ b, b = hI kind 0 := ⟨_, rfl⟩
  obtain ⟨fS, hfS⟩ : ∃ b, b = hS kind 0 := ⟨_, rfl⟩
  obtain ⟨fU, hfU⟩ : ∃ b, b = hU kind 0 := ⟨_, rfl⟩
  obtain ⟨fC, hfC⟩ : ∃ b, b = hC kind 0 := ⟨_, rfl⟩
  obtain ⟨okb, hok⟩ : ∃ b, b = okK kind := ⟨_, rfl⟩
  rw [← hfI, ← hfS, ← hfU, ← hfC, ← hok] at FL
  rw [← hfI] at gI
  rw [← hfS] at gS
  rw [← hfU] at gU
  rw [← hfC] at gC
  obtain ⟨bI, hbI⟩ : ∃ b, b = hI kind err := ⟨_, rfl⟩
  obtain ⟨bS, hbS⟩ : ∃ b, b = hS kind err := ⟨_, rfl⟩
  obtain ⟨bU, hbU⟩ : ∃ b, b = hU kind err := ⟨_, rfl⟩
  obtain ⟨bC, hbC⟩ : ∃ b, b = hC kind err := ⟨_, rfl⟩
  rw [← hbI, ← hbS, ← hbU, ← hbC] at hno hyes
  rw [← hbI] at gI
  rw [← hbS] at gS
  rw [← hbU] at gU
  rw [← hbC] at gC
  have hoki : okb = true ↔ 1 ≤ kind ∧ kind ≤ 10 := by rw [hok]; unfold okK; exact decide_eq_true_iff
  clear hfI hfS hfU hfC hbI hbS hbU hbC hok hz hD
  obtain ⟨c2, hc2⟩ : ∃ c, c = decide (okb = false ∧ (kind ≠ 0 ∨ tag ≠ 0 ∨ err ≠ 200)) := ⟨_, rfl⟩
  obtain ⟨c4, hc4⟩ : ∃ c, c = decide (err < 0 ∨ 65535 < err ∨ seat < 0 ∨ 65535 < seat ∨ count < 0 ∨ 65535 < count ∨ till < 0) := ⟨_, rfl⟩
  obtain ⟨c8, hc8⟩ : ∃ c, c = decide (bI = false ∧ id ≠ 0 ∨ bS = false ∧ seat ≠ 0 ∨ bU = false ∧ till ≠ 0 ∨ bC = false ∧ count ≠ 0) := ⟨_, rfl⟩
  have HS : RowKit.Hid ((c2 = true ∨ c4 = true ∨ c8 = true → D = 210) ∧ (c2 = false → c4 = false → c8 = false → D = 0)) := Lib.hid (by
    rw [hc2, hc4, hc8]
    constructor
    · intro h
      apply hno
      simp only [decide_eq_true_eq] at h
      rintro ⟨g1, g2, g3, g4, g5, g6, g7⟩
      rcases h with ⟨h1, h2⟩ | h | h
      · have : ¬ (1 ≤ kind ∧ kind ≤ 10) := fun hh => by rw [hoki.2 hh] at h1; cases h1
        have := g2 (by omega)
        omega
      · omega
      · rcases h with ⟨h, h'⟩ | ⟨h, h'⟩ | ⟨h, h'⟩ | ⟨h, h'⟩
        · rcases g3 with g | g
          · exact h' g
          · rw [h] at g; cases g
        · rcases g6 with g | ⟨g, _⟩
          · exact h' g
          · rw [h] at g; cases g
        · rcases g4 with g | g
          · exact h' g
          · rw [h] at g; cases g
        · rcases g7 with g | ⟨g, _⟩
          · exact h' g
          · rw [h] at g; cases g
    · intro h2 h4 h8
      apply hyes
      simp only [decide_eq_false_iff_not] at h2 h4 h8
      have i1 : id = 0 ∨ bI = true := by cases bI <;> simp at h8 ⊢; exact h8.1
      have i2 : seat = 0 ∨ bS = true := by cases bS <;> simp at h8 ⊢; exact h8.2.1
      have i3 : till = 0 ∨ bU = true := by cases bU <;> simp at h8 ⊢; exact h8.2.2.1
      have i4 : count = 0 ∨ bC = true := by cases bC <;> simp at h8 ⊢; exact h8.2.2.2
      have hk : (1 ≤ kind ∧ kind ≤ 10) ∨ kind = 0 ∧ tag = 0 ∧ err = 200 := by
        cases okb with
        | true => exact .inl (hoki.1 rfl)
        | false => right; simp at h2; exact h2
      refine ⟨by omega, fun hk0 => by omega, i1, i3, by omega, ?_, ?_⟩
      · rcases i2 with h | h
        · exact .inl h
        · by_cases hs : seat = 0
          · exact .inl hs
          · exact .inr ⟨h, by omega, by omega⟩
      · rcases i4 with h | h
        · exact .inl h
        · by_cases hs : count = 0
          · exact .inl hs
          · exact .inr ⟨h, by omega, by omega⟩)
  have HC2 := Lib.hid hc2
  have HC4 := Lib.hid hc4
  have HC8 := Lib.hid hc8
  have GG := Lib.hid (And.intro gI (And.intro gS (And.intro gU gC)))
  clear hno hyes hc2 hc4 hc8 gI gS gU gC hoki
  go_enter Tryd.func11, Tryd.ntmps11
  go_wp2_with (with_reducible refine st_box ?_)
  refine StopOp.go rfl fun K hK => ?_
  refine wp_box (v := .agg #[.int .u32 tag, .int .i64 kind, .int .i64 err, .int .u32 id, .int .i64 seat, .int .i64 till, .int .i64 count]) (by rfl) ?_
  intro g w1 hg1 hg2 hm1 hB1
  simp only [put_some, List.set_cons_succ, List.set_cons_zero]
  refine hK _ _ ?_
  clear hK K
  have hB : Blk w1 g 26 [.int .u32 tag, .int .i64 kind, .int .i64 err, .int .u32 id, .int .i64 seat, .int .i64 till, .int .i64 count] := hB1
  have k1 := hB.cell' (i := 1) rfl
  go_wp2_with (first | (with_reducible refine st_alloc ?_) | (go_at_call 27; (with_reducible refine (FL _).mono ?_); rintro e w2 ⟨rfl, hm2⟩))
  refine StopOp.go rfl fun K hK => ?_
  refine wp_alloc zero_four ?_
  intro p w3 hp1 hp2 hm3 hP3
  simp only [put_some, List.set_cons_succ, List.set_cons_zero]
  refine hK _ _ ?_
  clear hK K
  go_wp2_with (with_reducible refine st_store ?_)
  refine StopOp.go rfl fun K hK => ?_
  refine wp_store (u := .agg #[.bool fI, .bool fS, .bool fU, .bool fC]) (by rfl) (by rfl) (by kernel_rfl) hP3 (by simp [Value.cells]) (by simp [Value.cells, Value.oneCell']) ?_
  intro w4 hm4 hP4
  refine hK _ _ ?_
  clear hK K
  have hm24 : Mod [] w2 w4 := hm3.fresh hm4 (by simpa using hp1)
  have hB4 := (hB.ext hm2).ext hm24
  have hM4 := (hm1.ext hm2).ext hm24
  have hP : Blk w4 p 53 [.bool fI, .bool fS, .bool fU, .bool fC] := hP4
  have hpw : w.heap.size ≤ p := Nat.le_trans (hm1.ext hm2).size hp1
  have hgp : g ≠ p := hB4.ne hP (by decide)
  have d0 := hB4.cell' (i := 0) rfl
  have d1 := hB4.cell' (i := 1) rfl
  have d2 := hB4.cell' (i := 2) rfl
  have d3 := hB4.cell' (i := 3) rfl
  have d4 := hB4.cell' (i := 4) rfl
  have d5 := hB4.cell' (i := 5) rfl
  have d6 := hB4.cell' (i := 6) rfl
  clear hB hB1 hP3 hP4 hm3 hm4 k1 hm1 hm2 hm24 FL
  go_upto_region 2 with fail
  go_cut [27] (fun s27 wx => s27 = .bool c2 ∧ w4 = wx)
  case first =>
    cases okb with
    | true =>
      have hr : c2 = false := by rw [HC2.out]; exact decide_eq_false (by simp)
      subst hr
      clear HC2 
      go_wp2_with fail
      go_meet
      exact ⟨rfl, rfl⟩
    | false =>
      by_cases h1 : kind = 0
      · have e1 : (kind != 0) = false := by simpa using h1
        by_cases h2 : tag = 0
        · have e2 : (tag != 0) = false := by simpa using h2
          by_cases h3 : err = 200
          · have e3 : (err != 200) = false := by simpa using h3
            have hr : c2 = false := by rw [HC2.out]; exact decide_eq_false (by simp [h1, h2, h3])
            subst hr
            clear HC2 h1 h2 h3
            go_wp2_with fail
            go_meet
            exact ⟨rfl, rfl⟩
          · have e3 : (err != 200) = true := by simpa using h3
            have hr : c2 = true := by rw [HC2.out]; exact decide_eq_true (⟨rfl, .inr (.inr h3)⟩)
            subst hr
            clear HC2 h1 h2 h3
            go_wp2_with fail
            go_meet
            exact ⟨rfl, rfl⟩
        · have e2 : (tag != 0) = true := by simpa using h2
          have hr : c2 = true := by rw [HC2.out]; exact decide_eq_true (⟨rfl, .inr (.inl h2)⟩)
          subst hr
          clear HC2 h1 h2
          go_wp2_with fail
          go_meet
          exact ⟨rfl, rfl⟩
      · have e1 : (kind != 0) = true := by simpa using h1
        have hr : c2 = true := by rw [HC2.out]; exact decide_eq_true (⟨rfl, .inl h1⟩)
        subst hr
        clear HC2 h1
        go_wp2_with fail
        go_meet
        exact ⟨rfl, rfl⟩
  case rest =>
  obtain ⟨rfl, rfl⟩ := hcut
  cases c2 with
  | true =>
    obtain rfl : D = 210 := HS.out.1 (.inl rfl)
    go_wp2_with fail
    go_ret
    exact ⟨rfl, hM4⟩
  | false =>
  go_upto_region 4 with fail
  go_cut [60] (fun s60 wx => s60 = .bool c4 ∧ w4 = wx)
  case first =>
    by_cases h0 : err < 0
    · have e0 : decide (err < 0) = true := decide_eq_true h0
      have hr : c4 = true := by rw [HC4.out]; exact decide_eq_true (by omega)
      subst hr
      clear HC4 h0
      go_wp2_with fail
      go_meet
      exact ⟨rfl, rfl⟩
    · have e0 : decide (err < 0) = false := decide_eq_false h0
      by_cases h1 : 65535 < err
      · have e1 : decide (65535 < err) = true := decide_eq_true h1
        have hr : c4 = true := by rw [HC4.out]; exact decide_eq_true (by omega)
        subst hr
        clear HC4 h0 h1
        go_wp2_with fail
        go_meet
        exact ⟨rfl, rfl⟩
      · have e1 : decide (65535 < err) = false := decide_eq_false h1
        by_cases h2 : seat < 0
        · have e2 : decide (seat < 0) = true := decide_eq_true h2
          have hr : c4 = true := by rw [HC4.out]; exact decide_eq_true (by omega)
          subst hr
          clear HC4 h0 h1 h2
          go_wp2_with fail
          go_meet
          exact ⟨rfl, rfl⟩
        · have e2 : decide (seat < 0) = false := decide_eq_false h2
          by_cases h3 : 65535 < seat
          · have e3 : decide (65535 < seat) = true := decide_eq_true h3
            have hr : c4 = true := by rw [HC4.out]; exact decide_eq_true (by omega)
            subst hr
            clear HC4 h0 h1 h2 h3
            go_wp2_with fail
            go_meet
            exact ⟨rfl, rfl⟩
          · have e3 : decide (65535 < seat) = false := decide_eq_false h3
            by_cases h4 : count < 0
            · have e4 : decide (count < 0) = true := decide_eq_true h4
              have hr : c4 = true := by rw [HC4.out]; exact decide_eq_true (by omega)
              subst hr
              clear HC4 h0 h1 h2 h3 h4
              go_wp2_with fail
              go_meet
              exact ⟨rfl, rfl⟩
            · have e4 : decide (count < 0) = false := decide_eq_false h4
              by_cases h5 : 65535 < count
              · have e5 : decide (65535 < count) = true := decide_eq_true h5
                have hr : c4 = true := by rw [HC4.out]; exact decide_eq_true (by omega)
                subst hr
                clear HC4 h0 h1 h2 h3 h4 h5
                go_wp2_with fail
                go_meet
                exact ⟨rfl, rfl⟩
              · have e5 : decide (65535 < count) = false := decide_eq_false h5
                by_cases h6 : till < 0
                · have e6 : decide (till < 0) = true := decide_eq_true h6
                  have hr : c4 = true := by rw [HC4.out]; exact decide_eq_true (by omega)
                  subst hr
                  clear HC4 h0 h1 h2 h3 h4 h5 h6
                  go_wp2_with fail
                  go_meet
                  exact ⟨rfl, rfl⟩
                · have e6 : decide (till < 0) = false := decide_eq_false h6
                  have hr : c4 = false := by rw [HC4.out]; exact decide_eq_false (by omega)
                  subst hr
                  clear HC4 h0 h1 h2 h3 h4 h5 h6
                  go_wp2_with fail
                  go_meet
                  exact ⟨rfl, rfl⟩
  case rest =>
  obtain ⟨rfl, rfl⟩ := hcut
  cases c4 with
  | true =>
    obtain rfl : D = 210 := HS.out.1 (.inr (.inl rfl))
    go_wp2_with fail
    go_ret
    exact ⟨rfl, hM4⟩
  | false =>
  go_upto_if 63 with fail
  go_cut [] (fun wx => Blk wx p 53 [.bool bI, .bool bS, .bool bU, .bool bC] ∧ Blk wx g 26 [.int .u32 tag, .int .i64 kind, .int .i64 err, .int .u32 id, .int .i64 seat, .int .i64 till, .int .i64 count] ∧ Mod [] w wx)
  case first =>
    by_cases h : err = 0
    · have e1 : (err != 0) = false := by simpa using h
      have gg : fI = bI ∧ fS = bS ∧ fU = bU ∧ fC = bC := by
        rw [GG.out.1, GG.out.2.1, GG.out.2.2.1, GG.out.2.2.2, decide_eq_true h]
        simp
      obtain ⟨rfl, rfl, rfl, rfl⟩ := gg
      clear h GG
      go_wp2_with fail
      go_meet
      exact ⟨hP, hB4, hM4⟩
    · have e1 : (err != 0) = true := by simpa using h
      have gg : bI = false ∧ bS = false ∧ bU = false ∧ bC = false := by
        rw [GG.out.1, GG.out.2.1, GG.out.2.2.1, GG.out.2.2.2, decide_eq_false h]
        simp
      obtain ⟨rfl, rfl, rfl, rfl⟩ := gg
      clear h GG
      go_wp2_with (with_reducible refine st_store ?_)
      refine StopOp.go rfl fun K hK => ?_
      refine wp_store (u := .agg #[.bool false, .bool false, .bool false, .bool false]) (by rfl) (by rfl) (by kernel_rfl) hP (by simp [Value.cells]) (by simp [Value.cells, Value.oneCell']) ?_
      intro w5 hm5 hP5
      refine hK _ _ ?_
      clear hK K
      go_wp2_with fail
      go_meet
      exact ⟨hP5, hB4.mod hm5 (by simpa using hgp), hM4.fresh hm5 (by simpa using hpw)⟩
  case rest =>
  clear d0 d1 d2 d3 d4 d5 d6 hP hB4 hM4
  obtain ⟨hP, hB5, hM5⟩ := hcut
  have d0 := hB5.cell' (i := 0) rfl
  have d1 := hB5.cell' (i := 1) rfl
  have d2 := hB5.cell' (i := 2) rfl
  have d3 := hB5.cell' (i := 3) rfl
  have d4 := hB5.cell' (i := 4) rfl
  have d5 := hB5.cell' (i := 5) rfl
  have d6 := hB5.cell' (i := 6) rfl
  have f0 := hP.cell' (i := 0) rfl
  have f1 := hP.cell' (i := 1) rfl
  have f2 := hP.cell' (i := 2) rfl
  have f3 := hP.cell' (i := 3) rfl
  go_upto_region 8 with fail
  obtain ⟨w5, hw5⟩ : ∃ x, x = wc := ⟨_, rfl⟩
  subst hw5
  go_cut [102] (fun s102 wx => s102 = .bool c8 ∧ w5 = wx)
  case first =>
    cases bI with
    | true =>
      cases bS with
      | true =>
        cases bU with
        | true =>
          cases bC with
          | true =>
            have hr : c8 = false := by rw [HC8.out]; exact decide_eq_false (by simp)
            subst hr
            clear HC8 
            go_wp2_with fail
            go_meet
            exact ⟨rfl, rfl⟩
          | false =>
            by_cases h3 : count = 0
            · have e3 : (count != 0) = false := by simpa using h3
              have hr : c8 = false := by rw [HC8.out]; exact decide_eq_false (by simp [h3])
              subst hr
              clear HC8 h3
              go_wp2_with fail
              go_meet
              exact ⟨rfl, rfl⟩
            · have e3 : (count != 0) = true := by simpa using h3
              have hr : c8 = true := by rw [HC8.out]; exact decide_eq_true (.inr (.inr (.inr ⟨rfl, h3⟩)))
              subst hr
              clear HC8 h3
              go_wp2_with fail
              go_meet
              exact ⟨rfl, rfl⟩
        | false =>
          by_cases h2 : till = 0
          · have e2 : (till != 0) = false := by simpa using h2
            cases bC with
            | true =>
              have hr : c8 = false := by rw [HC8.out]; exact decide_eq_false (by simp [h2])
              subst hr
              clear HC8 h2
              go_wp2_with fail
              go_meet
              exact ⟨rfl, rfl⟩
            | false =>
              by_cases h3 : count = 0
              · have e3 : (count != 0) = false := by simpa using h3
                have hr : c8 = false := by rw [HC8.out]; exact decide_eq_false (by simp [h2, h3])
                subst hr
                clear HC8 h2 h3
                go_wp2_with fail
                go_meet
                exact ⟨rfl, rfl⟩
              · have e3 : (count != 0) = true := by simpa using h3
                have hr : c8 = true := by rw [HC8.out]; exact decide_eq_true (.inr (.inr (.inr ⟨rfl, h3⟩)))
                subst hr
                clear HC8 h2 h3
                go_wp2_with fail
                go_meet
                exact ⟨rfl, rfl⟩
          · have e2 : (till != 0) = true := by simpa using h2
            have hr : c8 = true := by rw [HC8.out]; exact decide_eq_true (.inr (.inr (.inl ⟨rfl, h2⟩)))
            subst hr
            clear HC8 h2
            go_wp2_with fail
            go_meet
            exact ⟨rfl, rfl⟩
      | false =>
        by_cases h1 : seat = 0
        · have e1 : (seat != 0) = false := by simpa using h1
          cases bU with
          | true =>
            cases bC with
            | true =>
              have hr : c8 = false := by rw [HC8.out]; exact decide_eq_false (by simp [h1])
              subst hr
              clear HC8 h1
              go_wp2_with fail
              go_meet
              exact ⟨rfl, rfl⟩
            | false =>
              by_cases h3 : count = 0
              · have e3 : (count != 0) = false := by simpa using h3
                have hr : c8 = false := by rw [HC8.out]; exact decide_eq_false (by simp [h1, h3])
                subst hr
                clear HC8 h1 h3
                go_wp2_with fail
                go_meet
                exact ⟨rfl, rfl⟩
              · have e3 : (count != 0) = true := by simpa using h3
                have hr : c8 = true := by rw [HC8.out]; exact decide_eq_true (.inr (.inr (.inr ⟨rfl, h3⟩)))
                subst hr
                clear HC8 h1 h3
                go_wp2_with fail
                go_meet
                exact ⟨rfl, rfl⟩
          | false =>
            by_cases h2 : till = 0
            · have e2 : (till != 0) = false := by simpa using h2
              cases bC with
              | true =>
                have hr : c8 = false := by rw [HC8.out]; exact decide_eq_false (by simp [h1, h2])
                subst hr
                clear HC8 h1 h2
                go_wp2_with fail
                go_meet
                exact ⟨rfl, rfl⟩
              | false =>
                by_cases h3 : count = 0
                · have e3 : (count != 0) = false := by simpa using h3
                  have hr : c8 = false := by rw [HC8.out]; exact decide_eq_false (by simp [h1, h2, h3])
                  subst hr
                  clear HC8 h1 h2 h3
                  go_wp2_with fail
                  go_meet
                  exact ⟨rfl, rfl⟩
                · have e3 : (count != 0) = true := by simpa using h3
                  have hr : c8 = true := by rw [HC8.out]; exact decide_eq_true (.inr (.inr (.inr ⟨rfl, h3⟩)))
                  subst hr
                  clear HC8 h1 h2 h3
                  go_wp2_with fail
                  go_meet
                  exact ⟨rfl, rfl⟩
            · have e2 : (till != 0) = true := by simpa using h2
              have hr : c8 = true := by rw [HC8.out]; exact decide_eq_true (.inr (.inr (.inl ⟨rfl, h2⟩)))
              subst hr
              clear HC8 h1 h2
              go_wp2_with fail
              go_meet
              exact ⟨rfl, rfl⟩
        · have e1 : (seat != 0) = true := by simpa using h1
          have hr : c8 = true := by rw [HC8.out]; exact decide_eq_true (.inr (.inl ⟨rfl, h1⟩))
          subst hr
          clear HC8 h1
          go_wp2_with fail
          go_meet
          exact ⟨rfl, rfl⟩
    | false =>
      by_cases h0 : id = 0
      · have e0 : (id != 0) = false := by simpa using h0
        cases bS with
        | true =>
          cases bU with
          | true =>
            cases bC with
            | true =>
              have hr : c8 = false := by rw [HC8.out]; exact decide_eq_false (by simp [h0])
              subst hr
              clear HC8 h0
              go_wp2_with fail
              go_meet
              exact ⟨rfl, rfl⟩
            | false =>
              by_cases h3 : count = 0
              · have e3 : (count != 0) = false := by simpa using h3
                have hr : c8 = false := by rw [HC8.out]; exact decide_eq_false (by simp [h0, h3])
                subst hr
                clear HC8 h0 h3
                go_wp2_with fail
                go_meet
                exact ⟨rfl, rfl⟩
              · have e3 : (count != 0) = true := by simpa using h3
                have hr : c8 = true := by rw [HC8.out]; exact decide_eq_true (.inr (.inr (.inr ⟨rfl, h3⟩)))
                subst hr
                clear HC8 h0 h3
                go_wp2_with fail
                go_meet
                exact ⟨rfl, rfl⟩
          | false =>
            by_cases h2 : till = 0
            · have e2 : (till != 0) = false := by simpa using h2
              cases bC with
              | true =>
                have hr : c8 = false := by rw [HC8.out]; exact decide_eq_false (by simp [h0, h2])
                subst hr
                clear HC8 h0 h2
                go_wp2_with fail
                go_meet
                exact ⟨rfl, rfl⟩
              | false =>
                by_cases h3 : count = 0
                · have e3 : (count != 0) = false := by simpa using h3
                  have hr : c8 = false := by rw [HC8.out]; exact decide_eq_false (by simp [h0, h2, h3])
                  subst hr
                  clear HC8 h0 h2 h3
                  go_wp2_with fail
                  go_meet
                  exact ⟨rfl, rfl⟩
                · have e3 : (count != 0) = true := by simpa using h3
                  have hr : c8 = true := by rw [HC8.out]; exact decide_eq_true (.inr (.inr (.inr ⟨rfl, h3⟩)))
                  subst hr
                  clear HC8 h0 h2 h3
                  go_wp2_with fail
                  go_meet
                  exact ⟨rfl, rfl⟩
            · have e2 : (till != 0) = true := by simpa using h2
              have hr : c8 = true := by rw [HC8.out]; exact decide_eq_true (.inr (.inr (.inl ⟨rfl, h2⟩)))
              subst hr
              clear HC8 h0 h2
              go_wp2_with fail
              go_meet
              exact ⟨rfl, rfl⟩
        | false =>
          by_cases h1 : seat = 0
          · have e1 : (seat != 0) = false := by simpa using h1
            cases bU with
            | true =>
              cases bC with
              | true =>
                have hr : c8 = false := by rw [HC8.out]; exact decide_eq_false (by simp [h0, h1])
                subst hr
                clear HC8 h0 h1
                go_wp2_with fail
                go_meet
                exact ⟨rfl, rfl⟩
              | false =>
                by_cases h3 : count = 0
                · have e3 : (count != 0) = false := by simpa using h3
                  have hr : c8 = false := by rw [HC8.out]; exact decide_eq_false (by simp [h0, h1, h3])
                  subst hr
                  clear HC8 h0 h1 h3
                  go_wp2_with fail
                  go_meet
                  exact ⟨rfl, rfl⟩
                · have e3 : (count != 0) = true := by simpa using h3
                  have hr : c8 = true := by rw [HC8.out]; exact decide_eq_true (.inr (.inr (.inr ⟨rfl, h3⟩)))
                  subst hr
                  clear HC8 h0 h1 h3
                  go_wp2_with fail
                  go_meet
                  exact ⟨rfl, rfl⟩
            | false =>
              by_cases h2 : till = 0
              · have e2 : (till != 0) = false := by simpa using h2
                cases bC with
                | true =>
                  have hr : c8 = false := by rw [HC8.out]; exact decide_eq_false (by simp [h0, h1, h2])
                  subst hr
                  clear HC8 h0 h1 h2
                  go_wp2_with fail
                  go_meet
                  exact ⟨rfl, rfl⟩
                | false =>
                  by_cases h3 : count = 0
                  · have e3 : (count != 0) = false := by simpa using h3
                    have hr : c8 = false := by rw [HC8.out]; exact decide_eq_false (by simp [h0, h1, h2, h3])
                    subst hr
                    clear HC8 h0 h1 h2 h3
                    go_wp2_with fail
                    go_meet
                    exact ⟨rfl, rfl⟩
                  · have e3 : (count != 0) = true := by simpa using h3
                    have hr : c8 = true := by rw [HC8.out]; exact decide_eq_true (.inr (.inr (.inr ⟨rfl, h3⟩)))
                    subst hr
                    clear HC8 h0 h1 h2 h3
                    go_wp2_with fail
                    go_meet
                    exact ⟨rfl, rfl⟩
              · have e2 : (till != 0) = true := by simpa using h2
                have hr : c8 = true := by rw [HC8.out]; exact decide_eq_true (.inr (.inr (.inl ⟨rfl, h2⟩)))
                subst hr
                clear HC8 h0 h1 h2
                go_wp2_with fail
                go_meet
                exact ⟨rfl, rfl⟩
          · have e1 : (seat != 0) = true := by simpa using h1
            have hr : c8 = true := by rw [HC8.out]; exact decide_eq_true (.inr (.inl ⟨rfl, h1⟩))
            subst hr
            clear HC8 h0 h1
            go_wp2_with fail
            go_meet
            exact ⟨rfl, rfl⟩
      · have e0 : (id != 0) = true := by simpa using h0
        have hr : c8 = true := by rw [HC8.out]; exact decide_eq_true (.inl ⟨rfl, h0⟩)
        subst hr
        clear HC8 h0
        go_wp2_with fail
        go_meet
        exact ⟨rfl, rfl⟩
  case rest =>
  obtain ⟨rfl, rfl⟩ := hcut
  cases c8 with
  | true =>
    obtain rfl : D = 210 := HS.out.1 (.inr (.inr rfl))
    go_wp2_with fail
    go_ret
    exact ⟨rfl, hM5⟩
  | false =>
    obtain rfl : D = 0 := HS.out.2 rfl rfl rfl
    go_wp2_with fail
    go_ret
    exact ⟨rfl, hM5⟩
end Go.Proofs.YtfcoaiggpcjldaaDoor
