import Derived.Test.YtkhnemnpadhgoaaRcB
/-! Records: size, Size. -/
set_option linter.unusedVariables false
set_option linter.unusedSimpArgs false
set_option maxRecDepth 100000
namespace Go.Proofs.Ytkhnemnpadhgoaa
open Go.RowKit Gw

def szf (b1 b2 b3 b4 : Bool) (j : Nat) : Int := 1 + (if 1 ≤ j ∧ b1 = true then 4 else 0) + (if 2 ≤ j ∧ b2 = true then 2 else 0) + (if 3 ≤ j ∧ b3 = true then 8 else 0) + (if 4 ≤ j ∧ b4 = true then 8 else 0)
theorem szf_range (b1 b2 b3 b4 : Bool) (j : Nat) : 0 ≤ szf b1 b2 b3 b4 j ∧ szf b1 b2 b3 b4 j ≤ 100 := by unfold szf; split <;> split <;> split <;> split <;> omega
theorem szf_step0 (b1 b2 b3 b4 : Bool) : szf b1 b2 b3 b4 1 = szf b1 b2 b3 b4 0 + (if b1 = true then 4 else 0) := by cases b1 <;> cases b2 <;> cases b3 <;> cases b4 <;> decide
theorem szf_step1 (b1 b2 b3 b4 : Bool) : szf b1 b2 b3 b4 2 = szf b1 b2 b3 b4 1 + (if b2 = true then 2 else 0) := by cases b1 <;> cases b2 <;> cases b3 <;> cases b4 <;> decide
theorem szf_step2 (b1 b2 b3 b4 : Bool) : szf b1 b2 b3 b4 3 = szf b1 b2 b3 b4 2 + (if b3 = true then 8 else 0) := by cases b1 <;> cases b2 <;> cases b3 <;> cases b4 <;> decide
theorem szf_step3 (b1 b2 b3 b4 : Bool) : szf b1 b2 b3 b4 4 = szf b1 b2 b3 b4 3 + (if b4 = true then 8 else 0) := by cases b1 <;> cases b2 <;> cases b3 <;> cases b4 <;> decide
theorem szf_k (k : Int) (h : okC k = true) : szf (cI k) (cS k) (cU k) (cC k) 4 = sizeC k := by
  rcases kindsC _ h with e | e | e | e | e <;> subst e <;> decide
theorem zero_has : (Try.prog.info? 100).map (·.zero) = some (some (.agg #[.bool false, .int .i64 0])) := by kernel_rfl

set_option maxRecDepth 1000000 in
set_option maxHeartbeats 4000000 in
theorem size_any (b1 b2 b3 b4 : Bool) (w : World) : Calls Try.prog 32 #[.agg #[.bool b1, .bool b2, .bool b3, .bool b4]] w fun e w' => e = .returned (.int .i64 (szf b1 b2 b3 b4 4)) ∧ Mod [] w w' := by
  go_enter Try.func32, Try.ntmps32
  go_wp2_with (with_reducible refine st_box ?_)
  refine StopOp.go rfl fun K hK => ?_
  refine wp_box (v := .agg #[.bool b1, .bool b2, .bool b3, .bool b4]) (by rfl) ?_
  intro g w1 hg1 hg2 hm1 hB1
  simp only [put_some, List.set_cons_succ, List.set_cons_zero]
  refine hK _ _ ?_
  clear hK K
  have hB : Blk w1 g 45 [.bool b1, .bool b2, .bool b3, .bool b4] := hB1
  have k0 := hB.cell' (i := 0) rfl
  have k1 := hB.cell' (i := 1) rfl
  have k2 := hB.cell' (i := 2) rfl
  have k3 := hB.cell' (i := 3) rfl
  go_wp2_with fail
  clear k0 k1 k2 k3 hB hB1
  go_loopw [3, 19] (fun n i wr => ∃ j : Nat, j ≤ 4 ∧ n = .int .i64 (szf b1 b2 b3 b4 j) ∧ i = .int .i64 j ∧ Mod [] w wr) (fun _ i _ => 4 - (intOf i).toNat)
  case atStart => exact ⟨0, by omega, by simp [szf], rfl, hm1⟩
  case round =>
    obtain ⟨j, hj, rfl, rfl, hmr⟩ := hrel
    rcases (show j = 0 ∨ j = 1 ∨ j = 2 ∨ j = 3 ∨ j = 4 by omega) with rfl | rfl | rfl | rfl | rfl
    · have hx : ∀ w, (Instr.index 101 (.agg #[.bool b1, .int .i64 4, .bool b2, .int .i64 2, .bool b3, .int .i64 8, .bool b4, .int .i64 8]) (.int .i64 0)).run Try.prog w = .ok (.agg #[.bool b1, .int .i64 4]) w := fun _ => by kernel_rfl
      rw [show ((0 : Nat) : Int) = 0 from rfl]
      go_wp2_with (with_reducible refine st_alloc ?_)
      refine StopOp.go rfl fun K hK => ?_
      refine wp_alloc zero_has ?_
      intro p w2 hp1 hp2 hm2 hB2
      simp only [put_some, List.set_cons_succ, List.set_cons_zero]
      refine hK _ _ ?_
      clear hK K
      go_wp2_with (with_reducible refine st_store ?_)
      refine StopOp.go rfl fun K hK => ?_
      refine wp_store (u := .agg #[.bool b1, .int .i64 4]) (by rfl) (by rfl) (by kernel_rfl) hB2 (by simp [Value.cells]) (by simp [Value.cells, Value.oneCell']) ?_
      intro w3 hm3 hB3
      refine hK _ _ ?_
      clear hK K
      have hM3 := hmr.ext (hm2.fresh hm3 (by simpa using hp1))
      have hP : Blk w3 p 100 [.bool b1, .int .i64 4] := hB3
      have q0 := hP.cell' (i := 0) rfl
      have q1 := hP.cell' (i := 1) rfl
      have hsz := szf_step0 b1 b2 b3 b4
      obtain ⟨S0, hS0⟩ : ∃ S, S = szf b1 b2 b3 b4 0 := ⟨_, rfl⟩
      obtain ⟨S1, hS1⟩ : ∃ S, S = szf b1 b2 b3 b4 1 := ⟨_, rfl⟩
      have hr := szf_range b1 b2 b3 b4 0
      rw [← hS0, ← hS1] at hsz
      rw [← hS0] at hr ⊢
      have HS1 := Lib.hid hS1
      have HSZ := Lib.hid hsz
      clear hB2 hB3 hm2 hm3 hP hS0 hS1 hsz
      cases b1 with
      | false =>
        go_wp2_with fail
        go_roundw
        case rel => exact ⟨1, by omega, by rw [← HS1.out, HSZ.out]; simp, by go_num, hM3⟩
        case measure => simp [intOf]
      | true =>
        go_wp2_with fail
        go_roundw
        case rel => exact ⟨1, by omega, by rw [← HS1.out, HSZ.out]; simp, by go_num, hM3⟩
        case measure => simp [intOf]
    · have hx : ∀ w, (Instr.index 101 (.agg #[.bool b1, .int .i64 4, .bool b2, .int .i64 2, .bool b3, .int .i64 8, .bool b4, .int .i64 8]) (.int .i64 1)).run Try.prog w = .ok (.agg #[.bool b2, .int .i64 2]) w := fun _ => by kernel_rfl
      rw [show ((1 : Nat) : Int) = 1 from rfl]
      go_wp2_with (with_reducible refine st_alloc ?_)
      refine StopOp.go rfl fun K hK => ?_
      refine wp_alloc zero_has ?_
      intro p w2 hp1 hp2 hm2 hB2
      simp only [put_some, List.set_cons_succ, List.set_cons_zero]
      refine hK _ _ ?_
      clear hK K
      go_wp2_with (with_reducible refine st_store ?_)
      refine StopOp.go rfl fun K hK => ?_
      refine wp_store (u := .agg #[.bool b2, .int .i64 2]) (by rfl) (by rfl) (by kernel_rfl) hB2 (by simp [Value.cells]) (by simp [Value.cells, Value.oneCell']) ?_
      intro w3 hm3 hB3
      refine hK _ _ ?_
      clear hK K
      have hM3 := hmr.ext (hm2.fresh hm3 (by simpa using hp1))
      have hP : Blk w3 p 100 [.bool b2, .int .i64 2] := hB3
      have q0 := hP.cell' (i := 0) rfl
      have q1 := hP.cell' (i := 1) rfl
      have hsz := szf_step1 b1 b2 b3 b4
      obtain ⟨S0, hS0⟩ : ∃ S, S = szf b1 b2 b3 b4 1 := ⟨_, rfl⟩
      obtain ⟨S1, hS1⟩ : ∃ S, S = szf b1 b2 b3 b4 2 := ⟨_, rfl⟩
      have hr := szf_range b1 b2 b3 b4 1
      rw [← hS0, ← hS1] at hsz
      rw [← hS0] at hr ⊢
      have HS1 := Lib.hid hS1
      have HSZ := Lib.hid hsz
      clear hB2 hB3 hm2 hm3 hP hS0 hS1 hsz
      cases b2 with
      | false =>
        go_wp2_with fail
        go_roundw
        case rel => exact ⟨2, by omega, by rw [← HS1.out, HSZ.out]; simp, by go_num, hM3⟩
        case measure => simp [intOf]
      | true =>
        go_wp2_with fail
        go_roundw
        case rel => exact ⟨2, by omega, by rw [← HS1.out, HSZ.out]; simp, by go_num, hM3⟩
        case measure => simp [intOf]
    · have hx : ∀ w, (Instr.index 101 (.agg #[.bool b1, .int .i64 4, .bool b2, .int .i64 2, .bool b3, .int .i64 8, .bool b4, .int .i64 8]) (.int .i64 2)).run Try.prog w = .ok (.agg #[.bool b3, .int .i64 8]) w := fun _ => by kernel_rfl
      rw [show ((2 : Nat) : Int) = 2 from rfl]
      go_wp2_with (with_reducible refine st_alloc ?_)
      refine StopOp.go rfl fun K hK => ?_
      refine wp_alloc zero_has ?_
      intro p w2 hp1 hp2 hm2 hB2
      simp only [put_some, List.set_cons_succ, List.set_cons_zero]
      refine hK _ _ ?_
      clear hK K
      go_wp2_with (with_reducible refine st_store ?_)
      refine StopOp.go rfl fun K hK => ?_
      refine wp_store (u := .agg #[.bool b3, .int .i64 8]) (by rfl) (by rfl) (by kernel_rfl) hB2 (by simp [Value.cells]) (by simp [Value.cells, Value.oneCell']) ?_
      intro w3 hm3 hB3
      refine hK _ _ ?_
      clear hK K
      have hM3 := hmr.ext (hm2.fresh hm3 (by simpa using hp1))
      have hP : Blk w3 p 100 [.bool b3, .int .i64 8] := hB3
      have q0 := hP.cell' (i := 0) rfl
      have q1 := hP.cell' (i := 1) rfl
      have hsz := szf_step2 b1 b2 b3 b4
      obtain ⟨S0, hS0⟩ : ∃ S, S = szf b1 b2 b3 b4 2 := ⟨_, rfl⟩
      obtain ⟨S1, hS1⟩ : ∃ S, S = szf b1 b2 b3 b4 3 := ⟨_, rfl⟩
      have hr := szf_range b1 b2 b3 b4 2
      rw [← hS0, ← hS1] at hsz
      rw [← hS0] at hr ⊢
      have HS1 := Lib.hid hS1
      have HSZ := Lib.hid hsz
      clear hB2 hB3 hm2 hm3 hP hS0 hS1 hsz
      cases b3 with
      | false =>
        go_wp2_with fail
        go_roundw
        case rel => exact ⟨3, by omega, by rw [← HS1.out, HSZ.out]; simp, by go_num, hM3⟩
        case measure => simp [intOf]
      | true =>
        go_wp2_with fail
        go_roundw
        case rel => exact ⟨3, by omega, by rw [← HS1.out, HSZ.out]; simp, by go_num, hM3⟩
        case measure => simp [intOf]
    · have hx : ∀ w, (Instr.index 101 (.agg #[.bool b1, .int .i64 4, .bool b2, .int .i64 2, .bool b3, .int .i64 8, .bool b4, .int .i64 8]) (.int .i64 3)).run Try.prog w = .ok (.agg #[.bool b4, .int .i64 8]) w := fun _ => by kernel_rfl
      rw [show ((3 : Nat) : Int) = 3 from rfl]
      go_wp2_with (with_reducible refine st_alloc ?_)
      refine StopOp.go rfl fun K hK => ?_
      refine wp_alloc zero_has ?_
      intro p w2 hp1 hp2 hm2 hB2
      simp only [put_some, List.set_cons_succ, List.set_cons_zero]
      refine hK _ _ ?_
      clear hK K
      go_wp2_with (with_reducible refine st_store ?_)
      refine StopOp.go rfl fun K hK => ?_
      refine wp_store (u := .agg #[.bool b4, .int .i64 8]) (by rfl) (by rfl) (by kernel_rfl) hB2 (by simp [Value.cells]) (by simp [Value.cells, Value.oneCell']) ?_
      intro w3 hm3 hB3
      refine hK _ _ ?_
      clear hK K
      have hM3 := hmr.ext (hm2.fresh hm3 (by simpa using hp1))
      have hP : Blk w3 p 100 [.bool b4, .int .i64 8] := hB3
      have q0 := hP.cell' (i := 0) rfl
      have q1 := hP.cell' (i := 1) rfl
      have hsz := szf_step3 b1 b2 b3 b4
      obtain ⟨S0, hS0⟩ : ∃ S, S = szf b1 b2 b3 b4 3 := ⟨_, rfl⟩
      obtain ⟨S1, hS1⟩ : ∃ S, S = szf b1 b2 b3 b4 4 := ⟨_, rfl⟩
      have hr := szf_range b1 b2 b3 b4 3
      rw [← hS0, ← hS1] at hsz
      rw [← hS0] at hr ⊢
      have HS1 := Lib.hid hS1
      have HSZ := Lib.hid hsz
      clear hB2 hB3 hm2 hm3 hP hS0 hS1 hsz
      cases b4 with
      | false =>
        go_wp2_with fail
        go_roundw
        case rel => exact ⟨4, by omega, by rw [← HS1.out, HSZ.out]; simp, by go_num, hM3⟩
        case measure => simp [intOf]
      | true =>
        go_wp2_with fail
        go_roundw
        case rel => exact ⟨4, by omega, by rw [← HS1.out, HSZ.out]; simp, by go_num, hM3⟩
        case measure => simp [intOf]
    · go_wp2_with fail
      go_ret
      exact ⟨rfl, hmr⟩

theorem sizeC_no {k : Int} (h : okC k = false) : sizeC k = 0 := by
  have := of_decide_eq_false h
  unfold sizeC
  rw [if_neg (by omega), if_neg (by omega), if_neg (by omega), if_neg (by omega)]
set_option maxRecDepth 1000000 in
set_option maxHeartbeats 4000000 in
theorem csize_any (k : Int) (w : World) : Calls Try.prog 21 #[.int .i64 k] w fun e w' => e = .returned (.int .i64 (sizeC k)) ∧ Mod [] w w' := by
  have OF := fun w => ofC_any k w
  unfold OfC at OF
  obtain ⟨S, hS⟩ : ∃ S : Int, S = sizeC k := ⟨_, rfl⟩
  rw [← hS]
  have h1 : okC k = true → szf (cI k) (cS k) (cU k) (cC k) 4 = S := fun h => (szf_k k h).trans hS.symm
  have h2 : okC k = false → S = 0 := fun h => by rw [hS, sizeC_no h]; rfl
  have SZ := fun w => size_any (cI k) (cS k) (cU k) (cC k) w
  obtain ⟨f1, hf1⟩ : ∃ b, b = cI k := ⟨_, rfl⟩
  obtain ⟨f2, hf2⟩ : ∃ b, b = cS k := ⟨_, rfl⟩
  obtain ⟨f3, hf3⟩ : ∃ b, b = cU k := ⟨_, rfl⟩
  obtain ⟨f4, hf4⟩ : ∃ b, b = cC k := ⟨_, rfl⟩
  obtain ⟨okb, hok⟩ : ∃ b, b = okC k := ⟨_, rfl⟩
  rw [← hf1, ← hf2, ← hf3, ← hf4] at OF SZ h1
  rw [← hok] at OF h1 h2
  obtain ⟨Z, hZ⟩ : ∃ Z, Z = szf f1 f2 f3 f4 4 := ⟨_, rfl⟩
  rw [← hZ] at SZ h1
  have H1 := Lib.hid h1
  have H2 := Lib.hid h2
  clear hS hf1 hf2 hf3 hf4 hok hZ h1 h2
  go_enter Try.func21, Try.ntmps21
  go_wp2_with (first | (with_reducible refine st_alloc ?_) | (go_at_call 23; (with_reducible refine (OF _).mono ?_); rintro e w1 ⟨rfl, hm1⟩))
  refine StopOp.go rfl fun K hK => ?_
  refine wp_alloc zero_shape ?_
  intro p w2 hp1 hp2 hm2 hB2
  simp only [put_some, List.set_cons_succ, List.set_cons_zero]
  refine hK _ _ ?_
  clear hK K
  go_wp2_with (with_reducible refine st_store ?_)
  refine StopOp.go rfl fun K hK => ?_
  refine wp_store (u := .agg #[.bool f1, .bool f2, .bool f3, .bool f4]) (by rfl) (by rfl) (by kernel_rfl) hB2 (by simp [Value.cells]) (by simp [Value.cells, Value.oneCell']) ?_
  intro w3 hm3 hB3
  refine hK _ _ ?_
  clear hK K
  have hP : Blk w3 p 45 [.bool f1, .bool f2, .bool f3, .bool f4] := hB3
  have hM := hm1.ext (hm2.fresh hm3 (by simpa using hp1))
  have s0 := hP.cell' (i := 0) rfl
  have s1 := hP.cell' (i := 1) rfl
  have s2 := hP.cell' (i := 2) rfl
  have s3 := hP.cell' (i := 3) rfl
  clear hB2 hB3 hm2 hm3 hP
  cases okb with
  | false =>
    obtain rfl : S = 0 := H2.out rfl
    go_wp2_with fail
    go_ret
    exact ⟨rfl, hM⟩
  | true =>
    obtain rfl : Z = S := H1.out rfl
    go_wp2_with (go_at_call 32; (with_reducible refine (SZ _).mono ?_); rintro e w4 ⟨rfl, hm4⟩)
    go_ret
    exact ⟨rfl, hM.ext hm4⟩
end Go.Proofs.Ytkhnemnpadhgoaa
