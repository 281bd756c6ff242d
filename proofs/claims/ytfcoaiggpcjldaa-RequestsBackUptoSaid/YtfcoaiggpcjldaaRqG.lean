import Derived.Test.YtfcoaiggpcjldaaRqF
set_option linter.unusedVariables false
set_option linter.unusedSimpArgs false
set_option maxRecDepth 100000
namespace Go.Proofs.Ytfcoaiggpcjldaa
open Go.RowKit Gw

def aw : Rq := ⟨1, 1, 0, 2, 300⟩
def awB : List UInt8 := [1, 1, 0, 0, 0, 2, 0, 44, 1, 0, 0, 0, 0, 0, 0]
theorem aw_ok : aw.ok := ⟨by decide, by decide, by decide, by decide, by decide, by decide, by decide, by decide⟩
theorem aw_may : mayB aw = true := by decide
theorem aw_bytes : bytesOf aw = awB := by decide
theorem aw_get : getOk awB = true := by kernel_rfl
theorem aw_q : (getS awB).q = aw := by kernel_rfl
theorem aw_bad : getOk [10, 0, 0, 0] = false := by kernel_rfl
/-- an operation that its guard lets through -/
theorem StopOp.gw {P : Program} {ops : Array Oper} {Q : Exit → Act → World → Prop} {rest : List Oper} {a : Act} {w : World} {o : Oper} (hw : Region.wanted o (yielded ops a.tmps) = true) (h : ∀ K : Act → World → Prop, (∀ a w, wpList P ops Q rest a w → K a w) → o.wp P a w K Q) : StopOp P ops Q (o :: rest) a w :=
  wpList_step fun K hK => by rw [if_pos hw]; exact h K hK
theorem aw_put (w : World) : Calls Try.prog 9 #[.agg #[.int .i64 1, .int .u32 1, .int .u32 0, .int .i64 2, .int .i64 300]] w fun e w' => ∃ v, e = .returned (.tuple #[v, .int .i64 0]) ∧ Ob w' v awB ∧ Mod [] w w' :=
  (putq_any aw w aw_ok).mono fun e w' ⟨v, h1, h2, _, h4⟩ => by
    rw [aw_may, if_pos rfl, aw_bytes] at h2
    exact ⟨v, by rw [h1]; rfl, h2, h4⟩
theorem aw_get1 (v : Value) (w : World) (hv : Bs w v awB) : Calls Try.prog 17 #[v] w fun e w' => e = .returned (.tuple #[.agg #[.int .i64 1, .int .u32 1, .int .u32 0, .int .i64 2, .int .i64 300], .int .i64 0]) ∧ Mod [] w w' :=
  (getq_any awB v w hv (by decide)).mono fun e w' ⟨h1, h2⟩ => ⟨by rw [h1, aw_get, aw_q]; rfl, h2⟩
theorem aw_get2 (v : Value) (w : World) (hv : Bs w v [10, 0, 0, 0]) : Calls Try.prog 17 #[v] w fun e w' => e = .returned (.tuple #[.agg #[.int .i64 0, .int .u32 0, .int .u32 0, .int .i64 0, .int .i64 0], .int .i64 200]) ∧ Mod [] w w' :=
  (getq_any [10, 0, 0, 0] v w hv (by decide)).mono fun e w' ⟨h1, h2⟩ => ⟨by rw [h1, aw_bad]; rfl, h2⟩
theorem changes_val (k : Int) (b : Bool) (w : World) (h : chg k = b) : Calls Try.prog 14 #[.int .i64 k] w fun e w' => e = .returned (.bool b) ∧ w = w' := by
  subst h
  exact changes_any k w

set_option maxRecDepth 1000000 in
set_option maxHeartbeats 8000000 in
theorem rqawake_any (w : World) : Calls Try.prog 8 #[] w fun e w' => e = .returned (.bool true) ∧ Mod [] w w' := by
  have hcmp : ∀ w, (binOp .eql 25 (.agg #[.int .i64 1, .int .u32 1, .int .u32 0, .int .i64 2, .int .i64 300]) (.agg #[.int .i64 1, .int .u32 1, .int .u32 0, .int .i64 2, .int .i64 300])).run Try.prog w = .ok (.bool true) w := fun _ => by kernel_rfl
  go_enter Try.func8, Try.ntmps8
  go_wp2_with (with_reducible refine st_alloc ?_)
  refine StopOp.go rfl fun K hK => ?_
  refine wp_alloc zero_req ?_
  intro g1 w1 h11 h12 hm1 hB1
  simp only [put_some, List.set_cons_succ, List.set_cons_zero]
  refine hK _ _ ?_
  clear hK K
  go_wp2_with (with_reducible refine st_store ?_)
  refine StopOp.go rfl fun K hK => ?_
  refine wp_store (u := .agg #[.int .i64 1, .int .u32 1, .int .u32 0, .int .i64 2, .int .i64 300]) (by rfl) (by rfl) (by kernel_rfl) hB1 (by simp [Value.cells]) (by simp [Value.cells, Value.oneCell']) ?_
  intro w2 hm2 hB2
  refine hK _ _ ?_
  clear hK K
  have hB2' : Blk w2 g1 25 [.int .i64 1, .int .u32 1, .int .u32 0, .int .i64 2, .int .i64 300] := hB2
  have hM2 : Mod [] w w2 := hm1.fresh hm2 (by simpa using h11)
  have a0 := hB2'.cell' (i := 0) rfl
  have a1 := hB2'.cell' (i := 1) rfl
  have a2 := hB2'.cell' (i := 2) rfl
  have a3 := hB2'.cell' (i := 3) rfl
  have a4 := hB2'.cell' (i := 4) rfl
  clear hB1 hB2 hm1 hm2
  go_wp2_with (first | (with_reducible refine st_alloc ?_) | (go_at_call 9; refine (aw_put _).mono ?_; rintro e w3 ⟨v3, rfl, ho3, hm3⟩; obtain ⟨ao3, cap3, rfl, _, _⟩ := ho3.bs.form) | (go_at_call 17; refine (aw_get1 _ _ ho3.bs).mono ?_; rintro e w4 ⟨rfl, hm4⟩))
  refine StopOp.go rfl fun K hK => ?_
  refine wp_alloc zero_req ?_
  intro g5 w5 h51 h52 hm5 hB5
  simp only [put_some, List.set_cons_succ, List.set_cons_zero]
  refine hK _ _ ?_
  clear hK K
  go_wp2_with (with_reducible refine st_store ?_)
  refine StopOp.go rfl fun K hK => ?_
  refine wp_store (u := .agg #[.int .i64 1, .int .u32 1, .int .u32 0, .int .i64 2, .int .i64 300]) (by rfl) (by rfl) (by kernel_rfl) hB5 (by simp [Value.cells]) (by simp [Value.cells, Value.oneCell']) ?_
  intro w6 hm6 hB6
  refine hK _ _ ?_
  clear hK K
  have hB6' : Blk w6 g5 25 [.int .i64 1, .int .u32 1, .int .u32 0, .int .i64 2, .int .i64 300] := hB6
  have hm46 : Mod [] w4 w6 := hm5.fresh hm6 (by simpa using h51)
  have hm26 : Mod [] w2 w6 := (hm3.ext hm4).ext hm46
  have ho6 := (ho3.ext hm4).ext hm46
  clear hB5 hB6 hm5 hm6 a0 a1 a2 a3 a4
  go_wp2_with (with_reducible refine st_bslice ?_)
  refine StopOp.go rfl fun K hK => ?_
  refine wp_bslice stB [.int .u8 10, .int .u8 0, .int .u8 0, .int .u8 0] rfl (by decide) (by rfl) (by simp [Value.cells]) ?_
  intro p7 w7 h71 h72 hm7 hB7
  simp only [put_some, List.set_cons_succ, List.set_cons_zero]
  refine hK _ _ ?_
  clear hK K
  have hb7 : Bs w7 (.slice (some ⟨p7, 0, none⟩) 4 4) [10, 0, 0, 0] := Bs.of_blk (l := [10, 0, 0, 0]) (rest := []) hB7 (by simp) (by omega)
  go_wp2_with (first | (with_reducible refine st_alloc ?_) | (go_at_call 17; refine (aw_get2 _ _ hb7).mono ?_; rintro e w8 ⟨rfl, hm8⟩))
  refine StopOp.go rfl fun K hK => ?_
  refine wp_alloc zero_req ?_
  intro g9 w9 h91 h92 hm9 hB9
  simp only [put_some, List.set_cons_succ, List.set_cons_zero]
  refine hK _ _ ?_
  clear hK K
  go_wp2_with (with_reducible refine st_store ?_)
  refine StopOp.go rfl fun K hK => ?_
  refine wp_store (u := .agg #[.int .i64 0, .int .u32 0, .int .u32 0, .int .i64 0, .int .i64 0]) (by rfl) (by rfl) (by kernel_rfl) hB9 (by simp [Value.cells]) (by simp [Value.cells, Value.oneCell']) ?_
  intro w10 hm10 hB10
  refine hK _ _ ?_
  clear hK K
  have hm610 : Mod [] w6 w10 := (hm7.ext hm8).ext (hm9.fresh hm10 (by simpa using h91))
  have hBa := hB2'.ext (hm26.ext hm610)
  have hBp := hB6'.ext hm610
  have a0 := hBa.cell' (i := 0) rfl
  have a1 := hBa.cell' (i := 1) rfl
  have a2 := hBa.cell' (i := 2) rfl
  have a3 := hBa.cell' (i := 3) rfl
  have a4 := hBa.cell' (i := 4) rfl
  have p0 := hBp.cell' (i := 0) rfl
  have p1 := hBp.cell' (i := 1) rfl
  have p2 := hBp.cell' (i := 2) rfl
  have p3 := hBp.cell' (i := 3) rfl
  have p4 := hBp.cell' (i := 4) rfl
  have ho10 := ho6.ext hm610
  have hM10 := (hM2.ext hm26).ext hm610
  clear hB9 hB10 hm9 hm10 hB7 hb7 ho6 hB6' hB2' ho3 hm3 hm4 hm46
  go_wp2_with (with_reducible refine st_bslice ?_)
  refine StopOp.gw rfl fun K hK => ?_
  refine wp_bslice stB (bv awB) rfl (by decide) (by rfl) (by simp [bv, awB, Value.cells]) ?_
  intro p11 w11 h111 h112 hm11 hB11
  simp only [put_some, List.set_cons_succ, List.set_cons_zero]
  refine hK _ _ ?_
  clear hK K
  have hb11 : Bs w11 (.slice (some ⟨p11, 0, none⟩) 15 15) awB := Bs.of_blk (l := awB) (rest := []) hB11 (by decide) (by omega)
  have ho11 := ho10.ext hm11
  go_wp2_with (first | (go_at_call 11; refine (same_yes awB awB _ _ _ ho11.bs hb11 rfl).mono ?_; rintro e w12 ⟨rfl, hm12⟩) | (go_at_call 14; first | ((with_reducible refine (changes_val 7 true _ (by decide)).mono ?_); rintro e w13 ⟨rfl, rfl⟩) | ((with_reducible refine (changes_val 6 false _ (by decide)).mono ?_); rintro e w13 ⟨rfl, rfl⟩)))
  go_ret
  exact ⟨rfl, (hM10.ext hm11).ext hm12⟩

/-- how many kinds below change something -/
def cnt (k : Int) : Int := if k ≤ 1 then 0 else if k ≤ 5 then k - 1 else if k ≤ 7 then 4 else 5
theorem chk_kind (k : Int) : chk ⟨k, 7, 0, 0, 0⟩ = if okB k = true then 0 else 200 := by
  have h : mayB ⟨k, 7, 0, 0, 0⟩ = okB k := by
    unfold mayB preB
    simp [fits, zeroF]
  unfold chk
  rw [h]
set_option maxRecDepth 1000000 in
set_option maxHeartbeats 8000000 in
theorem requestsKinds_core (w : World) : Calls Try.prog 7 #[] w fun e w' => e = .returned (.bool true) ∧ Mod [] w w' := by
  go_enter Try.func7, Try.ntmps7
  go_wp2_with (go_at_call 8; refine (rqawake_any _).mono ?_; rintro e w1 ⟨rfl, hm1⟩)
  go_loopw [1, 2] (fun n i wr => ∃ k : Int, -3 ≤ k ∧ k ≤ 300 ∧ i = .int .i64 k ∧ n = .int .i64 (cnt k) ∧ Mod [] w wr) (fun _ i _ => (300 - intOf i).toNat)
  case atStart => exact ⟨-3, by omega, by omega, rfl, rfl, hm1⟩
  case round =>
    obtain ⟨k, hk1, hk2, rfl, rfl, hmr⟩ := hrel
    by_cases hlt : k < 300
    · have elt : decide (k < 300) = true := decide_eq_true hlt
      have C : ∀ w, Calls Try.prog 12 #[.agg #[.int .i64 k, .int .u32 7, .int .u32 0, .int .i64 0, .int .i64 0]] w fun e w' => e = .returned (.int .i64 (if okB k = true then 0 else 200)) ∧ Mod [] w w' := fun w => by
        have := check_any ⟨k, 7, 0, 0, 0⟩ w ⟨by dsimp only; omega, by dsimp only; omega, by dsimp only; omega, by dsimp only; omega, by dsimp only; omega, by dsimp only; omega, by dsimp only; omega, by dsimp only; omega⟩
        rw [chk_kind] at this
        exact this
      have hc0 : 0 ≤ cnt k ∧ cnt k ≤ 5 := by unfold cnt; repeat' split
                                             all_goals omega
      obtain ⟨hc1, hc2⟩ := hc0
      by_cases hA : 1 ≤ k ∧ k ≤ 4 ∨ k = 7
      · have hg : chg k = true := decide_eq_true hA
        have ho : okB k = true := decide_eq_true (by omega)
        have hcn : cnt (k + 1) = cnt k + 1 := by unfold cnt; repeat' split
                                                 all_goals omega
        have HCN := Lib.hid hcn
        have V := fun w => changes_val k true w hg
        rw [ho, if_pos rfl] at C
        have e1 : decide (1 ≤ k) = true := decide_eq_true (by omega)
        have e2 : decide (k ≤ 10) = true := decide_eq_true (by omega)
        clear hg ho hcn hA
        go_wp2_with (first | (go_at_call 14; (with_reducible refine (V _).mono ?_); rintro e w2 ⟨rfl, rfl⟩) | (go_at_call 12; (with_reducible refine (C _).mono ?_); rintro e w3 ⟨rfl, hm3⟩))
        go_roundw
        case rel => exact ⟨k + 1, by omega, by omega, rfl, by rw [HCN.out], hmr.ext hm3⟩
        case measure => simp [intOf]; omega
      · have hg : chg k = false := decide_eq_false hA
        have hcn : cnt (k + 1) = cnt k := by unfold cnt; repeat' split
                                             all_goals omega
        have HCN := Lib.hid hcn
        have V := fun w => changes_val k false w hg
        by_cases h1 : 1 ≤ k
        · have e1 : decide (1 ≤ k) = true := decide_eq_true h1
          by_cases h2 : k ≤ 10
          · have e2 : decide (k ≤ 10) = true := decide_eq_true h2
            have ho : okB k = true := decide_eq_true ⟨h1, h2⟩
            rw [ho, if_pos rfl] at C
            clear hg ho hcn hA
            go_wp2_with (first | (go_at_call 14; (with_reducible refine (V _).mono ?_); rintro e w2 ⟨rfl, rfl⟩) | (go_at_call 12; (with_reducible refine (C _).mono ?_); rintro e w3 ⟨rfl, hm3⟩))
            go_roundw
            case rel => exact ⟨k + 1, by omega, by omega, rfl, by rw [HCN.out], hmr.ext hm3⟩
            case measure => simp [intOf]; omega
          · have e2 : decide (k ≤ 10) = false := decide_eq_false h2
            have ho : okB k = false := decide_eq_false (by omega)
            rw [ho, if_neg (by simp)] at C
            clear hg ho hcn hA
            go_wp2_with (first | (go_at_call 14; (with_reducible refine (V _).mono ?_); rintro e w2 ⟨rfl, rfl⟩) | (go_at_call 12; (with_reducible refine (C _).mono ?_); rintro e w3 ⟨rfl, hm3⟩))
            go_roundw
            case rel => exact ⟨k + 1, by omega, by omega, rfl, by rw [HCN.out], hmr.ext hm3⟩
            case measure => simp [intOf]; omega
        · have e1 : decide (1 ≤ k) = false := decide_eq_false h1
          have ho : okB k = false := decide_eq_false (by omega)
          rw [ho, if_neg (by simp)] at C
          clear hg ho hcn hA
          go_wp2_with (first | (go_at_call 14; (with_reducible refine (V _).mono ?_); rintro e w2 ⟨rfl, rfl⟩) | (go_at_call 12; (with_reducible refine (C _).mono ?_); rintro e w3 ⟨rfl, hm3⟩))
          go_roundw
          case rel => exact ⟨k + 1, by omega, by omega, rfl, by rw [HCN.out], hmr.ext hm3⟩
          case measure => simp [intOf]; omega
    · obtain rfl : k = 300 := by omega
      have hcn : cnt 300 = 5 := by decide
      rw [hcn]
      clear hcn
      go_wp2_with (go_at_call 14; first | ((with_reducible refine (changes_val 1 true _ (by decide)).mono ?_); rintro e w13 ⟨rfl, rfl⟩) | ((with_reducible refine (changes_val 2 true _ (by decide)).mono ?_); rintro e w13 ⟨rfl, rfl⟩) | ((with_reducible refine (changes_val 3 true _ (by decide)).mono ?_); rintro e w13 ⟨rfl, rfl⟩) | ((with_reducible refine (changes_val 4 true _ (by decide)).mono ?_); rintro e w13 ⟨rfl, rfl⟩) | ((with_reducible refine (changes_val 7 true _ (by decide)).mono ?_); rintro e w13 ⟨rfl, rfl⟩))
      go_ret
      exact ⟨rfl, hmr⟩
end Go.Proofs.Ytfcoaiggpcjldaa
