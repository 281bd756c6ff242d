import Derived.Test.YtfcoaiggpcjldaaRqA
set_option linter.unusedVariables false
set_option linter.unusedSimpArgs false
set_option maxRecDepth 100000
namespace Go.Proofs.Ytfcoaiggpcjldaa
open Go.RowKit Gw

def zeroF (q : Rq) (i : Nat) : Bool := match i with | 0 => ((q.id : Int) == 0) | 1 => (q.seat == 0) | _ => (q.ttl == 0)
def fits (q : Rq) (i : Nat) : Bool := zeroF q i || decide ((i : Int) ∈ has q.kind)
def preB (q : Rq) : Bool := okB q.kind && decide (0 ≤ q.seat ∧ q.seat ≤ 65535 ∧ 0 ≤ q.ttl)
def mayB (q : Rq) : Bool := preB q && fits q 0 && fits q 1 && fits q 2
def chk (q : Rq) : Int := if mayB q = true then 0 else 200
theorem chk_no {q : Rq} (h : mayB q = false) : chk q = 200 := by unfold chk; rw [h]; rfl
theorem fits_no {q : Rq} {i : Nat} (hi : i < 3) (h : fits q i = false) : mayB q = false := by
  unfold mayB
  rcases (show i = 0 ∨ i = 1 ∨ i = 2 by omega) with rfl | rfl | rfl <;> rw [h] <;> simp
theorem contains_val (x : Int) (l : List Int) (b : Bool) (v : Value) (w : World) (hv : Is w v l) (hb : decide (x ∈ l) = b) : Calls Try.prog 30 #[v, .int .i64 x] w fun e w' => e = .returned (.bool b) ∧ w = w' := by
  subst hb
  exact contains_any x l v w hv
theorem zero_field : (Try.prog.info? 53).map (·.zero) = some (some (.agg #[.nilFunc, .nilFunc, .nilFunc])) := by kernel_rfl
/-- the fields that were looked at fit -/
def FitTo (q : Rq) (j : Nat) : Prop := ∀ i, i < j → fits q i = true
theorem FitTo.succ {q : Rq} {j : Nat} (h : FitTo q j) (hj : fits q j = true) : FitTo q (j + 1) := fun i hi => by
  by_cases e : i = j
  · subst e; exact hj
  · exact h i (by omega)

set_option maxRecDepth 1000000 in
set_option maxHeartbeats 16000000 in
theorem check_any (q : Rq) (w : World) (hq : q.ok) : Calls Try.prog 12 #[q.v] w fun e w' => e = .returned (.int .i64 (chk q)) ∧ Mod [] w w' := by
  obtain ⟨C, hC⟩ : ∃ C, C = chk q := ⟨_, rfl⟩
  rw [← hC]
  have HC := Lib.hid hC
  clear hC
  have HF : RowKit.Hid (∀ i, i < 3 → fits q i = false → C = 200) := Lib.hid fun i hi h => by rw [HC.out]; exact chk_no (fits_no hi h)
  have HG : RowKit.Hid (preB q = false → C = 200) := Lib.hid fun h => by rw [HC.out]; refine chk_no ?_; unfold mayB; rw [h]; rfl
  have HT : RowKit.Hid (preB q = true → FitTo q 3 → C = 0) := Lib.hid fun h1 h2 => by
    rw [HC.out]; unfold chk mayB
    rw [h1, h2 0 (by omega), h2 1 (by omega), h2 2 (by omega)]
    rfl
  have HZ : RowKit.Hid (∀ i, i < 3 → fits q i = (zeroF q i || decide ((i : Int) ∈ has q.kind))) := Lib.hid fun _ _ => rfl
  obtain ⟨kind, tag, id, seat, ttl⟩ := q
  obtain ⟨k1, k2, ht, hi, s1, s2, l1, l2⟩ := hq
  dsimp only [Rq.v] at *
  have ht' : (tag : Int) < 4294967296 := by omega
  have hi' : (id : Int) < 4294967296 := by omega
  clear k1 k2 s1 s2 l1 l2 ht hi
  by_cases hk : okB kind = true
  by_cases h1 : 0 ≤ seat
  by_cases h2 : seat ≤ 65535
  by_cases h3 : 0 ≤ ttl
  · have e1 : decide (seat < 0) = false := decide_eq_false (by omega)
    have e2 : decide (65535 < seat) = false := decide_eq_false (by omega)
    have e3 : decide (ttl < 0) = false := decide_eq_false (by omega)
    go_enter Try.func12, Try.ntmps12
    go_wp2_with (with_reducible refine st_box ?_)
    refine StopOp.go rfl fun K hK => ?_
    refine wp_box (v := .agg #[.int .i64 kind, .int .u32 tag, .int .u32 id, .int .i64 seat, .int .i64 ttl]) (by rfl) ?_
    intro g w1 hg1 hg2 hm1 hB1
    simp only [put_some, List.set_cons_succ, List.set_cons_zero]
    refine hK _ _ ?_
    clear hK K
    have hB1' : Blk w1 g 25 [.int .i64 kind, .int .u32 tag, .int .u32 id, .int .i64 seat, .int .i64 ttl] := hB1
    have c0 := hB1'.cell' (i := 0) rfl
    clear hB1
    go_wp2_with (first | (go_at_call 26; refine (fields_any _).mono ?_; rintro e w3 ⟨rfl, hm3⟩) | (go_at_call 25; refine (of_kind kind _).mono ?_; rintro e w2 ⟨v, rfl, hv, hm2⟩; obtain ⟨aov, capv, rfl, _, _⟩ := hv.form; have hB2 := hB1'.ext hm2; have d3 := hB2.cell' (i := 3) rfl; have d4 := hB2.cell' (i := 4) rfl))
    have hM3 := (hm1.ext hm2).ext hm3
    have hB3 := hB2.ext hm3
    have hv3 := hv.ext hm3
    clear hm1 hm2 hm3 hB2 hB1' hv d3 d4 c0
    go_loopw [31] (fun i wr => ∃ j : Nat, j ≤ 3 ∧ i = .int .i64 j ∧ Mod [] w wr ∧ Blk wr g 25 [.int .i64 kind, .int .u32 tag, .int .u32 id, .int .i64 seat, .int .i64 ttl] ∧ Is wr (.slice aov (has kind).length capv) (has kind) ∧ FitTo ⟨kind, tag, id, seat, ttl⟩ j) (fun i _ => 3 - (intOf i).toNat)
    case atStart => exact ⟨0, by omega, rfl, hM3, hB3, hv3, fun i hi => by omega⟩
    case round =>
      obtain ⟨j, hj, rfl, hm, hB, hvr, hfit⟩ := hrel
      have HFit := Lib.hid hfit
      clear hfit
      have a0 := hB.cell' (i := 0) rfl
      rcases (show j = 0 ∨ j = 1 ∨ j = 2 ∨ j = 3 by omega) with rfl | rfl | rfl | rfl
      · have hix : ∀ w, (Instr.index 54 (.agg #[.func (.func 40) #[] #[], .func (.func 41) #[] #[], .func (.func 42) #[] #[], .func (.func 43) #[] #[], .func (.func 45) #[] #[], .func (.func 47) #[] #[], .func (.func 48) #[] #[], .func (.func 50) #[] #[], .func (.func 52) #[] #[]]) (.int .i64 0)).run Try.prog w = .ok (.agg #[.func (.func 40) #[] #[], .func (.func 41) #[] #[], .func (.func 42) #[] #[]]) w := fun _ => by kernel_rfl
        have hzf : zeroF ⟨kind, tag, id, seat, ttl⟩ 0 = ((id : Int) == 0) := rfl
        have HZF := Lib.hid hzf
        clear hzf
        by_cases hz : ((id : Int) == 0) = true
        · have hy : fits ⟨kind, tag, id, seat, ttl⟩ 0 = true := by rw [HZ.out 0 (by omega), HZF.out, hz]; rfl
          have HY := Lib.hid hy
          clear hy
          go_wp2_with (with_reducible refine st_alloc ?_)
          refine StopOp.go rfl fun K hK => ?_
          refine wp_alloc zero_field ?_
          intro p w4 hp1 hp2 hm4 hB4
          simp only [put_some, List.set_cons_succ, List.set_cons_zero]
          refine hK _ _ ?_
          clear hK K
          go_wp2_with (with_reducible refine st_store ?_)
          refine StopOp.go rfl fun K hK => ?_
          refine wp_store (u := .agg #[.func (.func 40) #[] #[], .func (.func 41) #[] #[], .func (.func 42) #[] #[]]) (by rfl) (by rfl) (by kernel_rfl) hB4 (by simp [Value.cells]) (by simp [Value.cells, Value.oneCell']) ?_
          intro w5 hm5 hB5
          refine hK _ _ ?_
          clear hK K
          have hm45 : Mod [] wr w5 := hm4.fresh hm5 (by simpa using hp1)
          have e2 := hB5.cell' (i := 2) rfl
          have hBq := hB.ext hm45
          have b0 := hBq.cell' (i := 0) rfl
          have b1 := hBq.cell' (i := 1) rfl
          have b2 := hBq.cell' (i := 2) rfl
          have b3 := hBq.cell' (i := 3) rfl
          have b4 := hBq.cell' (i := 4) rfl
          have hv5 := hvr.ext hm45
          go_wp2_with (go_at_call 42; refine (zero_id kind seat ttl tag id _).mono ?_; rintro e w6 ⟨rfl, hm6⟩)
          go_roundw
          case rel => exact ⟨1, by omega, rfl, (hm.ext hm45).ext hm6, hBq.ext hm6, hv5.ext hm6, HFit.out.succ HY.out⟩
          case measure => simp [intOf]
        · have hz' : ((id : Int) == 0) = false := by simpa using hz
          clear hz
          have hz := hz'
          clear hz'
          obtain ⟨bb, hbb⟩ : ∃ b, decide ((0 : Int) ∈ has kind) = b := ⟨_, rfl⟩
          have HB := Lib.hid hbb
          clear hbb
          cases bb with
          | true =>
            have hy : fits ⟨kind, tag, id, seat, ttl⟩ 0 = true := by rw [HZ.out 0 (by omega), HZF.out, hz]; exact HB.out
            have HY := Lib.hid hy
            clear hy
            go_wp2_with (with_reducible refine st_alloc ?_)
            refine StopOp.go rfl fun K hK => ?_
            refine wp_alloc zero_field ?_
            intro p w4 hp1 hp2 hm4 hB4
            simp only [put_some, List.set_cons_succ, List.set_cons_zero]
            refine hK _ _ ?_
            clear hK K
            go_wp2_with (with_reducible refine st_store ?_)
            refine StopOp.go rfl fun K hK => ?_
            refine wp_store (u := .agg #[.func (.func 40) #[] #[], .func (.func 41) #[] #[], .func (.func 42) #[] #[]]) (by rfl) (by rfl) (by kernel_rfl) hB4 (by simp [Value.cells]) (by simp [Value.cells, Value.oneCell']) ?_
            intro w5 hm5 hB5
            refine hK _ _ ?_
            clear hK K
            have hm45 : Mod [] wr w5 := hm4.fresh hm5 (by simpa using hp1)
            have e2 := hB5.cell' (i := 2) rfl
            have hBq := hB.ext hm45
            have b0 := hBq.cell' (i := 0) rfl
            have b1 := hBq.cell' (i := 1) rfl
            have b2 := hBq.cell' (i := 2) rfl
            have b3 := hBq.cell' (i := 3) rfl
            have b4 := hBq.cell' (i := 4) rfl
            have hv5 := hvr.ext hm45
            go_wp2_with (first | (go_at_call 42; refine (zero_id kind seat ttl tag id _).mono ?_; rintro e w6 ⟨rfl, hm6⟩) | (go_at_call 30; refine (contains_val 0 (has kind) true _ _ (hv5.ext hm6) HB.out).mono ?_; rintro e w7 ⟨rfl, rfl⟩))
            go_roundw
            case rel => exact ⟨1, by omega, rfl, (hm.ext hm45).ext hm6, hBq.ext hm6, hv5.ext hm6, HFit.out.succ HY.out⟩
            case measure => simp [intOf]
          | false =>
            have hy : fits ⟨kind, tag, id, seat, ttl⟩ 0 = false := by rw [HZ.out 0 (by omega), HZF.out, hz]; exact HB.out
            have HY := Lib.hid hy
            clear hy
            go_wp2_with (with_reducible refine st_alloc ?_)
            refine StopOp.go rfl fun K hK => ?_
            refine wp_alloc zero_field ?_
            intro p w4 hp1 hp2 hm4 hB4
            simp only [put_some, List.set_cons_succ, List.set_cons_zero]
            refine hK _ _ ?_
            clear hK K
            go_wp2_with (with_reducible refine st_store ?_)
            refine StopOp.go rfl fun K hK => ?_
            refine wp_store (u := .agg #[.func (.func 40) #[] #[], .func (.func 41) #[] #[], .func (.func 42) #[] #[]]) (by rfl) (by rfl) (by kernel_rfl) hB4 (by simp [Value.cells]) (by simp [Value.cells, Value.oneCell']) ?_
            intro w5 hm5 hB5
            refine hK _ _ ?_
            clear hK K
            have hm45 : Mod [] wr w5 := hm4.fresh hm5 (by simpa using hp1)
            have e2 := hB5.cell' (i := 2) rfl
            have hBq := hB.ext hm45
            have b0 := hBq.cell' (i := 0) rfl
            have b1 := hBq.cell' (i := 1) rfl
            have b2 := hBq.cell' (i := 2) rfl
            have b3 := hBq.cell' (i := 3) rfl
            have b4 := hBq.cell' (i := 4) rfl
            have hv5 := hvr.ext hm45
            go_wp2_with (first | (go_at_call 42; refine (zero_id kind seat ttl tag id _).mono ?_; rintro e w6 ⟨rfl, hm6⟩) | (go_at_call 30; refine (contains_val 0 (has kind) false _ _ (hv5.ext hm6) HB.out).mono ?_; rintro e w7 ⟨rfl, rfl⟩))
            go_ret
            exact ⟨ret_int (Eq.symm (HF.out 0 (by omega) HY.out)), (hm.ext hm45).ext hm6⟩
      · have hix : ∀ w, (Instr.index 54 (.agg #[.func (.func 40) #[] #[], .func (.func 41) #[] #[], .func (.func 42) #[] #[], .func (.func 43) #[] #[], .func (.func 45) #[] #[], .func (.func 47) #[] #[], .func (.func 48) #[] #[], .func (.func 50) #[] #[], .func (.func 52) #[] #[]]) (.int .i64 1)).run Try.prog w = .ok (.agg #[.func (.func 43) #[] #[], .func (.func 45) #[] #[], .func (.func 47) #[] #[]]) w := fun _ => by kernel_rfl
        have hzf : zeroF ⟨kind, tag, id, seat, ttl⟩ 1 = (seat == 0) := rfl
        have HZF := Lib.hid hzf
        clear hzf
        by_cases hz : (seat == 0) = true
        · have hy : fits ⟨kind, tag, id, seat, ttl⟩ 1 = true := by rw [HZ.out 1 (by omega), HZF.out, hz]; rfl
          have HY := Lib.hid hy
          clear hy
          go_wp2_with (with_reducible refine st_alloc ?_)
          refine StopOp.go rfl fun K hK => ?_
          refine wp_alloc zero_field ?_
          intro p w4 hp1 hp2 hm4 hB4
          simp only [put_some, List.set_cons_succ, List.set_cons_zero]
          refine hK _ _ ?_
          clear hK K
          go_wp2_with (with_reducible refine st_store ?_)
          refine StopOp.go rfl fun K hK => ?_
          refine wp_store (u := .agg #[.func (.func 43) #[] #[], .func (.func 45) #[] #[], .func (.func 47) #[] #[]]) (by rfl) (by rfl) (by kernel_rfl) hB4 (by simp [Value.cells]) (by simp [Value.cells, Value.oneCell']) ?_
          intro w5 hm5 hB5
          refine hK _ _ ?_
          clear hK K
          have hm45 : Mod [] wr w5 := hm4.fresh hm5 (by simpa using hp1)
          have e2 := hB5.cell' (i := 2) rfl
          have hBq := hB.ext hm45
          have b0 := hBq.cell' (i := 0) rfl
          have b1 := hBq.cell' (i := 1) rfl
          have b2 := hBq.cell' (i := 2) rfl
          have b3 := hBq.cell' (i := 3) rfl
          have b4 := hBq.cell' (i := 4) rfl
          have hv5 := hvr.ext hm45
          go_wp2_with (go_at_call 47; refine (zero_seat kind seat ttl tag id _).mono ?_; rintro e w6 ⟨rfl, hm6⟩)
          go_roundw
          case rel => exact ⟨2, by omega, rfl, (hm.ext hm45).ext hm6, hBq.ext hm6, hv5.ext hm6, HFit.out.succ HY.out⟩
          case measure => simp [intOf]
        · have hz' : (seat == 0) = false := by simpa using hz
          clear hz
          have hz := hz'
          clear hz'
          obtain ⟨bb, hbb⟩ : ∃ b, decide ((1 : Int) ∈ has kind) = b := ⟨_, rfl⟩
          have HB := Lib.hid hbb
          clear hbb
          cases bb with
          | true =>
            have hy : fits ⟨kind, tag, id, seat, ttl⟩ 1 = true := by rw [HZ.out 1 (by omega), HZF.out, hz]; exact HB.out
            have HY := Lib.hid hy
            clear hy
            go_wp2_with (with_reducible refine st_alloc ?_)
            refine StopOp.go rfl fun K hK => ?_
            refine wp_alloc zero_field ?_
            intro p w4 hp1 hp2 hm4 hB4
            simp only [put_some, List.set_cons_succ, List.set_cons_zero]
            refine hK _ _ ?_
            clear hK K
            go_wp2_with (with_reducible refine st_store ?_)
            refine StopOp.go rfl fun K hK => ?_
            refine wp_store (u := .agg #[.func (.func 43) #[] #[], .func (.func 45) #[] #[], .func (.func 47) #[] #[]]) (by rfl) (by rfl) (by kernel_rfl) hB4 (by simp [Value.cells]) (by simp [Value.cells, Value.oneCell']) ?_
            intro w5 hm5 hB5
            refine hK _ _ ?_
            clear hK K
            have hm45 : Mod [] wr w5 := hm4.fresh hm5 (by simpa using hp1)
            have e2 := hB5.cell' (i := 2) rfl
            have hBq := hB.ext hm45
            have b0 := hBq.cell' (i := 0) rfl
            have b1 := hBq.cell' (i := 1) rfl
            have b2 := hBq.cell' (i := 2) rfl
            have b3 := hBq.cell' (i := 3) rfl
            have b4 := hBq.cell' (i := 4) rfl
            have hv5 := hvr.ext hm45
            go_wp2_with (first | (go_at_call 47; refine (zero_seat kind seat ttl tag id _).mono ?_; rintro e w6 ⟨rfl, hm6⟩) | (go_at_call 30; refine (contains_val 1 (has kind) true _ _ (hv5.ext hm6) HB.out).mono ?_; rintro e w7 ⟨rfl, rfl⟩))
            go_roundw
            case rel => exact ⟨2, by omega, rfl, (hm.ext hm45).ext hm6, hBq.ext hm6, hv5.ext hm6, HFit.out.succ HY.out⟩
            case measure => simp [intOf]
          | false =>
            have hy : fits ⟨kind, tag, id, seat, ttl⟩ 1 = false := by rw [HZ.out 1 (by omega), HZF.out, hz]; exact HB.out
            have HY := Lib.hid hy
            clear hy
            go_wp2_with (with_reducible refine st_alloc ?_)
            refine StopOp.go rfl fun K hK => ?_
            refine wp_alloc zero_field ?_
            intro p w4 hp1 hp2 hm4 hB4
            simp only [put_some, List.set_cons_succ, List.set_cons_zero]
            refine hK _ _ ?_
            clear hK K
            go_wp2_with (with_reducible refine st_store ?_)
            refine StopOp.go rfl fun K hK => ?_
            refine wp_store (u := .agg #[.func (.func 43) #[] #[], .func (.func 45) #[] #[], .func (.func 47) #[] #[]]) (by rfl) (by rfl) (by kernel_rfl) hB4 (by simp [Value.cells]) (by simp [Value.cells, Value.oneCell']) ?_
            intro w5 hm5 hB5
            refine hK _ _ ?_
            clear hK K
            have hm45 : Mod [] wr w5 := hm4.fresh hm5 (by simpa using hp1)
            have e2 := hB5.cell' (i := 2) rfl
            have hBq := hB.ext hm45
            have b0 := hBq.cell' (i := 0) rfl
            have b1 := hBq.cell' (i := 1) rfl
            have b2 := hBq.cell' (i := 2) rfl
            have b3 := hBq.cell' (i := 3) rfl
            have b4 := hBq.cell' (i := 4) rfl
            have hv5 := hvr.ext hm45
            go_wp2_with (first | (go_at_call 47; refine (zero_seat kind seat ttl tag id _).mono ?_; rintro e w6 ⟨rfl, hm6⟩) | (go_at_call 30; refine (contains_val 1 (has kind) false _ _ (hv5.ext hm6) HB.out).mono ?_; rintro e w7 ⟨rfl, rfl⟩))
            go_ret
            exact ⟨ret_int (Eq.symm (HF.out 1 (by omega) HY.out)), (hm.ext hm45).ext hm6⟩
      · have hix : ∀ w, (Instr.index 54 (.agg #[.func (.func 40) #[] #[], .func (.func 41) #[] #[], .func (.func 42) #[] #[], .func (.func 43) #[] #[], .func (.func 45) #[] #[], .func (.func 47) #[] #[], .func (.func 48) #[] #[], .func (.func 50) #[] #[], .func (.func 52) #[] #[]]) (.int .i64 2)).run Try.prog w = .ok (.agg #[.func (.func 48) #[] #[], .func (.func 50) #[] #[], .func (.func 52) #[] #[]]) w := fun _ => by kernel_rfl
        have hzf : zeroF ⟨kind, tag, id, seat, ttl⟩ 2 = (ttl == 0) := rfl
        have HZF := Lib.hid hzf
        clear hzf
        by_cases hz : (ttl == 0) = true
        · have hy : fits ⟨kind, tag, id, seat, ttl⟩ 2 = true := by rw [HZ.out 2 (by omega), HZF.out, hz]; rfl
          have HY := Lib.hid hy
          clear hy
          go_wp2_with (with_reducible refine st_alloc ?_)
          refine StopOp.go rfl fun K hK => ?_
          refine wp_alloc zero_field ?_
          intro p w4 hp1 hp2 hm4 hB4
          simp only [put_some, List.set_cons_succ, List.set_cons_zero]
          refine hK _ _ ?_
          clear hK K
          go_wp2_with (with_reducible refine st_store ?_)
          refine StopOp.go rfl fun K hK => ?_
          refine wp_store (u := .agg #[.func (.func 48) #[] #[], .func (.func 50) #[] #[], .func (.func 52) #[] #[]]) (by rfl) (by rfl) (by kernel_rfl) hB4 (by simp [Value.cells]) (by simp [Value.cells, Value.oneCell']) ?_
          intro w5 hm5 hB5
          refine hK _ _ ?_
          clear hK K
          have hm45 : Mod [] wr w5 := hm4.fresh hm5 (by simpa using hp1)
          have e2 := hB5.cell' (i := 2) rfl
          have hBq := hB.ext hm45
          have b0 := hBq.cell' (i := 0) rfl
          have b1 := hBq.cell' (i := 1) rfl
          have b2 := hBq.cell' (i := 2) rfl
          have b3 := hBq.cell' (i := 3) rfl
          have b4 := hBq.cell' (i := 4) rfl
          have hv5 := hvr.ext hm45
          go_wp2_with (go_at_call 52; refine (zero_ttl kind seat ttl tag id _).mono ?_; rintro e w6 ⟨rfl, hm6⟩)
          go_roundw
          case rel => exact ⟨3, by omega, rfl, (hm.ext hm45).ext hm6, hBq.ext hm6, hv5.ext hm6, HFit.out.succ HY.out⟩
          case measure => simp [intOf]
        · have hz' : (ttl == 0) = false := by simpa using hz
          clear hz
          have hz := hz'
          clear hz'
          obtain ⟨bb, hbb⟩ : ∃ b, decide ((2 : Int) ∈ has kind) = b := ⟨_, rfl⟩
          have HB := Lib.hid hbb
          clear hbb
          cases bb with
          | true =>
            have hy : fits ⟨kind, tag, id, seat, ttl⟩ 2 = true := by rw [HZ.out 2 (by omega), HZF.out, hz]; exact HB.out
            have HY := Lib.hid hy
            clear hy
            go_wp2_with (with_reducible refine st_alloc ?_)
            refine StopOp.go rfl fun K hK => ?_
            refine wp_alloc zero_field ?_
            intro p w4 hp1 hp2 hm4 hB4
            simp only [put_some, List.set_cons_succ, List.set_cons_zero]
            refine hK _ _ ?_
            clear hK K
            go_wp2_with (with_reducible refine st_store ?_)
            refine StopOp.go rfl fun K hK => ?_
            refine wp_store (u := .agg #[.func (.func 48) #[] #[], .func (.func 50) #[] #[], .func (.func 52) #[] #[]]) (by rfl) (by rfl) (by kernel_rfl) hB4 (by simp [Value.cells]) (by simp [Value.cells, Value.oneCell']) ?_
            intro w5 hm5 hB5
            refine hK _ _ ?_
            clear hK K
            have hm45 : Mod [] wr w5 := hm4.fresh hm5 (by simpa using hp1)
            have e2 := hB5.cell' (i := 2) rfl
            have hBq := hB.ext hm45
            have b0 := hBq.cell' (i := 0) rfl
            have b1 := hBq.cell' (i := 1) rfl
            have b2 := hBq.cell' (i := 2) rfl
            have b3 := hBq.cell' (i := 3) rfl
            have b4 := hBq.cell' (i := 4) rfl
            have hv5 := hvr.ext hm45
            go_wp2_with (first | (go_at_call 52; refine (zero_ttl kind seat ttl tag id _).mono ?_; rintro e w6 ⟨rfl, hm6⟩) | (go_at_call 30; refine (contains_val 2 (has kind) true _ _ (hv5.ext hm6) HB.out).mono ?_; rintro e w7 ⟨rfl, rfl⟩))
            go_roundw
            case rel => exact ⟨3, by omega, rfl, (hm.ext hm45).ext hm6, hBq.ext hm6, hv5.ext hm6, HFit.out.succ HY.out⟩
            case measure => simp [intOf]
          | false =>
            have hy : fits ⟨kind, tag, id, seat, ttl⟩ 2 = false := by rw [HZ.out 2 (by omega), HZF.out, hz]; exact HB.out
            have HY := Lib.hid hy
            clear hy
            go_wp2_with (with_reducible refine st_alloc ?_)
            refine StopOp.go rfl fun K hK => ?_
            refine wp_alloc zero_field ?_
            intro p w4 hp1 hp2 hm4 hB4
            simp only [put_some, List.set_cons_succ, List.set_cons_zero]
            refine hK _ _ ?_
            clear hK K
            go_wp2_with (with_reducible refine st_store ?_)
            refine StopOp.go rfl fun K hK => ?_
            refine wp_store (u := .agg #[.func (.func 48) #[] #[], .func (.func 50) #[] #[], .func (.func 52) #[] #[]]) (by rfl) (by rfl) (by kernel_rfl) hB4 (by simp [Value.cells]) (by simp [Value.cells, Value.oneCell']) ?_
            intro w5 hm5 hB5
            refine hK _ _ ?_
            clear hK K
            have hm45 : Mod [] wr w5 := hm4.fresh hm5 (by simpa using hp1)
            have e2 := hB5.cell' (i := 2) rfl
            have hBq := hB.ext hm45
            have b0 := hBq.cell' (i := 0) rfl
            have b1 := hBq.cell' (i := 1) rfl
            have b2 := hBq.cell' (i := 2) rfl
            have b3 := hBq.cell' (i := 3) rfl
            have b4 := hBq.cell' (i := 4) rfl
            have hv5 := hvr.ext hm45
            go_wp2_with (first | (go_at_call 52; refine (zero_ttl kind seat ttl tag id _).mono ?_; rintro e w6 ⟨rfl, hm6⟩) | (go_at_call 30; refine (contains_val 2 (has kind) false _ _ (hv5.ext hm6) HB.out).mono ?_; rintro e w7 ⟨rfl, rfl⟩))
            go_ret
            exact ⟨ret_int (Eq.symm (HF.out 2 (by omega) HY.out)), (hm.ext hm45).ext hm6⟩
      · go_wp2_with fail
        go_ret
        exact ⟨ret_int (Eq.symm (HT.out (by unfold preB; simp [hk, h1, h2, h3]) HFit.out)), hm⟩
  · have h3' : decide (ttl < 0) = true := decide_eq_true (by omega)
    go_enter Try.func12, Try.ntmps12
    go_wp2_with (with_reducible refine st_box ?_)
    refine StopOp.go rfl fun K hK => ?_
    refine wp_box (v := .agg #[.int .i64 kind, .int .u32 tag, .int .u32 id, .int .i64 seat, .int .i64 ttl]) (by rfl) ?_
    intro g w1 hg1 hg2 hm1 hB1
    simp only [put_some, List.set_cons_succ, List.set_cons_zero]
    refine hK _ _ ?_
    clear hK K
    have hB1' : Blk w1 g 25 [.int .i64 kind, .int .u32 tag, .int .u32 id, .int .i64 seat, .int .i64 ttl] := hB1
    have c0 := hB1'.cell' (i := 0) rfl
    clear hB1
    go_wp2_with (go_at_call 25; refine (of_kind kind _).mono ?_; rintro e w2 ⟨v, rfl, hv, hm2⟩; obtain ⟨aov, capv, rfl, _, _⟩ := hv.form; have hB2 := hB1'.ext hm2; have d3 := hB2.cell' (i := 3) rfl; have d4 := hB2.cell' (i := 4) rfl)
    go_ret
    exact ⟨ret_int (Eq.symm (HG.out (by unfold preB; rw [Bool.and_eq_false_iff]; right; exact decide_eq_false (by dsimp only; omega)))), hm1.ext hm2⟩
  · have h2' : decide (65535 < seat) = true := decide_eq_true (by omega)
    go_enter Try.func12, Try.ntmps12
    go_wp2_with (with_reducible refine st_box ?_)
    refine StopOp.go rfl fun K hK => ?_
    refine wp_box (v := .agg #[.int .i64 kind, .int .u32 tag, .int .u32 id, .int .i64 seat, .int .i64 ttl]) (by rfl) ?_
    intro g w1 hg1 hg2 hm1 hB1
    simp only [put_some, List.set_cons_succ, List.set_cons_zero]
    refine hK _ _ ?_
    clear hK K
    have hB1' : Blk w1 g 25 [.int .i64 kind, .int .u32 tag, .int .u32 id, .int .i64 seat, .int .i64 ttl] := hB1
    have c0 := hB1'.cell' (i := 0) rfl
    clear hB1
    go_wp2_with (go_at_call 25; refine (of_kind kind _).mono ?_; rintro e w2 ⟨v, rfl, hv, hm2⟩; obtain ⟨aov, capv, rfl, _, _⟩ := hv.form; have hB2 := hB1'.ext hm2; have d3 := hB2.cell' (i := 3) rfl; have d4 := hB2.cell' (i := 4) rfl)
    go_ret
    exact ⟨ret_int (Eq.symm (HG.out (by unfold preB; rw [Bool.and_eq_false_iff]; right; exact decide_eq_false (by dsimp only; omega)))), hm1.ext hm2⟩
  · have h1' : decide (seat < 0) = true := decide_eq_true (by omega)
    go_enter Try.func12, Try.ntmps12
    go_wp2_with (with_reducible refine st_box ?_)
    refine StopOp.go rfl fun K hK => ?_
    refine wp_box (v := .agg #[.int .i64 kind, .int .u32 tag, .int .u32 id, .int .i64 seat, .int .i64 ttl]) (by rfl) ?_
    intro g w1 hg1 hg2 hm1 hB1
    simp only [put_some, List.set_cons_succ, List.set_cons_zero]
    refine hK _ _ ?_
    clear hK K
    have hB1' : Blk w1 g 25 [.int .i64 kind, .int .u32 tag, .int .u32 id, .int .i64 seat, .int .i64 ttl] := hB1
    have c0 := hB1'.cell' (i := 0) rfl
    clear hB1
    go_wp2_with (go_at_call 25; refine (of_kind kind _).mono ?_; rintro e w2 ⟨v, rfl, hv, hm2⟩; obtain ⟨aov, capv, rfl, _, _⟩ := hv.form; have hB2 := hB1'.ext hm2; have d3 := hB2.cell' (i := 3) rfl; have d4 := hB2.cell' (i := 4) rfl)
    go_ret
    exact ⟨ret_int (Eq.symm (HG.out (by unfold preB; rw [Bool.and_eq_false_iff]; right; exact decide_eq_false (by dsimp only; omega)))), hm1.ext hm2⟩
  · have hk : okB kind = false := by simpa using hk
    go_enter Try.func12, Try.ntmps12
    go_wp2_with (with_reducible refine st_box ?_)
    refine StopOp.go rfl fun K hK => ?_
    refine wp_box (v := .agg #[.int .i64 kind, .int .u32 tag, .int .u32 id, .int .i64 seat, .int .i64 ttl]) (by rfl) ?_
    intro g w1 hg1 hg2 hm1 hB1
    simp only [put_some, List.set_cons_succ, List.set_cons_zero]
    refine hK _ _ ?_
    clear hK K
    have hB1' : Blk w1 g 25 [.int .i64 kind, .int .u32 tag, .int .u32 id, .int .i64 seat, .int .i64 ttl] := hB1
    have c0 := hB1'.cell' (i := 0) rfl
    clear hB1
    go_wp2_with (go_at_call 25; refine (of_kind kind _).mono ?_; rintro e w2 ⟨v, rfl, hv, hm2⟩; obtain ⟨aov, capv, rfl, _, _⟩ := hv.form; have hB2 := hB1'.ext hm2; have d3 := hB2.cell' (i := 3) rfl; have d4 := hB2.cell' (i := 4) rfl)
    go_ret
    exact ⟨ret_int (Eq.symm (HG.out (by unfold preB; rw [hk]; rfl))), hm1.ext hm2⟩
end Go.Proofs.Ytfcoaiggpcjldaa
