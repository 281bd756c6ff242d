import Derived.Test.YtfcoaiggpcjldaaDoorRpA
import Derived.Deep.DeepCutAuto
/-! Replies: Check. -/
set_option linter.unusedVariables false
set_option linter.unusedSimpArgs false
set_option maxRecDepth 100000
namespace Go.Proofs.YtfcoaiggpcjldaaDoor
open Go.RowKit Gw

def cellsR (r : Rp) : List Value := [.int .u32 r.tag, .int .i64 r.kind, .int .i64 r.err, .int .u32 r.id, .int .i64 r.seat, .int .i64 r.till, .int .i64 r.count]
/-- may a reply be? -/
def MayR (r : Rp) : Prop := (0 ≤ r.kind ∧ r.kind ≤ 10 ∧ 0 ≤ r.err ∧ r.err ≤ 65535) ∧ (r.kind = 0 → r.tag = 0 ∧ r.err = 200) ∧ (r.id = 0 ∨ hI r.kind r.err = true) ∧ (r.till = 0 ∨ hU r.kind r.err = true) ∧ 0 ≤ r.till ∧ (r.seat = 0 ∨ hS r.kind r.err = true ∧ 0 < r.seat ∧ r.seat ≤ 65535) ∧ (r.count = 0 ∨ hC r.kind r.err = true ∧ 0 < r.count ∧ r.count ≤ 65535)
instance (r : Rp) : Decidable (MayR r) := by unfold MayR; infer_instance
def mayR (r : Rp) : Bool := decide (MayR r)
def chkR (r : Rp) : Int := if mayR r = true then 0 else 210
theorem chkR_no {r : Rp} (h : ¬ MayR r) : chkR r = 210 := by unfold chkR mayR; rw [decide_eq_false h]; rfl
theorem chkR_yes {r : Rp} (h : MayR r) : chkR r = 0 := by unfold chkR mayR; rw [decide_eq_true h]; rfl
theorem zero_int : (Tryd.prog.info? 3).map (·.zero) = some (some (.int .i64 0)) := by kernel_rfl

set_option maxHeartbeats 1000000 in
theorem in_any (n F m : Int) (bt : Bool) (p : Nat) (i : Bool) (w : World) (hq : w.cell? ⟨p, 0, none⟩ = some (.int .i64 F)) (hx : bits .and .i64 F m = if bt = true then m else 0) (hm : m ≠ 0) (hi : i = decide (n = 0 ∨ bt = true ∧ 0 < n ∧ n ≤ 65535)) :
    Calls Tryd.prog 29 #[.int .i64 n, .int .i64 m, .pointer (some ⟨p, 0, none⟩)] w fun e w' => e = .returned (.bool i) ∧ w = w' := by
  by_cases h1 : n = 0
  · obtain rfl : i = true := by rw [hi]; exact decide_eq_true (.inl h1)
    clear hi hx
    subst h1
    go_enter Tryd.func29, Tryd.ntmps29
    go_wp2
    go_ret
    exact ⟨rfl, rfl⟩
  · have e1 : (n == 0) = false := by simpa using h1
    cases bt with
    | false =>
      obtain rfl : i = false := by rw [hi]; exact decide_eq_false (by simp [h1])
      have hx' : bits .and .i64 F m = 0 := hx
      clear hi hx
      go_enter Tryd.func29, Tryd.ntmps29
      go_wp2
      go_ret
      exact ⟨rfl, rfl⟩
    | true =>
      have hx' : bits .and .i64 F m = m := hx
      have e0 : (m != 0) = true := by simpa using hm
      by_cases h2 : 0 < n
      · have e2 : decide (0 < n) = true := decide_eq_true h2
        have e3 : decide (n ≤ 65535) = i := by rw [hi]; simp [h1, h2]
        clear hi hx
        go_enter Tryd.func29, Tryd.ntmps29
        go_wp2
        go_ret
        exact ⟨rfl, rfl⟩
      · have e2 : decide (0 < n) = false := decide_eq_false h2
        obtain rfl : i = false := by rw [hi]; exact decide_eq_false (by simp [h1, h2])
        clear hi hx
        go_enter Tryd.func29, Tryd.ntmps29
        go_wp2
        go_ret
        exact ⟨rfl, rfl⟩

set_option maxRecDepth 1000000 in
set_option maxHeartbeats 4000000 in
theorem rcheck_any (r : Rp) (w : World) (hT : Tab w) : Calls Tryd.prog 10 #[r.v] w fun e w' => e = .returned (.int .i64 (chkR r)) ∧ Mod [] w w' := by
  obtain ⟨D, hD⟩ : ∃ D, D = chkR r := ⟨_, rfl⟩
  rw [← hD]
  have hno : ¬ MayR r → D = 210 := fun h => hD.trans (chkR_no h)
  have hyes : MayR r → D = 0 := fun h => hD.trans (chkR_yes h)
  have OF := fun w h => off_any r.kind r.err w h
  obtain ⟨a1, a2, a4, a8⟩ := fOf_and r.kind r.err
  obtain ⟨F, hF⟩ : ∃ F, F = fOf r.kind r.err := ⟨_, rfl⟩
  rw [← hF] at OF a1 a2 a4 a8
  unfold MayR at hno hyes
  obtain ⟨bI, hbI⟩ : ∃ b, b = hI r.kind r.err := ⟨_, rfl⟩
  obtain ⟨bS, hbS⟩ : ∃ b, b = hS r.kind r.err := ⟨_, rfl⟩
  obtain ⟨bU, hbU⟩ : ∃ b, b = hU r.kind r.err := ⟨_, rfl⟩
  obtain ⟨bC, hbC⟩ : ∃ b, b = hC r.kind r.err := ⟨_, rfl⟩
  rw [← hbI, ← hbS, ← hbU, ← hbC] at hno hyes
  rw [← hbI] at a1
  rw [← hbS] at a2
  rw [← hbU] at a4
  rw [← hbC] at a8
  obtain ⟨tag, kind, err, id, seat, till, count⟩ := r
  dsimp only [Rp.v] at *
  clear hD hF hbI hbS hbU hbC
  obtain ⟨c3, hc3⟩ : ∃ c, c = decide (kind < 0 ∨ 10 < kind ∨ err < 0 ∨ 65535 < err) := ⟨_, rfl⟩
  obtain ⟨c5, hc5⟩ : ∃ c, c = decide (kind = 0 ∧ (tag ≠ 0 ∨ err ≠ 200)) := ⟨_, rfl⟩
  obtain ⟨c7, hc7⟩ : ∃ c, c = decide (id ≠ 0 ∧ bI = false ∨ till ≠ 0 ∧ bU = false ∨ till < 0) := ⟨_, rfl⟩
  obtain ⟨i9, hi9⟩ : ∃ c, c = decide (seat = 0 ∨ bS = true ∧ 0 < seat ∧ seat ≤ 65535) := ⟨_, rfl⟩
  obtain ⟨j9, hj9⟩ : ∃ c, c = decide (count = 0 ∨ bC = true ∧ 0 < count ∧ count ≤ 65535) := ⟨_, rfl⟩
  have NO : c3 = true ∨ c5 = true ∨ c7 = true ∨ i9 = false ∨ j9 = false → D = 210 := fun h => hno (by
    rw [hc3, hc5, hc7, hi9, hj9] at h
    simp only [decide_eq_true_eq, decide_eq_false_iff_not] at h
    rintro ⟨g1, g2, g3, g4, g5, g6, g7⟩
    rcases h with h | h | h | h | h
    · omega
    · have := g2 h.1; omega
    · rcases h with h | h | h
      · rcases g3 with g | g
        · exact h.1 g
        · rw [h.2] at g; cases g
      · rcases g4 with g | g
        · exact h.1 g
        · rw [h.2] at g; cases g
      · omega
    · exact h g6
    · exact h g7)
  have YES : c3 = false → c5 = false → c7 = false → i9 = true → j9 = true → D = 0 := fun h3 h5 h7 h9 h10 => hyes (by
    rw [hc3] at h3
    rw [hc5] at h5
    rw [hc7] at h7
    rw [hi9] at h9
    rw [hj9] at h10
    simp only [decide_eq_true_eq, decide_eq_false_iff_not] at h3 h5 h7 h9 h10
    refine ⟨by omega, fun hk => by omega, ?_, ?_, by omega, h9, h10⟩
    · cases bI with
      | true => exact .inr rfl
      | false => left; apply Decidable.byContradiction; intro hh; exact h7 (.inl ⟨hh, rfl⟩)
    · cases bU with
      | true => exact .inr rfl
      | false => left; apply Decidable.byContradiction; intro hh; exact h7 (.inr (.inl ⟨hh, rfl⟩)))
  have HC3 := Lib.hid hc3
  have HC5 := Lib.hid hc5
  have HC7 := Lib.hid hc7
  have HI9 := Lib.hid hi9
  have HJ9 := Lib.hid hj9
  have HNO := Lib.hid NO
  have HYES := Lib.hid YES
  clear hno hyes hc3 hc5 hc7 hi9 hj9 NO YES
  go_enter Tryd.func10, Tryd.ntmps10
  go_wp2_with (with_reducible refine st_box ?_)
  refine StopOp.go rfl fun K hK => ?_
  refine wp_box (v := .agg #[.int .u32 tag, .int .i64 kind, .int .i64 err, .int .u32 id, .int .i64 seat, .int .i64 till, .int .i64 count]) (by rfl) ?_
  intro g w1 hg1 hg2 hm1 hB1
  simp only [put_some, List.set_cons_succ, List.set_cons_zero]
  refine hK _ _ ?_
  clear hK K
  have hB : Blk w1 g 26 [.int .u32 tag, .int .i64 kind, .int .i64 err, .int .u32 id, .int .i64 seat, .int .i64 till, .int .i64 count] := hB1
  have k1 := hB.cell' (i := 1) rfl
  have k2 := hB.cell' (i := 2) rfl
  go_wp2_with (first | (with_reducible refine st_alloc ?_) | (go_at_call 24; (with_reducible refine (OF _ (hT.ext hm1)).mono ?_); rintro e w2 ⟨rfl, rfl⟩))
  refine StopOp.go rfl fun K hK => ?_
  refine wp_alloc zero_int ?_
  intro p w2 hp1 hp2 hm2 hP2
  simp only [put_some, List.set_cons_succ, List.set_cons_zero]
  refine hK _ _ ?_
  clear hK K
  go_wp2_with (with_reducible refine st_store ?_)
  refine StopOp.go rfl fun K hK => ?_
  have hP2' : Blk w2 p 3 [.int .i64 0] := hP2
  refine wp_store1 (by kernel_rfl) (by rfl) (u := (.int .i64 F)) (by rfl) ⟨rfl, rfl⟩ hP2' (by simp) ?_
  intro w3 hm3 hP3
  refine hK _ _ ?_
  clear hK K
  have hm13 : Mod [] w1 w3 := hm2.fresh hm3 (by simpa using hp1)
  have hM : Mod [] w w3 := hm1.ext hm13
  have hB3 := hB.ext hm13
  have d0 := hB3.cell' (i := 0) rfl
  have d1 := hB3.cell' (i := 1) rfl
  have d2 := hB3.cell' (i := 2) rfl
  have d3 := hB3.cell' (i := 3) rfl
  have d4 := hB3.cell' (i := 4) rfl
  have d5 := hB3.cell' (i := 5) rfl
  have d6 := hB3.cell' (i := 6) rfl
  have hP : Blk w3 p 3 [.int .i64 F] := hP3
  have q0 := hP.cell' (i := 0) rfl
  clear hB hB1 hP2 hP2' hP3 hB3 hm2 hm3 k1 k2 hm1 hm13 OF hT
  go_upto_region 3 with fail
  go_cut [11] (fun s11 wx => s11 = .bool c3 ∧ w3 = wx)
  case first =>
    by_cases h1 : kind < 0
    · have e1 : decide (kind < 0) = true := decide_eq_true h1
      go_wp2_with fail
      go_meet
      exact ⟨by rw [HC3.out, decide_eq_true (by omega)], rfl⟩
    · have e1 : decide (kind < 0) = false := decide_eq_false h1
      by_cases h2 : 10 < kind
      · have e2 : decide (10 < kind) = true := decide_eq_true h2
        go_wp2_with fail
        go_meet
        exact ⟨by rw [HC3.out, decide_eq_true (by omega)], rfl⟩
      · have e2 : decide (10 < kind) = false := decide_eq_false h2
        by_cases h3 : err < 0
        · have e3 : decide (err < 0) = true := decide_eq_true h3
          go_wp2_with fail
          go_meet
          exact ⟨by rw [HC3.out, decide_eq_true (by omega)], rfl⟩
        · have e3 : decide (err < 0) = false := decide_eq_false h3
          by_cases h4 : 65535 < err
          · have e4 : decide (65535 < err) = true := decide_eq_true h4
            go_wp2_with fail
            go_meet
            exact ⟨by rw [HC3.out, decide_eq_true (by omega)], rfl⟩
          · have e4 : decide (65535 < err) = false := decide_eq_false h4
            go_wp2_with fail
            go_meet
            exact ⟨by rw [HC3.out, decide_eq_false (by omega)], rfl⟩
  case rest =>
  obtain ⟨rfl, rfl⟩ := hcut
  cases c3 with
  | true =>
    obtain rfl : D = 210 := HNO.out (.inl rfl)
    go_wp2_with fail
    go_ret
    exact ⟨rfl, hM⟩
  | false =>
  go_upto_region 5 with fail
  go_cut [30] (fun s30 wx => s30 = .bool c5 ∧ w3 = wx)
  case first =>
    by_cases h1 : kind = 0
    · have e1 : (kind == 0) = true := by simpa using h1
      by_cases h2 : tag = 0
      · have e2 : (tag != 0) = false := by simpa using h2
        by_cases h3 : err = 200
        · have e3 : (err != 200) = false := by simpa using h3
          have hr : c5 = false := by rw [HC5.out]; exact decide_eq_false (by omega)
          subst hr
          clear h1 h2 h3 HC5
          go_wp2_with fail
          go_meet
          exact ⟨rfl, rfl⟩
        · have e3 : (err != 200) = true := by simpa using h3
          have hr : c5 = true := by rw [HC5.out]; exact decide_eq_true (by omega)
          subst hr
          clear h1 h2 h3 HC5
          go_wp2_with fail
          go_meet
          exact ⟨rfl, rfl⟩
      · have e2 : (tag != 0) = true := by simpa using h2
        have hr : c5 = true := by rw [HC5.out]; exact decide_eq_true (by omega)
        subst hr
        clear h1 h2 HC5
        go_wp2_with fail
        go_meet
        exact ⟨rfl, rfl⟩
    · have e1 : (kind == 0) = false := by simpa using h1
      have hr : c5 = false := by rw [HC5.out]; exact decide_eq_false (by omega)
      subst hr
      clear h1 HC5
      go_wp2_with fail
      go_meet
      exact ⟨rfl, rfl⟩
  case rest =>
  obtain ⟨rfl, rfl⟩ := hcut
  cases c5 with
  | true =>
    obtain rfl : D = 210 := HNO.out (.inr (.inl rfl))
    go_wp2_with fail
    go_ret
    exact ⟨rfl, hM⟩
  | false =>
  go_upto_region 7 with fail
  go_cut [44] (fun s44 wx => s44 = .bool c7 ∧ w3 = wx)
  case first =>
    have Z : ∀ (c : Bool), (till < 0 → c = true) → (¬ till < 0 → c = false) → RowKit.Hid (decide (till < 0) = c) := fun c h1 h2 => Lib.hid (by by_cases h : till < 0 <;> simp [h, h1, h2])
    by_cases h1 : id = 0
    · have e1 : (id != 0) = false := by simpa using h1
      by_cases h2 : till = 0
      · have e2 : (till != 0) = false := by simpa using h2
        have e3 : decide (till < 0) = false := decide_eq_false (by omega)
        have hr : c7 = false := by rw [HC7.out]; exact decide_eq_false (by omega)
        subst hr
        clear h1 h2 HC7 Z
        go_wp2_with fail
        go_meet
        exact ⟨rfl, rfl⟩
      · have e2 : (till != 0) = true := by simpa using h2
        cases bU with
        | false =>
          have x4 : bits .and .i64 F 4 = 0 := a4
          have hr : c7 = true := by rw [HC7.out]; exact decide_eq_true (.inr (.inl ⟨h2, rfl⟩))
          subst hr
          clear h1 h2 HC7 Z
          go_wp2_with fail
          go_meet
          exact ⟨rfl, rfl⟩
        | true =>
          have x4 : bits .and .i64 F 4 = 4 := a4
          have hr := Z c7 (fun h => by rw [HC7.out]; exact decide_eq_true (.inr (.inr h))) (fun h => by rw [HC7.out]; exact decide_eq_false (by simp; omega))
          have e3 := hr.out
          clear h1 h2 HC7 Z hr
          go_wp2_with fail
          go_meet
          exact ⟨rfl, rfl⟩
    · have e1 : (id != 0) = true := by simpa using h1
      cases bI with
      | false =>
        have x1 : bits .and .i64 F 1 = 0 := a1
        have hr : c7 = true := by rw [HC7.out]; exact decide_eq_true (.inl ⟨h1, rfl⟩)
        subst hr
        clear h1 HC7 Z
        go_wp2_with fail
        go_meet
        exact ⟨rfl, rfl⟩
      | true =>
        have x1 : bits .and .i64 F 1 = 1 := a1
        by_cases h2 : till = 0
        · have e2 : (till != 0) = false := by simpa using h2
          have e3 : decide (till < 0) = false := decide_eq_false (by omega)
          have hr : c7 = false := by rw [HC7.out]; exact decide_eq_false (by simp; omega)
          subst hr
          clear h1 h2 HC7 Z
          go_wp2_with fail
          go_meet
          exact ⟨rfl, rfl⟩
        · have e2 : (till != 0) = true := by simpa using h2
          cases bU with
          | false =>
            have x4 : bits .and .i64 F 4 = 0 := a4
            have hr : c7 = true := by rw [HC7.out]; exact decide_eq_true (.inr (.inl ⟨h2, rfl⟩))
            subst hr
            clear h1 h2 HC7 Z
            go_wp2_with fail
            go_meet
            exact ⟨rfl, rfl⟩
          | true =>
            have x4 : bits .and .i64 F 4 = 4 := a4
            have hr := Z c7 (fun h => by rw [HC7.out]; exact decide_eq_true (.inr (.inr h))) (fun h => by rw [HC7.out]; exact decide_eq_false (by simp; omega))
            have e3 := hr.out
            clear h1 h2 HC7 Z hr
            go_wp2_with fail
            go_meet
            exact ⟨rfl, rfl⟩
  case rest =>
  obtain ⟨rfl, rfl⟩ := hcut
  cases c7 with
  | true =>
    obtain rfl : D = 210 := HNO.out (.inr (.inr (.inl rfl)))
    go_wp2_with fail
    go_ret
    exact ⟨rfl, hM⟩
  | false =>
  cases i9 with
  | false =>
    have IS := fun w h => in_any seat F 2 bS p false w h a2 (by decide) HI9.out
    obtain rfl : D = 210 := HNO.out (.inr (.inr (.inr (.inl rfl))))
    go_wp2_with (go_at_call 29; (with_reducible refine (IS _ q0).mono ?_); rintro e w4 ⟨rfl, rfl⟩)
    go_ret
    exact ⟨rfl, hM⟩
  | true =>
    have IS := fun w h => in_any seat F 2 bS p true w h a2 (by decide) HI9.out
    cases j9 with
    | false =>
      have JS := fun w h => in_any count F 8 bC p false w h a8 (by decide) HJ9.out
      obtain rfl : D = 210 := HNO.out (.inr (.inr (.inr (.inr rfl))))
      go_wp2_with (go_at_call 29; first | ((with_reducible refine (IS _ q0).mono ?_); rintro e w4 ⟨rfl, rfl⟩) | ((with_reducible refine (JS _ q0).mono ?_); rintro e w4 ⟨rfl, rfl⟩))
      go_ret
      exact ⟨rfl, hM⟩
    | true =>
      have JS := fun w h => in_any count F 8 bC p true w h a8 (by decide) HJ9.out
      obtain rfl : D = 0 := HYES.out rfl rfl rfl rfl rfl
      go_wp2_with (go_at_call 29; first | ((with_reducible refine (IS _ q0).mono ?_); rintro e w4 ⟨rfl, rfl⟩) | ((with_reducible refine (JS _ q0).mono ?_); rintro e w4 ⟨rfl, rfl⟩))
      go_ret
      exact ⟨rfl, hM⟩
end Go.Proofs.YtfcoaiggpcjldaaDoor
