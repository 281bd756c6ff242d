import Derived.Test.YtkedbphdflhhlaaDkA
import Derived.Test.YtkedbphdflhhlaaOctD
/-! Disks: may, there, none, Sectors, Size, Waiting. -/
set_option linter.unusedVariables false
set_option linter.unusedSimpArgs false
set_option maxRecDepth 100000
namespace Go.Proofs.Ytkedbphdflhhlaa
open Go.RowKit Gw

def powB (z : Int) : Bool := decide (64 ≤ z) && (decide (z ≤ 4096) && (bits .and .i64 z (z - 1) == 0))
def mayD (s z : Int) : Bool := decide (1 ≤ s) && (decide (s ≤ 65536) && (decide (64 ≤ z) && (decide (z ≤ 4096) && ((bits .and .i64 z (z - 1) == 0) && decide (s * z ≤ 67108864)))))
theorem mul_bound {s z : Int} (h1 : 1 ≤ s) (h2 : s ≤ 65536) (h3 : 64 ≤ z) (h4 : z ≤ 4096) : 0 ≤ s * z ∧ s * z ≤ 268435456 := by
  refine ⟨Int.mul_nonneg (by omega) (by omega), ?_⟩
  have := Int.mul_le_mul h2 h4 (by omega) (show (0 : Int) ≤ 65536 by omega)
  omega
theorem mayD_parts {s z : Int} (h : mayD s z = true) : 1 ≤ s ∧ s ≤ 65536 ∧ 64 ≤ z ∧ z ≤ 4096 := by
  unfold mayD at h
  simp only [Bool.and_eq_true, decide_eq_true_eq] at h
  exact ⟨h.1, h.2.1, h.2.2.1, h.2.2.2.1⟩
set_option maxHeartbeats 4000000 in
theorem may_any (s z : Int) (c : Bool) (w : World) (hc : mayD s z = c) : Calls Try.prog 77 #[.int .i64 s, .int .i64 z] w fun e w' => e = .returned (.bool c) ∧ w = w' := by
  unfold mayD at hc
  by_cases h1 : 1 ≤ s
  · have eh1 : decide (1 ≤ s) = true := decide_eq_true h1
    rw [eh1] at hc
    simp only [Bool.true_and] at hc
    by_cases h2 : s ≤ 65536
    · have eh2 : decide (s ≤ 65536) = true := decide_eq_true h2
      rw [eh2] at hc
      simp only [Bool.true_and] at hc
      by_cases h3 : 64 ≤ z
      · have eh3 : decide (64 ≤ z) = true := decide_eq_true h3
        rw [eh3] at hc
        simp only [Bool.true_and] at hc
        by_cases h4 : z ≤ 4096
        · have eh4 : decide (z ≤ 4096) = true := decide_eq_true h4
          have hmb := mul_bound h1 h2 h3 h4
          have q1 := hmb.1
          have q2 := hmb.2
          clear hmb
          rw [eh4] at hc
          simp only [Bool.true_and] at hc
          cases eh5 : (bits .and .i64 z (z - 1) == 0) with
          | true =>
            rw [eh5] at hc
            simp only [Bool.true_and] at hc
            go_enter Try.func77, Try.ntmps77
            go_wp2
            go_ret
            exact ⟨rfl, rfl⟩
          | false =>
            rw [eh5] at hc
            simp only [Bool.false_and] at hc
            subst hc
            go_enter Try.func77, Try.ntmps77
            go_wp2
            go_ret
            exact ⟨rfl, rfl⟩
        · have eh4 : decide (z ≤ 4096) = false := decide_eq_false h4
          rw [eh4] at hc
          simp only [Bool.false_and] at hc
          subst hc
          go_enter Try.func77, Try.ntmps77
          go_wp2
          go_ret
          exact ⟨rfl, rfl⟩
      · have eh3 : decide (64 ≤ z) = false := decide_eq_false h3
        rw [eh3] at hc
        simp only [Bool.false_and] at hc
        subst hc
        go_enter Try.func77, Try.ntmps77
        go_wp2
        go_ret
        exact ⟨rfl, rfl⟩
    · have eh2 : decide (s ≤ 65536) = false := decide_eq_false h2
      rw [eh2] at hc
      simp only [Bool.false_and] at hc
      subst hc
      go_enter Try.func77, Try.ntmps77
      go_wp2
      go_ret
      exact ⟨rfl, rfl⟩
  · have eh1 : decide (1 ≤ s) = false := decide_eq_false h1
    rw [eh1] at hc
    simp only [Bool.false_and] at hc
    subst hc
    go_enter Try.func77, Try.ntmps77
    go_wp2
    go_ret
    exact ⟨rfl, rfl⟩
theorem there_yes (p sz : Nat) (D R : Value) (M : Nat) (w : World) (hB : Blk w p 110 [.int .i64 (sz : Nat), D, R, .map (some M)]) (h : 64 ≤ sz) : Calls Try.prog 85 #[.pointer (some ⟨p, 0, none⟩)] w fun e w' => e = .returned (.bool true) ∧ w = w' := by
  have c0 := hB.cell' (i := 0) rfl
  have h1 : 0 < sz := by omega
  have h2 : (0 : Int) < sz := by omega
  clear hB
  go_enter Try.func85, Try.ntmps85
  go_wp2
  go_ret
  exact ⟨rfl, rfl⟩
theorem there_no (v : Value) (w : World) (h : NoDk w v) : Calls Try.prog 85 #[v] w fun e w' => e = .returned (.bool false) ∧ w = w' := by
  rcases h with rfl | ⟨p, rfl, hB⟩
  · go_enter Try.func85, Try.ntmps85
    go_wp2
    go_ret
    exact ⟨rfl, rfl⟩
  · have c0 := hB.cell' (i := 0) rfl
    clear hB
    go_enter Try.func85, Try.ntmps85
    go_wp2
    go_ret
    exact ⟨rfl, rfl⟩
/-- the error of a sector that is none -/
def noneE (n : Nat) (at_ : Int) : Int := if at_ < 0 ∨ (n : Int) ≤ at_ then 50 else 0
theorem noneE_zero {n : Nat} {at_ : Int} (h : noneE n at_ = 0) : 0 ≤ at_ ∧ at_ < n := by
  unfold noneE at h
  split at h
  · cases h
  · omega
set_option maxHeartbeats 1000000 in
theorem none_any (p sz n cap : Nat) (ao : Option Addr) (R : Value) (M : Nat) (at_ E : Int) (w : World) (hB : Blk w p 110 [.int .i64 (sz : Nat), .slice ao n cap, R, .map (some M)]) (h : 64 ≤ sz) (hE : noneE n at_ = E) :
    Calls Try.prog 78 #[.pointer (some ⟨p, 0, none⟩), .int .i64 at_] w fun e w' => e = .returned (.int .i64 E) ∧ w = w' := by
  have T := fun w h => there_yes p sz (.slice ao n cap) R M w h
  have c1 := hB.cell' (i := 1) rfl
  by_cases h1 : at_ < 0
  · have hE' : E = 50 := by rw [← hE]; unfold noneE; rw [if_pos (.inl h1)]
    subst hE'
    clear hE
    have e1 : decide (at_ < 0) = true := decide_eq_true h1
    go_enter Try.func78, Try.ntmps78
    go_wp2_with (go_at_call 85; (with_reducible refine (T _ hB h).mono ?_); rintro e w1 ⟨rfl, rfl⟩)
    go_ret
    exact ⟨rfl, rfl⟩
  · have e1 : decide (at_ < 0) = false := decide_eq_false h1
    by_cases h2 : (n : Int) ≤ at_
    · have hE' : E = 50 := by rw [← hE]; unfold noneE; rw [if_pos (.inr h2)]
      subst hE'
      clear hE
      have e2 : decide ((n : Int) ≤ at_) = true := decide_eq_true h2
      go_enter Try.func78, Try.ntmps78
      go_wp2_with (go_at_call 85; (with_reducible refine (T _ hB h).mono ?_); rintro e w1 ⟨rfl, rfl⟩)
      go_ret
      exact ⟨rfl, rfl⟩
    · have hE' : E = 0 := by rw [← hE]; unfold noneE; rw [if_neg (by omega)]
      subst hE'
      clear hE
      have e2 : decide ((n : Int) ≤ at_) = false := decide_eq_false h2
      go_enter Try.func78, Try.ntmps78
      go_wp2_with (go_at_call 85; (with_reducible refine (T _ hB h).mono ?_); rintro e w1 ⟨rfl, rfl⟩)
      go_ret
      exact ⟨rfl, rfl⟩
theorem none_no (v : Value) (at_ : Int) (w : World) (h : NoDk w v) : Calls Try.prog 78 #[v, .int .i64 at_] w fun e w' => e = .returned (.int .i64 1) ∧ w = w' := by
  have T := fun w h => there_no v w h
  go_enter Try.func78, Try.ntmps78
  go_wp2_with (go_at_call 85; (with_reducible refine (T _ h).mono ?_); rintro e w1 ⟨rfl, rfl⟩)
  go_ret
  exact ⟨rfl, rfl⟩
theorem dSectors_any (p : Nat) (m : Dm) (L : List Nat) (w : World) (h : Dk w p m L) (hs : 64 ≤ m.sz) : Calls Try.prog 65 #[.pointer (some ⟨p, 0, none⟩)] w fun e w' => e = .returned (.int .i64 (m.dur.length : Nat)) ∧ w = w' := by
  obtain ⟨D, R, M, hB, ⟨ao, cap, rfl, _⟩, ao', cap', rfl, _⟩ := h.blk
  have T := fun w h => there_yes p m.sz (.slice ao m.dur.length cap) (.slice ao' m.row.length cap') M w h
  have c1 := hB.cell' (i := 1) rfl
  clear h
  go_enter Try.func65, Try.ntmps65
  go_wp2_with (go_at_call 85; (with_reducible refine (T _ hB hs).mono ?_); rintro e w1 ⟨rfl, rfl⟩)
  go_ret
  exact ⟨rfl, rfl⟩
theorem dSectors_no (v : Value) (w : World) (h : NoDk w v) : Calls Try.prog 65 #[v] w fun e w' => e = .returned (.int .i64 0) ∧ w = w' := by
  have T := fun w h => there_no v w h
  go_enter Try.func65, Try.ntmps65
  go_wp2_with (go_at_call 85; (with_reducible refine (T _ h).mono ?_); rintro e w1 ⟨rfl, rfl⟩)
  go_ret
  exact ⟨rfl, rfl⟩
theorem dSize_any (p : Nat) (m : Dm) (L : List Nat) (w : World) (h : Dk w p m L) (hs : 64 ≤ m.sz) : Calls Try.prog 66 #[.pointer (some ⟨p, 0, none⟩)] w fun e w' => e = .returned (.int .i64 (m.sz : Nat)) ∧ w = w' := by
  obtain ⟨D, R, M, hB, ⟨ao, cap, rfl, _⟩, ao', cap', rfl, _⟩ := h.blk
  have T := fun w h => there_yes p m.sz (.slice ao m.dur.length cap) (.slice ao' m.row.length cap') M w h
  have c0 := hB.cell' (i := 0) rfl
  clear h
  go_enter Try.func66, Try.ntmps66
  go_wp2_with (go_at_call 85; (with_reducible refine (T _ hB hs).mono ?_); rintro e w1 ⟨rfl, rfl⟩)
  go_ret
  exact ⟨rfl, rfl⟩
theorem dSize_no (v : Value) (w : World) (h : NoDk w v) : Calls Try.prog 66 #[v] w fun e w' => e = .returned (.int .i64 0) ∧ w = w' := by
  have T := fun w h => there_no v w h
  go_enter Try.func66, Try.ntmps66
  go_wp2_with (go_at_call 85; (with_reducible refine (T _ h).mono ?_); rintro e w1 ⟨rfl, rfl⟩)
  go_ret
  exact ⟨rfl, rfl⟩
theorem dWaiting_any (p : Nat) (m : Dm) (L : List Nat) (w : World) (h : Dk w p m L) (hs : 64 ≤ m.sz) : Calls Try.prog 55 #[.pointer (some ⟨p, 0, none⟩)] w fun e w' => e = .returned (.int .i64 (m.row.length : Nat)) ∧ w = w' := by
  obtain ⟨D, R, M, hB, ⟨ao, cap, rfl, _⟩, ao', cap', rfl, _⟩ := h.blk
  have T := fun w h => there_yes p m.sz (.slice ao m.dur.length cap) (.slice ao' m.row.length cap') M w h
  have c2 := hB.cell' (i := 2) rfl
  clear h
  go_enter Try.func55, Try.ntmps55
  go_wp2_with (go_at_call 85; (with_reducible refine (T _ hB hs).mono ?_); rintro e w1 ⟨rfl, rfl⟩)
  go_ret
  exact ⟨rfl, rfl⟩
theorem dWaiting_no (v : Value) (w : World) (h : NoDk w v) : Calls Try.prog 55 #[v] w fun e w' => e = .returned (.int .i64 0) ∧ w = w' := by
  have T := fun w h => there_no v w h
  go_enter Try.func55, Try.ntmps55
  go_wp2_with (go_at_call 85; (with_reducible refine (T _ h).mono ?_); rintro e w1 ⟨rfl, rfl⟩)
  go_ret
  exact ⟨rfl, rfl⟩
set_option maxHeartbeats 400000 in
/-- bytes.Clone of bytes that are some -/
theorem bclone_any (l : List UInt8) (v : Value) (w : World) (hv : Bs w v l) (h0 : 0 < l.length) (hl : l.length ≤ 140737488355328) :
    Calls Try.prog 79 #[v] w fun e w' => ∃ v', e = .returned v' ∧ Ob w' v' l ∧ New w v' ∧ Mod [] w w' := by
  obtain ⟨ao, cap, rfl, hc1, hc2⟩ := hv.form
  obtain ⟨b, o, rfl, _⟩ := hv.byte h0
  go_enter Try.func79, Try.ntmps79
  go_wp2_with (with_reducible refine st_bslice ?_)
  refine StopOp.go rfl fun K hK => ?_
  refine wp_bslice stB [] rfl (by decide) (by rfl) (by simp) ?_
  intro p w1 hp1 hp2 hm1 hB1
  simp only [put_some, List.set_cons_succ, List.set_cons_zero]
  refine hK _ _ ?_
  clear hK K
  have ho1 : Ow w1 5 1 (.slice (some ⟨p, 0, none⟩) 0 0) 0 [] := Ow.of_blk (rest := []) hB1 (by omega) (by omega) (by simp) (by simp)
  go_wp2_with (with_reducible refine st_append ?_)
  refine StopOp.go rfl fun K hK => ?_
  refine wp_append_ow stB (by rfl) (by rfl) ho1 (hv.ext hm1) (bv_one l) (by omega) (by omega) ?_
  intro v2 w2 ho2 hm2 hb2
  simp only [put_some, List.set_cons_succ, List.set_cons_zero]
  refine hK _ _ ?_
  clear hK K
  rw [List.nil_append, Nat.zero_add] at ho2
  obtain ⟨ao2, cap2, rfl, _, _⟩ := ho2.sl.form
  go_wp2_with fail
  go_ret
  exact ⟨_, rfl, ho2, fun k hk => (hb2 k hk).elim (fun h => by rw [show k = p by simpa [blks] using h]; exact hp1) (fun h => Nat.le_trans hm1.size h), hm1.fresh hm2 (by simpa [blks] using hp1)⟩
end Go.Proofs.Ytkedbphdflhhlaa
