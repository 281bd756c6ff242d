import Derived.Test.YtdmnogmhnhjdgaaPwA
/-! Devices: what each call does. -/
set_option linter.unusedVariables false
set_option linter.unusedSimpArgs false
set_option maxRecDepth 100000
namespace Go.Proofs.Ytdmnogmhnhjdgaa
open Go.RowKit Gw

theorem ptr_eql (w : World) (a : Addr) : (binOp .eql 30 (.pointer (some a)) (.pointer none)).run Try.prog w = .ok (.bool false) w := by rfl
/-- a device that is none -/
def NoPw (w : World) (v : Value) : Prop := v = .pointer none ∨ ∃ p, v = .pointer (some ⟨p, 0, none⟩) ∧ Blk w p 55 [.pointer none, .bool false, .int .i64 0, .int .i64 0]
theorem pnone_no (v : Value) (w : World) (h : NoPw w v) : Calls Try.prog 58 #[v] w fun e w' => e = .returned (.bool true) ∧ w = w' := by
  rcases h with rfl | ⟨p, rfl, h⟩
  · go_enter Try.func58, Try.ntmps58
    go_wp2_with fail
    go_ret
    exact ⟨rfl, rfl⟩
  · have c0 := h.cell' (i := 0) rfl
    clear h
    go_enter Try.func58, Try.ntmps58
    go_wp2_with fail
    go_ret
    exact ⟨rfl, rfl⟩
theorem pnone_yes (p q : Nat) (x y z : Value) (w : World) (h : Blk w p 55 [.pointer (some ⟨q, 0, none⟩), x, y, z]) : Calls Try.prog 58 #[.pointer (some ⟨p, 0, none⟩)] w fun e w' => e = .returned (.bool false) ∧ w = w' := by
  have c0 := h.cell' (i := 0) rfl
  clear h
  go_enter Try.func58, Try.ntmps58
  go_wp2_with fail
  go_ret
  exact ⟨rfl, rfl⟩
theorem pSectors_no (v : Value) (w : World) (h : NoPw w v) : Calls Try.prog 69 #[v] w fun e w' => e = .returned (.int .i64 0) ∧ w = w' := by
  have NO := fun w h => pnone_no v w h
  go_enter Try.func69, Try.ntmps69
  go_wp2_with (go_at_call 58; (with_reducible refine (NO _ h).mono ?_); rintro e w1 ⟨rfl, rfl⟩)
  go_ret
  exact ⟨rfl, rfl⟩
theorem pSize_no (v : Value) (w : World) (h : NoPw w v) : Calls Try.prog 60 #[v] w fun e w' => e = .returned (.int .i64 0) ∧ w = w' := by
  have NO := fun w h => pnone_no v w h
  go_enter Try.func60, Try.ntmps60
  go_wp2_with (go_at_call 58; (with_reducible refine (NO _ h).mono ?_); rintro e w1 ⟨rfl, rfl⟩)
  go_ret
  exact ⟨rfl, rfl⟩
theorem pWaiting_no (v : Value) (w : World) (h : NoPw w v) : Calls Try.prog 21 #[v] w fun e w' => e = .returned (.int .i64 0) ∧ w = w' := by
  have NO := fun w h => pnone_no v w h
  go_enter Try.func21, Try.ntmps21
  go_wp2_with (go_at_call 58; (with_reducible refine (NO _ h).mono ?_); rintro e w1 ⟨rfl, rfl⟩)
  go_ret
  exact ⟨rfl, rfl⟩
theorem pImage_no (v : Value) (w : World) (h : NoPw w v) : Calls Try.prog 27 #[v] w fun e w' => e = .returned (.slice none 0 0) ∧ w = w' := by
  have NO := fun w h => pnone_no v w h
  go_enter Try.func27, Try.ntmps27
  go_wp2_with (go_at_call 58; (with_reducible refine (NO _ h).mono ?_); rintro e w1 ⟨rfl, rfl⟩)
  go_ret
  exact ⟨rfl, rfl⟩
theorem pDown_no (v : Value) (w : World) (h : NoPw w v) : Calls Try.prog 17 #[v] w fun e w' => e = .returned (.bool false) ∧ w = w' := by
  have NO := fun w h => pnone_no v w h
  go_enter Try.func17, Try.ntmps17
  go_wp2_with (go_at_call 58; (with_reducible refine (NO _ h).mono ?_); rintro e w1 ⟨rfl, rfl⟩)
  go_ret
  exact ⟨rfl, rfl⟩
theorem pCount_no (v : Value) (w : World) (h : NoPw w v) : Calls Try.prog 20 #[v] w fun e w' => e = .returned (.int .i64 0) ∧ w = w' := by
  have NO := fun w h => pnone_no v w h
  go_enter Try.func20, Try.ntmps20
  go_wp2_with (go_at_call 58; (with_reducible refine (NO _ h).mono ?_); rintro e w1 ⟨rfl, rfl⟩)
  go_ret
  exact ⟨rfl, rfl⟩
theorem pCopy_no (v : Value) (w : World) (h : NoPw w v) : Calls Try.prog 70 #[v] w fun e w' => e = .returned (.pointer none) ∧ w = w' := by
  have NO := fun w h => pnone_no v w h
  go_enter Try.func70, Try.ntmps70
  go_wp2_with (go_at_call 58; (with_reducible refine (NO _ h).mono ?_); rintro e w1 ⟨rfl, rfl⟩)
  go_ret
  exact ⟨rfl, rfl⟩
theorem pArm_no (v : Value) (n : Int) (w : World) (h : NoPw w v) : Calls Try.prog 14 #[v, .int .i64 n] w fun e w' => e = .returned (.int .i64 1) ∧ w = w' := by
  have NO := fun w h => pnone_no v w h
  go_enter Try.func14, Try.ntmps14
  go_wp2_with (go_at_call 58; (with_reducible refine (NO _ h).mono ?_); rintro e w1 ⟨rfl, rfl⟩)
  go_ret
  exact ⟨rfl, rfl⟩
theorem pRestart_no (v : Value) (fv : Value) (w : World) (h : NoPw w v) : Calls Try.prog 23 #[v, fv] w fun e w' => e = .returned (.int .i64 1) ∧ w = w' := by
  have NO := fun w h => pnone_no v w h
  go_enter Try.func23, Try.ntmps23
  go_wp2_with (go_at_call 58; (with_reducible refine (NO _ h).mono ?_); rintro e w1 ⟨rfl, rfl⟩)
  go_ret
  exact ⟨rfl, rfl⟩
theorem pmade_no (v : Value) (w : World) (h : NoPw w v) : Calls Try.prog 95 #[v] w fun e w' => e = .returned (.int .i64 1) ∧ w = w' := by
  have NO := fun w h => pnone_no v w h
  go_enter Try.func95, Try.ntmps95
  go_wp2_with (go_at_call 58; (with_reducible refine (NO _ h).mono ?_); rintro e w1 ⟨rfl, rfl⟩)
  go_ret
  exact ⟨rfl, rfl⟩
theorem pWrite_no (v : Value) (at_ : Int) (bw : Value) (w : World) (h : NoPw w v) : Calls Try.prog 53 #[v, .int .i64 at_, bw] w fun e w' => e = .returned (.int .i64 1) ∧ w = w' := by
  have NO := fun w h => pmade_no v w h
  go_enter Try.func53, Try.ntmps53
  go_wp2_with (go_at_call 95; (with_reducible refine (NO _ h).mono ?_); rintro e w1 ⟨rfl, rfl⟩)
  go_ret
  exact ⟨rfl, rfl⟩
theorem pSync_no (v : Value) (w : World) (h : NoPw w v) : Calls Try.prog 54 #[v] w fun e w' => e = .returned (.int .i64 1) ∧ w = w' := by
  have NO := fun w h => pmade_no v w h
  go_enter Try.func54, Try.ntmps54
  go_wp2_with (go_at_call 95; (with_reducible refine (NO _ h).mono ?_); rintro e w1 ⟨rfl, rfl⟩)
  go_ret
  exact ⟨rfl, rfl⟩
theorem pRead_no (v : Value) (at_ : Int) (w : World) (h : NoPw w v) : Calls Try.prog 55 #[v, .int .i64 at_] w fun e w' => e = .returned (.tuple #[.slice none 0 0, .int .i64 1]) ∧ w = w' := by
  have NO := fun w h => pmade_no v w h
  go_enter Try.func55, Try.ntmps55
  go_wp2_with (go_at_call 95; (with_reducible refine (NO _ h).mono ?_); rintro e w1 ⟨rfl, rfl⟩)
  go_ret2
  exact ⟨rfl, rfl⟩
set_option maxHeartbeats 2000000 in
theorem pmade_any (p q : Nat) (v : Pv) (w : World) (h : Blk w p 55 (v.cells q)) (hok : v.ok) (hn : v.n ≤ 1000000) :
    Calls Try.prog 95 #[.pointer (some ⟨p, 0, none⟩)] w fun e w' => e = .returned (.int .i64 (v.e 0)) ∧ Blk w' p 55 (v.md.cells q) ∧ Mod [p] w w' := by
  obtain ⟨m, off, ar, n⟩ := v
  have a1 := hok.a1
  have a2 := hok.a2
  unfold Pv.cells at h ⊢
  dsimp only at h hn a1 a2
  have n1 : (n : Int) ≤ 1000000 := by omega
  have n0 : (0 : Int) ≤ n := by omega
  have c1 := h.cell' (i := 1) rfl
  have c2 := h.cell' (i := 2) rfl
  have c3 := h.cell' (i := 3) rfl
  clear hok
  cases off with
  | true =>
    rw [(show (Pv.mk m true ar n).e 0 = 60 from rfl)]
    go_enter Try.func95, Try.ntmps95
    go_wp2_with (go_at_call 58; refine (pnone_yes p q _ _ _ _ h).mono ?_; rintro e wn ⟨rfl, rfl⟩)
    go_ret
    exact ⟨rfl, h, Mod.refl _ _⟩
  | false =>
    by_cases h0 : ar = 0
    · subst h0
      rw [(show (Pv.mk m false 0 n).e 0 = 60 from rfl)]
      go_enter Try.func95, Try.ntmps95
      go_wp2_with (first
                    | (with_reducible refine st_store ?_)
                    | (go_at_call 58; refine (pnone_yes p q _ _ _ _ h).mono ?_; rintro e wn ⟨rfl, rfl⟩))
      refine StopOp.go rfl fun K hK => ?_
      refine wp_store1 (by kernel_rfl) (by rfl) (u := .bool true) (by rfl) ⟨rfl, rfl⟩ h (by simp) ?_
      intro w1 hm1 hB1
      refine hK _ _ ?_
      clear hK K
      go_wp2_with (with_reducible refine st_store ?_)
      refine StopOp.go rfl fun K hK => ?_
      refine wp_store1 (by kernel_rfl) (by rfl) (u := .int .i64 (-1)) (by rfl) ⟨rfl, rfl⟩ hB1 (by simp) ?_
      intro w2 hm2 hB2
      refine hK _ _ ?_
      clear hK K
      go_wp2_with fail
      go_ret
      exact ⟨rfl, hB2, hm1.trans hm2⟩
    · have e0 : (ar == 0) = false := by rw [beq_eq_false_iff_ne]; exact h0
      have eg0 : (Pv.mk m false ar n).go = true := by unfold Pv.go; simp [h0]
      have eg := (show (Pv.mk m false ar n).e 0 = 0 from if_pos eg0)
      clear eg0
      by_cases h1 : 0 < ar
      · have em : (Pv.mk m false ar n).md = ⟨m, false, ar - 1, n + 1⟩ := by unfold Pv.md; simp [h0, h1]
        rw [em, eg]
        clear em eg h0
        go_enter Try.func95, Try.ntmps95
        go_wp2_with (first
                      | (with_reducible refine st_store ?_)
                      | (go_at_call 58; refine (pnone_yes p q _ _ _ _ h).mono ?_; rintro e wn ⟨rfl, rfl⟩))
        refine StopOp.go rfl fun K hK => ?_
        refine wp_store1 (by kernel_rfl) (by rfl) (u := .int .i64 (ar - 1)) (by rfl) ⟨rfl, rfl⟩ h (by simp) ?_
        intro w1 hm1 hB1
        refine hK _ _ ?_
        clear hK K
        have d3 := hB1.cell' (i := 3) rfl
        go_wp2_with (with_reducible refine st_store ?_)
        refine StopOp.go rfl fun K hK => ?_
        refine wp_store1 (by kernel_rfl) (by rfl) (u := .int .i64 ((n : Int) + 1)) (by rfl) ⟨rfl, rfl⟩ hB1 (by simp) ?_
        intro w2 hm2 hB2
        refine hK _ _ ?_
        clear hK K
        go_wp2_with fail
        go_ret
        exact ⟨rfl, by simpa using hB2, hm1.trans hm2⟩
      · have em : (Pv.mk m false ar n).md = ⟨m, false, ar, n + 1⟩ := by unfold Pv.md; simp [h0, h1]
        rw [em, eg]
        have h2 : ar ≤ 0 := by omega
        clear em eg h0 h1
        go_enter Try.func95, Try.ntmps95
        go_wp2_with (first
                      | (with_reducible refine st_store ?_)
                      | (go_at_call 58; refine (pnone_yes p q _ _ _ _ h).mono ?_; rintro e wn ⟨rfl, rfl⟩))
        refine StopOp.go rfl fun K hK => ?_
        refine wp_store1 (by kernel_rfl) (by rfl) (u := .int .i64 ((n : Int) + 1)) (by rfl) ⟨rfl, rfl⟩ h (by simp) ?_
        intro w2 hm2 hB2
        refine hK _ _ ?_
        clear hK K
        go_wp2_with fail
        go_ret
        exact ⟨rfl, by simpa using hB2, hm2⟩
theorem pSectors_any (p q : Nat) (v : Pv) (L : List Nat) (w : World) (h : Pd w p q v L) : Calls Try.prog 69 #[.pointer (some ⟨p, 0, none⟩)] w fun e w' => e = .returned (.int .i64 (v.m.dur.length : Nat)) ∧ w = w' := by
  have D : Calls Try.prog 57 #[.pointer (some ⟨q, 0, none⟩)] w fun e w' => e = .returned (.int .i64 (v.m.dur.length : Nat)) ∧ w = w' := dSec_any (.pointer (some ⟨q, 0, none⟩)) (some v.m) L w ⟨q, rfl, h.d, h.ok.m⟩
  have hb := h.b
  unfold Pv.cells at hb
  have c0 := hb.cell' (i := 0) rfl
  clear h
  go_enter Try.func69, Try.ntmps69
  go_wp2_with (first
                | (go_at_call 58; refine (pnone_yes p q _ _ _ _ hb).mono ?_; rintro e wn ⟨rfl, rfl⟩)
                | (go_at_call 57; (with_reducible refine (D).mono ?_); rintro e w2 ⟨rfl, rfl⟩))
  go_ret
  exact ⟨rfl, rfl⟩
theorem pSize_any (p q : Nat) (v : Pv) (L : List Nat) (w : World) (h : Pd w p q v L) : Calls Try.prog 60 #[.pointer (some ⟨p, 0, none⟩)] w fun e w' => e = .returned (.int .i64 (v.m.sz : Nat)) ∧ w = w' := by
  have D : Calls Try.prog 62 #[.pointer (some ⟨q, 0, none⟩)] w fun e w' => e = .returned (.int .i64 (v.m.sz : Nat)) ∧ w = w' := dSz_any (.pointer (some ⟨q, 0, none⟩)) (some v.m) L w ⟨q, rfl, h.d, h.ok.m⟩
  have hb := h.b
  unfold Pv.cells at hb
  have c0 := hb.cell' (i := 0) rfl
  clear h
  go_enter Try.func60, Try.ntmps60
  go_wp2_with (first
                | (go_at_call 58; refine (pnone_yes p q _ _ _ _ hb).mono ?_; rintro e wn ⟨rfl, rfl⟩)
                | (go_at_call 62; (with_reducible refine (D).mono ?_); rintro e w2 ⟨rfl, rfl⟩))
  go_ret
  exact ⟨rfl, rfl⟩
theorem pWaiting_any (p q : Nat) (v : Pv) (L : List Nat) (w : World) (h : Pd w p q v L) : Calls Try.prog 21 #[.pointer (some ⟨p, 0, none⟩)] w fun e w' => e = .returned (.int .i64 (v.m.row.length : Nat)) ∧ w = w' := by
  have D : Calls Try.prog 22 #[.pointer (some ⟨q, 0, none⟩)] w fun e w' => e = .returned (.int .i64 (v.m.row.length : Nat)) ∧ w = w' := dWt_any (.pointer (some ⟨q, 0, none⟩)) (some v.m) L w ⟨q, rfl, h.d, h.ok.m⟩
  have hb := h.b
  unfold Pv.cells at hb
  have c0 := hb.cell' (i := 0) rfl
  clear h
  go_enter Try.func21, Try.ntmps21
  go_wp2_with (first
                | (go_at_call 58; refine (pnone_yes p q _ _ _ _ hb).mono ?_; rintro e wn ⟨rfl, rfl⟩)
                | (go_at_call 22; (with_reducible refine (D).mono ?_); rintro e w2 ⟨rfl, rfl⟩))
  go_ret
  exact ⟨rfl, rfl⟩
theorem pImage_any (p q : Nat) (v : Pv) (L : List Nat) (w : World) (h : Pd w p q v L) : Calls Try.prog 27 #[.pointer (some ⟨p, 0, none⟩)] w (ImgPost w v.m.dur) := by
  have D : Calls Try.prog 28 #[.pointer (some ⟨q, 0, none⟩)] w (ImgPost w v.m.dur) := dI_any (.pointer (some ⟨q, 0, none⟩)) (some v.m) L w ⟨q, rfl, h.d, h.ok.m⟩
  unfold ImgPost at D ⊢
  have hb := h.b
  unfold Pv.cells at hb
  have c0 := hb.cell' (i := 0) rfl
  clear h
  go_enter Try.func27, Try.ntmps27
  go_wp2_with (first
                | (go_at_call 58; refine (pnone_yes p q _ _ _ _ hb).mono ?_; rintro e wn ⟨rfl, rfl⟩)
                | (go_at_call 28; (with_reducible refine (D).mono ?_); rintro e w2 ⟨v2, dq, rfl, h2, h3, h4⟩))
  go_ret
  exact ⟨_, dq, rfl, h2, h3, h4⟩
theorem pDown_any (p q : Nat) (v : Pv) (w : World) (h : Blk w p 55 (v.cells q)) : Calls Try.prog 17 #[.pointer (some ⟨p, 0, none⟩)] w fun e w' => e = .returned (.bool v.off) ∧ w = w' := by
  obtain ⟨m, off, ar, n⟩ := v
  have hb := h
  unfold Pv.cells at hb
  dsimp only at hb ⊢
  have c1 := hb.cell' (i := 1) rfl
  clear h
  go_enter Try.func17, Try.ntmps17
  go_wp2_with (go_at_call 58; refine (pnone_yes p q _ _ _ _ hb).mono ?_; rintro e wn ⟨rfl, rfl⟩)
  go_ret
  exact ⟨rfl, rfl⟩
theorem pCount_any (p q : Nat) (v : Pv) (w : World) (h : Blk w p 55 (v.cells q)) : Calls Try.prog 20 #[.pointer (some ⟨p, 0, none⟩)] w fun e w' => e = .returned (.int .i64 (v.n : Nat)) ∧ w = w' := by
  obtain ⟨m, off, ar, n⟩ := v
  have hb := h
  unfold Pv.cells at hb
  dsimp only at hb ⊢
  have c1 := hb.cell' (i := 3) rfl
  clear h
  go_enter Try.func20, Try.ntmps20
  go_wp2_with (go_at_call 58; refine (pnone_yes p q _ _ _ _ hb).mono ?_; rintro e wn ⟨rfl, rfl⟩)
  go_ret
  exact ⟨rfl, rfl⟩
theorem pArm_any (p q : Nat) (v : Pv) (L : List Nat) (n : Int) (w : World) (h : Pd w p q v L) (hn : n ≤ 9223372036854775807) : Calls Try.prog 14 #[.pointer (some ⟨p, 0, none⟩), .int .i64 n] w fun e w' => e = .returned (.int .i64 (if v.off = true then 60 else 0)) ∧ Pd w' p q (v.arm n) L ∧ Mod [p] w w' := by
  have hb := h.b
  have hfin : ∀ w', Mod [p] w w' → ∀ ar, ar = max n (-1) → v.off = false → Blk w' p 55 [.pointer (some ⟨q, 0, none⟩), .bool v.off, .int .i64 ar, .int .i64 (v.n : Nat)] → Pd w' p q (v.arm n) L := fun w' hm ar har ho hB => by
    unfold Pv.arm
    rw [ho, if_neg (by decide)]
    have := h.ok.a2
    exact ⟨by unfold Pv.cells; dsimp only; rw [← har, ← ho]; exact hB, h.d.mod hm (fun b hb hh => h.pl (by have e : b = p := (by simpa using hh); exact e ▸ hb)), ⟨h.ok.m, by dsimp only; omega, by dsimp only; omega⟩, h.pl⟩
  have hsame : v.off = true → Pd w p q (v.arm n) L := fun ho => by unfold Pv.arm; rw [if_pos ho]; exact h
  unfold Pv.cells at hb
  have c1 := hb.cell' (i := 1) rfl
  cases hoff : v.off with
  | true =>
    rw [hoff] at c1
    have hs := hsame hoff
    have HS := Lib.hid hs
    clear hs h hfin hsame hoff
    go_enter Try.func14, Try.ntmps14
    go_wp2_with (go_at_call 58; refine (pnone_yes p q _ _ _ _ hb).mono ?_; rintro e wn ⟨rfl, rfl⟩)
    go_ret
    exact ⟨rfl, HS.out, Mod.refl _ _⟩
  | false =>
    rw [hoff] at c1
    have HF := Lib.hid (fun w' hm ar har hB => hfin w' hm ar har hoff hB)
    have HO := Lib.hid hoff
    clear h hfin hsame hoff
    by_cases hneg : n < -1
    · have e1 : max n (-1) = -1 := by omega
      have y1 : n ≤ -1 := by omega
      have HE := Lib.hid e1
      clear e1
      go_enter Try.func14, Try.ntmps14
      go_wp2_with (first
                    | (with_reducible refine st_store ?_)
                    | (go_at_call 58; refine (pnone_yes p q _ _ _ _ hb).mono ?_; rintro e wn ⟨rfl, rfl⟩))
      refine StopOp.go rfl fun K hK => ?_
      refine wp_store1 (by kernel_rfl) (by rfl) (u := .int .i64 (-1)) (by rfl) ⟨rfl, rfl⟩ hb (by simp) ?_
      intro w2 hm2 hB2
      refine hK _ _ ?_
      clear hK K
      go_wp2_with fail
      go_ret
      exact ⟨rfl, HF.out _ hm2 _ HE.out.symm hB2, hm2⟩
    · have e1 : max n (-1) = n := by omega
      have y1 : -1 ≤ n := by omega
      have HE := Lib.hid e1
      clear e1
      go_enter Try.func14, Try.ntmps14
      go_wp2_with (first
                    | (with_reducible refine st_store ?_)
                    | (go_at_call 58; refine (pnone_yes p q _ _ _ _ hb).mono ?_; rintro e wn ⟨rfl, rfl⟩))
      refine StopOp.go rfl fun K hK => ?_
      refine wp_store1 (by kernel_rfl) (by rfl) (u := .int .i64 n) (by rfl) ⟨rfl, rfl⟩ hb (by simp) ?_
      intro w2 hm2 hB2
      refine hK _ _ ?_
      clear hK K
      go_wp2_with fail
      go_ret
      exact ⟨rfl, HF.out _ hm2 _ HE.out.symm hB2, hm2⟩
set_option maxHeartbeats 1000000 in
theorem pWrite_any (p q : Nat) (v : Pv) (L : List Nat) (at_ : Int) (l : List UInt8) (bw : Value) (w : World) (h : Pd w p q v L) (hb : Bs w bw l) (hbp : ∀ b ∈ blks bw, b ≠ p) (hn : v.n ≤ 1000000) (hr : v.m.row.length ≤ 1000000) :
    Calls Try.prog 53 #[.pointer (some ⟨p, 0, none⟩), .int .i64 at_, bw] w fun e w' => e = .returned (.int .i64 (v.e (writeE v.m at_ l.length))) ∧ PdP w p q (v.wr at_ l) L w' := by
  obtain ⟨aob, capb, rfl, _, _⟩ := hb.form
  have MD := pmade_any p q v w h.b h.ok hn
  have hd := h.d
  have hok := h.ok
  have hpl : ∀ b ∈ L, b ∉ [p] := fun b hb hh => h.pl (by have e : b = p := (by simpa using hh); exact e ▸ hb)
  have hp := h.pl
  rcases v.go_cases with ⟨hg, _, _⟩ | hg
  · have hfin : ∀ w2 w' L', Blk w2 p 55 (v.md.cells q) → Mod [p] w w2 → Ld w' (.pointer (some ⟨q, 0, none⟩)) (some (wrM v.m at_ l)) L' → Mod L w2 w' → (∀ k ∈ L', k ∈ L ∨ w2.heap.size ≤ k) → PdP w p q (v.wr at_ l) L w' := fun w2 w' L' hB hm hD hm2 hL => by
      obtain ⟨q', e1, e2, e3⟩ := hD
      injection e1 with e1
      injection e1 with e1
      injection e1 with e1
      subst e1
      have hs := hm.size
      have hpw := h.b.lt
      refine ⟨L', ⟨?_, ?_, ?_, fun hh => (hL p hh).elim hp (fun h => by omega)⟩, (hm.weak (by simp)).then hm2 (fun g hg => .inl (List.mem_cons_of_mem _ hg)), fun k hk => (hL k hk).imp id (fun h => by omega)⟩
      · unfold Pv.wr
        rw [if_pos hg]
        exact hB.mod hm2 hp
      · unfold Pv.wr
        rw [if_pos hg]
        exact e2
      · unfold Pv.wr
        rw [if_pos hg]
        exact Pv.at_ok (Pv.md_ok hok) (wrM_ok hok.m _ _)
    have HF := Lib.hid hfin
    rw [show v.e 0 = 0 from if_pos hg] at MD
    rw [show v.e (writeE v.m at_ l.length) = writeE v.m at_ l.length from if_pos hg]
    have hgo := Lib.hid hg
    clear hg hfin h
    go_enter Try.func53, Try.ntmps53
    go_wp2_with (first
                  | (go_at_call 95; (with_reducible refine (MD).mono ?_); rintro e w2 ⟨rfl, hB2, hm2⟩; have hd2 := hd.mod hm2 hpl; have hb2 : Bs w2 _ l := Sl.mod hb hm2 (fun b hb hh => hbp b hb (by simpa using hh)); have c0 := hB2.cell' (i := 0) rfl)
                  | (go_at_call 61; refine (dW_any (.pointer (some ⟨q, 0, none⟩)) _ at_ l (some v.m) L w2 ⟨q, rfl, hd2, hok.m⟩ hb2 hr).mono ?_; rintro e w3 ⟨rfl, L3, k1, k2, k3⟩))
    go_ret
    exact ⟨rfl, HF.out w2 w3 L3 hB2 hm2 k1 k2 k3⟩
  · have hfin : ∀ w2, Blk w2 p 55 (v.md.cells q) → Mod [p] w w2 → PdP w p q (v.wr at_ l) L w2 := fun w2 hB hm => by
      refine ⟨L, ⟨?_, ?_, ?_, hp⟩, hm.weak (by simp), fun k hk => .inl hk⟩
      · unfold Pv.wr
        rw [if_neg (by rw [hg]; decide)]
        exact hB
      · unfold Pv.wr
        rw [if_neg (by rw [hg]; decide), Pv.md_m]
        exact hd.mod hm hpl
      · unfold Pv.wr
        rw [if_neg (by rw [hg]; decide)]
        exact Pv.md_ok hok
    have HF := Lib.hid hfin
    rw [show v.e 0 = 60 from if_neg (by rw [hg]; decide)] at MD
    rw [show v.e (writeE v.m at_ l.length) = 60 from if_neg (by rw [hg]; decide)]
    clear hg hfin h
    go_enter Try.func53, Try.ntmps53
    go_wp2_with (go_at_call 95; (with_reducible refine (MD).mono ?_); rintro e w2 ⟨rfl, hB2, hm2⟩)
    go_ret
    exact ⟨rfl, HF.out w2 hB2 hm2⟩
set_option maxHeartbeats 1000000 in
theorem pSync_any (p q : Nat) (v : Pv) (L : List Nat) (w : World) (h : Pd w p q v L) (hn : v.n ≤ 1000000) (hr : v.m.row.length ≤ 1000000) :
    Calls Try.prog 54 #[.pointer (some ⟨p, 0, none⟩)] w fun e w' => e = .returned (.int .i64 (v.e (0))) ∧ PdP w p q (v.sy) L w' := by
  have MD := pmade_any p q v w h.b h.ok hn
  have hd := h.d
  have hok := h.ok
  have hpl : ∀ b ∈ L, b ∉ [p] := fun b hb hh => h.pl (by have e : b = p := (by simpa using hh); exact e ▸ hb)
  have hp := h.pl
  rcases v.go_cases with ⟨hg, _, _⟩ | hg
  · have hfin : ∀ w2 w' L', Blk w2 p 55 (v.md.cells q) → Mod [p] w w2 → Ld w' (.pointer (some ⟨q, 0, none⟩)) (some (v.m.sync)) L' → Mod L w2 w' → (∀ k ∈ L', k ∈ L ∨ w2.heap.size ≤ k) → PdP w p q (v.sy) L w' := fun w2 w' L' hB hm hD hm2 hL => by
      obtain ⟨q', e1, e2, e3⟩ := hD
      injection e1 with e1
      injection e1 with e1
      injection e1 with e1
      subst e1
      have hs := hm.size
      have hpw := h.b.lt
      refine ⟨L', ⟨?_, ?_, ?_, fun hh => (hL p hh).elim hp (fun h => by omega)⟩, (hm.weak (by simp)).then hm2 (fun g hg => .inl (List.mem_cons_of_mem _ hg)), fun k hk => (hL k hk).imp id (fun h => by omega)⟩
      · unfold Pv.sy
        rw [if_pos hg]
        exact hB.mod hm2 hp
      · unfold Pv.sy
        rw [if_pos hg]
        exact e2
      · unfold Pv.sy
        rw [if_pos hg]
        exact Pv.at_ok (Pv.md_ok hok) (hok.m.settle _)
    have HF := Lib.hid hfin
    rw [show v.e 0 = 0 from if_pos hg] at MD
    rw [show v.e (0) = 0 from if_pos hg]
    have hgo := Lib.hid hg
    clear hg hfin h
    go_enter Try.func54, Try.ntmps54
    go_wp2_with (first
                  | (go_at_call 95; (with_reducible refine (MD).mono ?_); rintro e w2 ⟨rfl, hB2, hm2⟩; have hd2 := hd.mod hm2 hpl; skip; have c0 := hB2.cell' (i := 0) rfl)
                  | (go_at_call 64; refine (dS_any (.pointer (some ⟨q, 0, none⟩)) (some v.m) L w2 ⟨q, rfl, hd2, hok.m⟩ hr).mono ?_; rintro e w3 ⟨rfl, L3, k1, k2, k3⟩))
    go_ret
    exact ⟨rfl, HF.out w2 w3 L3 hB2 hm2 k1 k2 k3⟩
  · have hfin : ∀ w2, Blk w2 p 55 (v.md.cells q) → Mod [p] w w2 → PdP w p q (v.sy) L w2 := fun w2 hB hm => by
      refine ⟨L, ⟨?_, ?_, ?_, hp⟩, hm.weak (by simp), fun k hk => .inl hk⟩
      · unfold Pv.sy
        rw [if_neg (by rw [hg]; decide)]
        exact hB
      · unfold Pv.sy
        rw [if_neg (by rw [hg]; decide), Pv.md_m]
        exact hd.mod hm hpl
      · unfold Pv.sy
        rw [if_neg (by rw [hg]; decide)]
        exact Pv.md_ok hok
    have HF := Lib.hid hfin
    rw [show v.e 0 = 60 from if_neg (by rw [hg]; decide)] at MD
    rw [show v.e (0) = 60 from if_neg (by rw [hg]; decide)]
    clear hg hfin h
    go_enter Try.func54, Try.ntmps54
    go_wp2_with (go_at_call 95; (with_reducible refine (MD).mono ?_); rintro e w2 ⟨rfl, hB2, hm2⟩)
    go_ret
    exact ⟨rfl, HF.out w2 hB2 hm2⟩
set_option maxHeartbeats 1000000 in
theorem pRead_any (p q : Nat) (v : Pv) (L : List Nat) (at_ : Int) (w : World) (h : Pd w p q v L) (hn : v.n ≤ 1000000) :
    Calls Try.prog 55 #[.pointer (some ⟨p, 0, none⟩), .int .i64 at_] w fun e w' => ∃ rv, e = .returned (.tuple #[rv, .int .i64 (v.e (noneE v.m.dur.length at_))]) ∧ Ob w' rv (v.rd at_) ∧ New w rv ∧ Pd w' p q v.md L ∧ Mod [p] w w' := by
  have MD := pmade_any p q v w h.b h.ok hn
  have hpl : ∀ b ∈ L, b ∉ [p] := fun b hb hh => h.pl (by have e : b = p := (by simpa using hh); exact e ▸ hb)
  have hd := h.d
  have hok := h.ok
  have HF := Lib.hid (show ∀ w2, Blk w2 p 55 (v.md.cells q) → Mod [p] w w2 → Pd w2 p q v.md L from fun w2 hB hm => ⟨hB, by rw [Pv.md_m]; exact hd.mod hm hpl, Pv.md_ok hok, h.pl⟩)
  rcases v.go_cases with ⟨hg, _, _⟩ | hg
  · have RD := fun w h => dR_any (.pointer (some ⟨q, 0, none⟩)) at_ (some v.m) L w h
    have e1 : oRE at_ (some v.m) = noneE v.m.dur.length at_ := rfl
    rw [e1] at RD
    rw [show v.rd at_ = oR at_ (some v.m) from if_pos hg, show v.e (noneE v.m.dur.length at_) = noneE v.m.dur.length at_ from if_pos hg]
    rw [show v.e 0 = 0 from if_pos hg] at MD
    obtain ⟨B, hB⟩ : ∃ B, B = oR at_ (some v.m) := ⟨_, rfl⟩
    obtain ⟨E, hE⟩ : ∃ B, B = noneE v.m.dur.length at_ := ⟨_, rfl⟩
    rw [← hB, ← hE] at RD ⊢
    clear hg hB hE e1 h
    go_enter Try.func55, Try.ntmps55
    go_wp2_with (first
                  | (go_at_call 95; (with_reducible refine (MD).mono ?_); rintro e w2 ⟨rfl, hB2, hm2⟩; have hd2 := hd.mod hm2 hpl; have c0 := hB2.cell' (i := 0) rfl)
                  | (go_at_call 63; refine (RD _ ⟨q, rfl, hd2, hok.m⟩).mono ?_; rintro e w3 ⟨v3, rfl, ho3, hn3, hm3⟩))
    go_ret2
    have := hm2.size
    exact ⟨v3, rfl, ho3, fun k hk => by have := hn3 k hk; omega, (HF.out w2 hB2 hm2).ext hm3, hm2.ext hm3⟩
  · rw [show v.rd at_ = [] from if_neg (by rw [hg]; decide), show v.e (noneE v.m.dur.length at_) = 60 from if_neg (by rw [hg]; decide)]
    rw [show v.e 0 = 60 from if_neg (by rw [hg]; decide)] at MD
    clear hg h
    go_enter Try.func55, Try.ntmps55
    go_wp2_with (go_at_call 95; (with_reducible refine (MD).mono ?_); rintro e w2 ⟨rfl, hB2, hm2⟩)
    go_ret2
    exact ⟨_, rfl, Ob.nil _, by simp [New, blks], HF.out w2 hB2 hm2, hm2⟩
set_option maxHeartbeats 2000000 in
theorem qmade_any (p q : Nat) (v : Pv) (w : World) (h : Blk w p 141 (v.cells q)) (hok : v.ok) (hn : v.n ≤ 1000000) :
    Calls Try.prog 149 #[.pointer (some ⟨p, 0, none⟩)] w fun e w' => e = .returned (.bool v.go) ∧ Blk w' p 141 (v.md.cells q) ∧ Mod [p] w w' := by
  obtain ⟨m, off, ar, n⟩ := v
  have a1 := hok.a1
  have a2 := hok.a2
  unfold Pv.cells at h ⊢
  dsimp only at h hn a1 a2
  have n1 : (n : Int) ≤ 1000000 := by omega
  have n0 : (0 : Int) ≤ n := by omega
  have c1 := h.cell' (i := 1) rfl
  have c2 := h.cell' (i := 2) rfl
  have c3 := h.cell' (i := 3) rfl
  clear hok
  cases off with
  | true =>
    rw [(show (Pv.mk m true ar n).go = false from rfl)]
    go_enter Try.func149, Try.ntmps149
    go_wp2_with fail
    go_ret
    exact ⟨rfl, h, Mod.refl _ _⟩
  | false =>
    by_cases h0 : ar = 0
    · subst h0
      rw [(show (Pv.mk m false 0 n).go = false from rfl)]
      go_enter Try.func149, Try.ntmps149
      go_wp2_with (with_reducible refine st_store ?_)
      refine StopOp.go rfl fun K hK => ?_
      refine wp_store1 (by kernel_rfl) (by rfl) (u := .bool true) (by rfl) ⟨rfl, rfl⟩ h (by simp) ?_
      intro w1 hm1 hB1
      refine hK _ _ ?_
      clear hK K
      go_wp2_with (with_reducible refine st_store ?_)
      refine StopOp.go rfl fun K hK => ?_
      refine wp_store1 (by kernel_rfl) (by rfl) (u := .int .i64 (-1)) (by rfl) ⟨rfl, rfl⟩ hB1 (by simp) ?_
      intro w2 hm2 hB2
      refine hK _ _ ?_
      clear hK K
      go_wp2_with fail
      go_ret
      exact ⟨rfl, hB2, hm1.trans hm2⟩
    · have e0 : (ar == 0) = false := by rw [beq_eq_false_iff_ne]; exact h0
      have eg0 : (Pv.mk m false ar n).go = true := by unfold Pv.go; simp [h0]
      have eg := (show (Pv.mk m false ar n).go = true from eg0)
      clear eg0
      by_cases h1 : 0 < ar
      · have em : (Pv.mk m false ar n).md = ⟨m, false, ar - 1, n + 1⟩ := by unfold Pv.md; simp [h0, h1]
        rw [em, eg]
        clear em eg h0
        go_enter Try.func149, Try.ntmps149
        go_wp2_with (with_reducible refine st_store ?_)
        refine StopOp.go rfl fun K hK => ?_
        refine wp_store1 (by kernel_rfl) (by rfl) (u := .int .i64 (ar - 1)) (by rfl) ⟨rfl, rfl⟩ h (by simp) ?_
        intro w1 hm1 hB1
        refine hK _ _ ?_
        clear hK K
        have d3 := hB1.cell' (i := 3) rfl
        go_wp2_with (with_reducible refine st_store ?_)
        refine StopOp.go rfl fun K hK => ?_
        refine wp_store1 (by kernel_rfl) (by rfl) (u := .int .i64 ((n : Int) + 1)) (by rfl) ⟨rfl, rfl⟩ hB1 (by simp) ?_
        intro w2 hm2 hB2
        refine hK _ _ ?_
        clear hK K
        go_wp2_with fail
        go_ret
        exact ⟨rfl, by simpa using hB2, hm1.trans hm2⟩
      · have em : (Pv.mk m false ar n).md = ⟨m, false, ar, n + 1⟩ := by unfold Pv.md; simp [h0, h1]
        rw [em, eg]
        have h2 : ar ≤ 0 := by omega
        clear em eg h0 h1
        go_enter Try.func149, Try.ntmps149
        go_wp2_with (with_reducible refine st_store ?_)
        refine StopOp.go rfl fun K hK => ?_
        refine wp_store1 (by kernel_rfl) (by rfl) (u := .int .i64 ((n : Int) + 1)) (by rfl) ⟨rfl, rfl⟩ h (by simp) ?_
        intro w2 hm2 hB2
        refine hK _ _ ?_
        clear hK K
        go_wp2_with fail
        go_ret
        exact ⟨rfl, by simpa using hB2, hm2⟩
theorem qSectors_any (p q : Nat) (v : Pv) (L : List Nat) (w : World) (h : Pr w p q v L) : Calls Try.prog 121 #[.pointer (some ⟨p, 0, none⟩)] w fun e w' => e = .returned (.int .i64 (v.m.dur.length : Nat)) ∧ w = w' := by
  have D : Calls Try.prog 148 #[.pointer (some ⟨q, 0, none⟩)] w fun e w' => e = .returned (.int .i64 (v.m.dur.length : Nat)) ∧ w = w' := rSec_any (.pointer (some ⟨q, 0, none⟩)) (some v.m) L w ⟨q, rfl, h.d, h.ok.m⟩
  have hb := h.b
  unfold Pv.cells at hb
  have c0 := hb.cell' (i := 0) rfl
  clear h
  go_enter Try.func121, Try.ntmps121
  go_wp2_with (go_at_call 148; (with_reducible refine (D).mono ?_); rintro e w2 ⟨rfl, rfl⟩)
  go_ret
  exact ⟨rfl, rfl⟩
theorem qSize_any (p q : Nat) (v : Pv) (L : List Nat) (w : World) (h : Pr w p q v L) : Calls Try.prog 89 #[.pointer (some ⟨p, 0, none⟩)] w fun e w' => e = .returned (.int .i64 (v.m.sz : Nat)) ∧ w = w' := by
  have D : Calls Try.prog 126 #[.pointer (some ⟨q, 0, none⟩)] w fun e w' => e = .returned (.int .i64 (v.m.sz : Nat)) ∧ w = w' := rSz_any (.pointer (some ⟨q, 0, none⟩)) (some v.m) L w ⟨q, rfl, h.d, h.ok.m⟩
  have hb := h.b
  unfold Pv.cells at hb
  have c0 := hb.cell' (i := 0) rfl
  clear h
  go_enter Try.func89, Try.ntmps89
  go_wp2_with (go_at_call 126; (with_reducible refine (D).mono ?_); rintro e w2 ⟨rfl, rfl⟩)
  go_ret
  exact ⟨rfl, rfl⟩
theorem qWaiting_any (p q : Nat) (v : Pv) (L : List Nat) (w : World) (h : Pr w p q v L) : Calls Try.prog 92 #[.pointer (some ⟨p, 0, none⟩)] w fun e w' => e = .returned (.int .i64 (v.m.row.length : Nat)) ∧ w = w' := by
  have D : Calls Try.prog 127 #[.pointer (some ⟨q, 0, none⟩)] w fun e w' => e = .returned (.int .i64 (v.m.row.length : Nat)) ∧ w = w' := rWt_any (.pointer (some ⟨q, 0, none⟩)) (some v.m) L w ⟨q, rfl, h.d, h.ok.m⟩
  have hb := h.b
  unfold Pv.cells at hb
  have c0 := hb.cell' (i := 0) rfl
  clear h
  go_enter Try.func92, Try.ntmps92
  go_wp2_with (go_at_call 127; (with_reducible refine (D).mono ?_); rintro e w2 ⟨rfl, rfl⟩)
  go_ret
  exact ⟨rfl, rfl⟩
theorem qImage_any (p q : Nat) (v : Pv) (L : List Nat) (w : World) (h : Pr w p q v L) : Calls Try.prog 52 #[.pointer (some ⟨p, 0, none⟩)] w (ImgPost w v.m.dur) := by
  have D : Calls Try.prog 94 #[.pointer (some ⟨q, 0, none⟩)] w (ImgPost w v.m.dur) := rI_any (.pointer (some ⟨q, 0, none⟩)) (some v.m) L w ⟨q, rfl, h.d, h.ok.m⟩
  unfold ImgPost at D ⊢
  have hb := h.b
  unfold Pv.cells at hb
  have c0 := hb.cell' (i := 0) rfl
  clear h
  go_enter Try.func52, Try.ntmps52
  go_wp2_with (go_at_call 94; (with_reducible refine (D).mono ?_); rintro e w2 ⟨v2, dq, rfl, h2, h3, h4⟩)
  go_ret
  exact ⟨_, dq, rfl, h2, h3, h4⟩
theorem qDown_any (p q : Nat) (v : Pv) (w : World) (h : Blk w p 141 (v.cells q)) : Calls Try.prog 91 #[.pointer (some ⟨p, 0, none⟩)] w fun e w' => e = .returned (.bool v.off) ∧ w = w' := by
  obtain ⟨m, off, ar, n⟩ := v
  have hb := h
  unfold Pv.cells at hb
  dsimp only at hb ⊢
  have c1 := hb.cell' (i := 1) rfl
  clear h
  go_enter Try.func91, Try.ntmps91
  go_wp2_with fail
  go_ret
  exact ⟨rfl, rfl⟩
theorem qCount_any (p q : Nat) (v : Pv) (w : World) (h : Blk w p 141 (v.cells q)) : Calls Try.prog 90 #[.pointer (some ⟨p, 0, none⟩)] w fun e w' => e = .returned (.int .i64 (v.n : Nat)) ∧ w = w' := by
  obtain ⟨m, off, ar, n⟩ := v
  have hb := h
  unfold Pv.cells at hb
  dsimp only at hb ⊢
  have c1 := hb.cell' (i := 3) rfl
  clear h
  go_enter Try.func90, Try.ntmps90
  go_wp2_with fail
  go_ret
  exact ⟨rfl, rfl⟩
theorem qArm_any (p q : Nat) (v : Pv) (L : List Nat) (n : Int) (w : World) (h : Pr w p q v L) (hn : n ≤ 9223372036854775807) : Calls Try.prog 84 #[.pointer (some ⟨p, 0, none⟩), .int .i64 n] w fun e w' => e = .returned (.int .i64 (if v.off = true then 60 else 0)) ∧ Pr w' p q (v.arm n) L ∧ Mod [p] w w' := by
  have hb := h.b
  have hfin : ∀ w', Mod [p] w w' → ∀ ar, ar = max n (-1) → v.off = false → Blk w' p 141 [.pointer (some ⟨q, 0, none⟩), .bool v.off, .int .i64 ar, .int .i64 (v.n : Nat)] → Pr w' p q (v.arm n) L := fun w' hm ar har ho hB => by
    unfold Pv.arm
    rw [ho, if_neg (by decide)]
    have := h.ok.a2
    exact ⟨by unfold Pv.cells; dsimp only; rw [← har, ← ho]; exact hB, h.d.mod hm (fun b hb hh => h.pl (by have e : b = p := (by simpa using hh); exact e ▸ hb)), ⟨h.ok.m, by dsimp only; omega, by dsimp only; omega⟩, h.pl⟩
  have hsame : v.off = true → Pr w p q (v.arm n) L := fun ho => by unfold Pv.arm; rw [if_pos ho]; exact h
  unfold Pv.cells at hb
  have c1 := hb.cell' (i := 1) rfl
  cases hoff : v.off with
  | true =>
    rw [hoff] at c1
    have hs := hsame hoff
    have HS := Lib.hid hs
    clear hs h hfin hsame hoff
    go_enter Try.func84, Try.ntmps84
    go_wp2_with fail
    go_ret
    exact ⟨rfl, HS.out, Mod.refl _ _⟩
  | false =>
    rw [hoff] at c1
    have HF := Lib.hid (fun w' hm ar har hB => hfin w' hm ar har hoff hB)
    have HO := Lib.hid hoff
    clear h hfin hsame hoff
    by_cases hneg : n < -1
    · have e1 : max n (-1) = -1 := by omega
      have y1 : n ≤ -1 := by omega
      have HE := Lib.hid e1
      clear e1
      go_enter Try.func84, Try.ntmps84
      go_wp2_with (with_reducible refine st_store ?_)
      refine StopOp.go rfl fun K hK => ?_
      refine wp_store1 (by kernel_rfl) (by rfl) (u := .int .i64 (-1)) (by rfl) ⟨rfl, rfl⟩ hb (by simp) ?_
      intro w2 hm2 hB2
      refine hK _ _ ?_
      clear hK K
      go_wp2_with fail
      go_ret
      exact ⟨rfl, HF.out _ hm2 _ HE.out.symm hB2, hm2⟩
    · have e1 : max n (-1) = n := by omega
      have y1 : -1 ≤ n := by omega
      have HE := Lib.hid e1
      clear e1
      go_enter Try.func84, Try.ntmps84
      go_wp2_with (with_reducible refine st_store ?_)
      refine StopOp.go rfl fun K hK => ?_
      refine wp_store1 (by kernel_rfl) (by rfl) (u := .int .i64 n) (by rfl) ⟨rfl, rfl⟩ hb (by simp) ?_
      intro w2 hm2 hB2
      refine hK _ _ ?_
      clear hK K
      go_wp2_with fail
      go_ret
      exact ⟨rfl, HF.out _ hm2 _ HE.out.symm hB2, hm2⟩
set_option maxHeartbeats 1000000 in
theorem qWrite_any (p q : Nat) (v : Pv) (L : List Nat) (at_ : Int) (l : List UInt8) (bw : Value) (w : World) (h : Pr w p q v L) (hb : Bs w bw l) (hbp : ∀ b ∈ blks bw, b ≠ p) (hn : v.n ≤ 1000000) (hr : v.m.row.length ≤ 1000000) :
    Calls Try.prog 124 #[.pointer (some ⟨p, 0, none⟩), .int .i64 at_, bw] w fun e w' => e = .returned (.int .i64 (v.e (writeE v.m at_ l.length))) ∧ PrP w p q (v.wr at_ l) L w' := by
  obtain ⟨aob, capb, rfl, _, _⟩ := hb.form
  have MD := qmade_any p q v w h.b h.ok hn
  have hd := h.d
  have hok := h.ok
  have hpl : ∀ b ∈ L, b ∉ [p] := fun b hb hh => h.pl (by have e : b = p := (by simpa using hh); exact e ▸ hb)
  have hp := h.pl
  rcases v.go_cases with ⟨hg, _, _⟩ | hg
  · have hfin : ∀ w2 w' L', Blk w2 p 141 (v.md.cells q) → Mod [p] w w2 → Lr w' (.pointer (some ⟨q, 0, none⟩)) (some (wrM v.m at_ l)) L' → Mod L w2 w' → (∀ k ∈ L', k ∈ L ∨ w2.heap.size ≤ k) → PrP w p q (v.wr at_ l) L w' := fun w2 w' L' hB hm hD hm2 hL => by
      obtain ⟨q', e1, e2, e3⟩ := hD
      injection e1 with e1
      injection e1 with e1
      injection e1 with e1
      subst e1
      have hs := hm.size
      have hpw := h.b.lt
      refine ⟨L', ⟨?_, ?_, ?_, fun hh => (hL p hh).elim hp (fun h => by omega)⟩, (hm.weak (by simp)).then hm2 (fun g hg => .inl (List.mem_cons_of_mem _ hg)), fun k hk => (hL k hk).imp id (fun h => by omega)⟩
      · unfold Pv.wr
        rw [if_pos hg]
        exact hB.mod hm2 hp
      · unfold Pv.wr
        rw [if_pos hg]
        exact e2
      · unfold Pv.wr
        rw [if_pos hg]
        exact Pv.at_ok (Pv.md_ok hok) (wrM_ok hok.m _ _)
    have HF := Lib.hid hfin
    rw [hg] at MD
    rw [show v.e (writeE v.m at_ l.length) = writeE v.m at_ l.length from if_pos hg]
    have hgo := Lib.hid hg
    clear hg hfin h
    go_enter Try.func124, Try.ntmps124
    go_wp2_with (first
                  | (go_at_call 149; (with_reducible refine (MD).mono ?_); rintro e w2 ⟨rfl, hB2, hm2⟩; have hd2 := hd.mod hm2 hpl; have hb2 : Bs w2 _ l := Sl.mod hb hm2 (fun b hb hh => hbp b hb (by simpa using hh)); have c0 := hB2.cell' (i := 0) rfl)
                  | (go_at_call 151; refine (rW_any (.pointer (some ⟨q, 0, none⟩)) _ at_ l (some v.m) L w2 ⟨q, rfl, hd2, hok.m⟩ hb2 hr).mono ?_; rintro e w3 ⟨rfl, L3, k1, k2, k3⟩))
    go_ret
    exact ⟨rfl, HF.out w2 w3 L3 hB2 hm2 k1 k2 k3⟩
  · have hfin : ∀ w2, Blk w2 p 141 (v.md.cells q) → Mod [p] w w2 → PrP w p q (v.wr at_ l) L w2 := fun w2 hB hm => by
      refine ⟨L, ⟨?_, ?_, ?_, hp⟩, hm.weak (by simp), fun k hk => .inl hk⟩
      · unfold Pv.wr
        rw [if_neg (by rw [hg]; decide)]
        exact hB
      · unfold Pv.wr
        rw [if_neg (by rw [hg]; decide), Pv.md_m]
        exact hd.mod hm hpl
      · unfold Pv.wr
        rw [if_neg (by rw [hg]; decide)]
        exact Pv.md_ok hok
    have HF := Lib.hid hfin
    rw [hg] at MD
    rw [show v.e (writeE v.m at_ l.length) = 60 from if_neg (by rw [hg]; decide)]
    clear hg hfin h
    go_enter Try.func124, Try.ntmps124
    go_wp2_with (go_at_call 149; (with_reducible refine (MD).mono ?_); rintro e w2 ⟨rfl, hB2, hm2⟩)
    go_ret
    exact ⟨rfl, HF.out w2 hB2 hm2⟩
set_option maxHeartbeats 1000000 in
theorem qSync_any (p q : Nat) (v : Pv) (L : List Nat) (w : World) (h : Pr w p q v L) (hn : v.n ≤ 1000000) (hr : v.m.row.length ≤ 1000000) :
    Calls Try.prog 125 #[.pointer (some ⟨p, 0, none⟩)] w fun e w' => e = .returned (.int .i64 (v.e (0))) ∧ PrP w p q (v.sy) L w' := by
  have MD := qmade_any p q v w h.b h.ok hn
  have hd := h.d
  have hok := h.ok
  have hpl : ∀ b ∈ L, b ∉ [p] := fun b hb hh => h.pl (by have e : b = p := (by simpa using hh); exact e ▸ hb)
  have hp := h.pl
  rcases v.go_cases with ⟨hg, _, _⟩ | hg
  · have hfin : ∀ w2 w' L', Blk w2 p 141 (v.md.cells q) → Mod [p] w w2 → Lr w' (.pointer (some ⟨q, 0, none⟩)) (some (v.m.sync)) L' → Mod L w2 w' → (∀ k ∈ L', k ∈ L ∨ w2.heap.size ≤ k) → PrP w p q (v.sy) L w' := fun w2 w' L' hB hm hD hm2 hL => by
      obtain ⟨q', e1, e2, e3⟩ := hD
      injection e1 with e1
      injection e1 with e1
      injection e1 with e1
      subst e1
      have hs := hm.size
      have hpw := h.b.lt
      refine ⟨L', ⟨?_, ?_, ?_, fun hh => (hL p hh).elim hp (fun h => by omega)⟩, (hm.weak (by simp)).then hm2 (fun g hg => .inl (List.mem_cons_of_mem _ hg)), fun k hk => (hL k hk).imp id (fun h => by omega)⟩
      · unfold Pv.sy
        rw [if_pos hg]
        exact hB.mod hm2 hp
      · unfold Pv.sy
        rw [if_pos hg]
        exact e2
      · unfold Pv.sy
        rw [if_pos hg]
        exact Pv.at_ok (Pv.md_ok hok) (hok.m.settle _)
    have HF := Lib.hid hfin
    rw [hg] at MD
    rw [show v.e (0) = 0 from if_pos hg]
    have hgo := Lib.hid hg
    clear hg hfin h
    go_enter Try.func125, Try.ntmps125
    go_wp2_with (first
                  | (go_at_call 149; (with_reducible refine (MD).mono ?_); rintro e w2 ⟨rfl, hB2, hm2⟩; have hd2 := hd.mod hm2 hpl; skip; have c0 := hB2.cell' (i := 0) rfl)
                  | (go_at_call 152; refine (rS_any (.pointer (some ⟨q, 0, none⟩)) (some v.m) L w2 ⟨q, rfl, hd2, hok.m⟩ hr).mono ?_; rintro e w3 ⟨rfl, L3, k1, k2, k3⟩))
    go_ret
    exact ⟨rfl, HF.out w2 w3 L3 hB2 hm2 k1 k2 k3⟩
  · have hfin : ∀ w2, Blk w2 p 141 (v.md.cells q) → Mod [p] w w2 → PrP w p q (v.sy) L w2 := fun w2 hB hm => by
      refine ⟨L, ⟨?_, ?_, ?_, hp⟩, hm.weak (by simp), fun k hk => .inl hk⟩
      · unfold Pv.sy
        rw [if_neg (by rw [hg]; decide)]
        exact hB
      · unfold Pv.sy
        rw [if_neg (by rw [hg]; decide), Pv.md_m]
        exact hd.mod hm hpl
      · unfold Pv.sy
        rw [if_neg (by rw [hg]; decide)]
        exact Pv.md_ok hok
    have HF := Lib.hid hfin
    rw [hg] at MD
    rw [show v.e (0) = 60 from if_neg (by rw [hg]; decide)]
    clear hg hfin h
    go_enter Try.func125, Try.ntmps125
    go_wp2_with (go_at_call 149; (with_reducible refine (MD).mono ?_); rintro e w2 ⟨rfl, hB2, hm2⟩)
    go_ret
    exact ⟨rfl, HF.out w2 hB2 hm2⟩
set_option maxHeartbeats 1000000 in
theorem qRead_any (p q : Nat) (v : Pv) (L : List Nat) (at_ : Int) (w : World) (h : Pr w p q v L) (hn : v.n ≤ 1000000) :
    Calls Try.prog 123 #[.pointer (some ⟨p, 0, none⟩), .int .i64 at_] w fun e w' => ∃ rv, e = .returned (.tuple #[rv, .int .i64 (v.e (noneE v.m.dur.length at_))]) ∧ Ob w' rv (v.rd at_) ∧ New w rv ∧ Pr w' p q v.md L ∧ Mod [p] w w' := by
  have MD := qmade_any p q v w h.b h.ok hn
  have hpl : ∀ b ∈ L, b ∉ [p] := fun b hb hh => h.pl (by have e : b = p := (by simpa using hh); exact e ▸ hb)
  have hd := h.d
  have hok := h.ok
  have HF := Lib.hid (show ∀ w2, Blk w2 p 141 (v.md.cells q) → Mod [p] w w2 → Pr w2 p q v.md L from fun w2 hB hm => ⟨hB, by rw [Pv.md_m]; exact hd.mod hm hpl, Pv.md_ok hok, h.pl⟩)
  rcases v.go_cases with ⟨hg, _, _⟩ | hg
  · have RD := fun w h => rR_any (.pointer (some ⟨q, 0, none⟩)) at_ (some v.m) L w h
    have e1 : oRE at_ (some v.m) = noneE v.m.dur.length at_ := rfl
    rw [e1] at RD
    rw [show v.rd at_ = oR at_ (some v.m) from if_pos hg, show v.e (noneE v.m.dur.length at_) = noneE v.m.dur.length at_ from if_pos hg]
    rw [hg] at MD
    obtain ⟨B, hB⟩ : ∃ B, B = oR at_ (some v.m) := ⟨_, rfl⟩
    obtain ⟨E, hE⟩ : ∃ B, B = noneE v.m.dur.length at_ := ⟨_, rfl⟩
    rw [← hB, ← hE] at RD ⊢
    clear hg hB hE e1 h
    go_enter Try.func123, Try.ntmps123
    go_wp2_with (first
                  | (go_at_call 149; (with_reducible refine (MD).mono ?_); rintro e w2 ⟨rfl, hB2, hm2⟩; have hd2 := hd.mod hm2 hpl; have c0 := hB2.cell' (i := 0) rfl)
                  | (go_at_call 150; refine (RD _ ⟨q, rfl, hd2, hok.m⟩).mono ?_; rintro e w3 ⟨v3, rfl, ho3, hn3, hm3⟩))
    go_ret2
    have := hm2.size
    exact ⟨v3, rfl, ho3, fun k hk => by have := hn3 k hk; omega, (HF.out w2 hB2 hm2).ext hm3, hm2.ext hm3⟩
  · rw [show v.rd at_ = [] from if_neg (by rw [hg]; decide), show v.e (noneE v.m.dur.length at_) = 60 from if_neg (by rw [hg]; decide)]
    rw [hg] at MD
    clear hg h
    go_enter Try.func123, Try.ntmps123
    go_wp2_with (go_at_call 149; (with_reducible refine (MD).mono ?_); rintro e w2 ⟨rfl, hB2, hm2⟩)
    go_ret2
    exact ⟨_, rfl, Ob.nil _, by simp [New, blks], HF.out w2 hB2 hm2, hm2⟩
end Go.Proofs.Ytdmnogmhnhjdgaa
