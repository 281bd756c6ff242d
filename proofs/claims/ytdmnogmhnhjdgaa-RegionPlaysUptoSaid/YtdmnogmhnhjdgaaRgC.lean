import Derived.Test.YtdmnogmhnhjdgaaRgB
/-! Regions: made, bytes, holds, New, and what is asked of them. -/
set_option linter.unusedVariables false
set_option linter.unusedSimpArgs false
set_option maxRecDepth 100000
namespace Go.Proofs.Ytdmnogmhnhjdgaa
open Go.RowKit Gw

theorem Bs.prefR {w : World} {ao : Option Addr} {n cap k : Nat} {l : List UInt8} (h : Bs w (.slice ao n cap) l) (hn : n = l.length) (hk : k ≤ n) (hc : k ≤ cap) : Bs w (.slice ao k cap) (l.take k) := by
  subst hn
  have h2 := Sl.cut (lo := 0) (hi := k) (m := cap) h (Nat.zero_le _) hk hc (Nat.le_refl _)
  have hl : (l.take k).length = k := by rw [List.length_take]; omega
  unfold Bs
  rw [hl]
  have e : bv (l.take k) = ((bv l).drop (0 * 1)).take ((k - 0) * 1) := by unfold bv; simp
  rw [e]
  have e2 : ao.map (·.add (0 * 1)) = ao := by cases ao <;> simp [Addr.add]
  rw [e2] at h2
  simpa using h2
theorem Bs.sufR {w : World} {ao : Option Addr} {n cap p : Nat} {l : List UInt8} (h : Bs w (.slice ao n cap) l) (hn : n = l.length) (hp : p ≤ n) (hc : n ≤ cap) : Bs w (.slice (if cap = p then ao else Option.map (fun x => x.add p) ao) (n - p) (cap - p)) (l.drop p) := by
  subst hn
  have h2 := Sl.cut (lo := p) (hi := l.length) (m := cap) h hp (Nat.le_refl _) hc (Nat.le_refl _)
  have hl : (l.drop p).length = l.length - p := List.length_drop
  unfold Bs
  rw [hl]
  have e : bv (l.drop p) = ((bv l).drop (p * 1)).take ((l.length - p) * 1) := by
    unfold bv
    rw [Nat.mul_one, Nat.mul_one, ← List.map_drop, List.take_of_length_le (by rw [List.length_map]; omega)]
  rw [e]
  simpa only [Nat.mul_one] using h2
theorem Bs.subR {w : World} {ao : Option Addr} {n cap lo hi : Nat} {l : List UInt8} (h : Bs w (.slice ao n cap) l) (h1 : lo ≤ hi) (h2 : hi ≤ l.length) (hc : n ≤ cap) (hn : n = l.length) (hcm : lo < cap) : Bs w (.slice (ao.map (·.add lo)) (hi - lo) (cap - lo)) ((l.drop lo).take (hi - lo)) := by
  subst hn
  have h3 := Sl.cut (lo := lo) (hi := hi) (m := cap) h h1 h2 (by omega) (Nat.le_refl _)
  have hl : ((l.drop lo).take (hi - lo)).length = hi - lo := by rw [List.length_take, List.length_drop]; omega
  unfold Bs
  rw [hl]
  have e : bv ((l.drop lo).take (hi - lo)) = ((bv l).drop (lo * 1)).take ((hi - lo) * 1) := by
    unfold bv
    rw [Nat.mul_one, Nat.mul_one, List.map_take, List.map_drop]
  rw [e]
  rw [if_neg (by omega)] at h3
  simpa only [Nat.mul_one] using h3
theorem gmade_no (v : Value) (w : World) (h : NoRg w v) : Calls Try.prog 74 #[v] w fun e w' => e = .returned (.bool false) ∧ w = w' := by
  rcases h with rfl | ⟨p, rfl, h⟩
  · go_enter Try.func74, Try.ntmps74
    go_wp2_with fail
    go_ret
    exact ⟨rfl, rfl⟩
  · have c0 := h.cell' (i := 0) rfl
    clear h
    go_enter Try.func74, Try.ntmps74
    go_wp2_with fail
    go_ret
    exact ⟨rfl, rfl⟩
theorem gmade_yes (r p f c z : Nat) (w : World) (h : Rgn w r p f c z) : Calls Try.prog 74 #[.pointer (some ⟨r, 0, none⟩)] w fun e w' => e = .returned (.bool true) ∧ w = w' := by
  have c0 := Blk.cell' h (i := 0) rfl
  clear h
  go_enter Try.func74, Try.ntmps74
  go_wp2_with fail
  go_ret
  exact ⟨rfl, rfl⟩
theorem gbytes_any (r p f c z : Nat) (w : World) (h : Rgn w r p f c z) (hb : c * z ≤ 1099511627776) : Calls Try.prog 82 #[.pointer (some ⟨r, 0, none⟩)] w fun e w' => e = .returned (.int .i64 (c * z : Nat)) ∧ Mod [] w w' := by
  have q : (c : Int) * (z : Int) = ((c * z : Nat) : Int) := (Int.natCast_mul c z).symm
  obtain ⟨B, hB⟩ : ∃ B, B = c * z := ⟨_, rfl⟩
  rw [← hB] at q hb ⊢
  clear hB
  have y0 : (B : Int) ≤ 1099511627776 := by omega
  go_enter Try.func82, Try.ntmps82
  go_wp2_with fail
  refine wp_region_T [⟨0, true, []⟩, ⟨1, true, []⟩, ⟨2, true, []⟩, ⟨3, true, []⟩, ⟨4, true, []⟩, ⟨5, true, []⟩, ⟨6, true, []⟩, ⟨7, true, []⟩, ⟨8, true, []⟩, ⟨9, true, []⟩, ⟨10, true, []⟩] (by kernel_rfl) (by kernel_rfl) ?_
  have hm := Mod.drew [] w
  obtain ⟨x, hx⟩ : ∃ x, x = w.drew := ⟨_, rfl⟩
  rw [← hx] at hm ⊢
  clear hx
  have h2 := h.ext hm
  have c1 := Blk.cell' h2 (i := 2) rfl
  have c2 := Blk.cell' h2 (i := 3) rfl
  iterate 11 (refine wpT_n rfl rfl (fun K hK => ?_); go_wp2_with fail)
  refine wpT_nil ?_
  go_wp2_with fail
  go_ret
  exact ⟨rfl, hm⟩
/-- are these bytes the region's? -/
def hold (B : Nat) (a n : Int) : Bool := decide (0 ≤ a ∧ 0 ≤ n ∧ a ≤ B ∧ n ≤ B - a)
set_option maxHeartbeats 2000000 in
theorem gholds_any (r p f c z : Nat) (a n : Int) (w : World) (h : Rgn w r p f c z) (hb : c * z ≤ 1099511627776) (ha : i64 a) (hn : i64 n) : Calls Try.prog 75 #[.pointer (some ⟨r, 0, none⟩), .int .i64 a, .int .i64 n] w fun e w' => e = .returned (.bool (hold (c * z) a n)) ∧ Mod [] w w' := by
  have BY := fun w h => gbytes_any r p f c z w h hb
  obtain ⟨B, hB⟩ : ∃ B, B = c * z := ⟨_, rfl⟩
  rw [← hB] at hb BY ⊢
  clear hB
  obtain ⟨ha1, ha2⟩ := ha
  obtain ⟨hn1, hn2⟩ := hn
  have y0 : (B : Int) ≤ 1099511627776 := by omega
  have y1 : (0 : Int) ≤ B := by omega
  by_cases g1 : 0 ≤ a
  · by_cases g2 : 0 ≤ n
    · by_cases g3 : a ≤ B
      · by_cases g4 : n ≤ B - a
        · rw [show hold B a n = true from decide_eq_true ⟨g1, g2, g3, g4⟩]
          go_enter Try.func75, Try.ntmps75
          go_wp2_with (first
                        | (go_at_call 82; (with_reducible refine (BY _ h).mono ?_); rintro e w1 ⟨rfl, hm1⟩; have h1 := h.ext hm1)
                        | (go_at_call 82; (with_reducible refine (BY _ h1).mono ?_); rintro e w2 ⟨rfl, hm2⟩))
          go_ret
          exact ⟨rfl, hm1.ext hm2⟩
        · rw [show hold B a n = false from decide_eq_false (fun hh => g4 hh.2.2.2)]
          have g5 : decide (n ≤ (B : Int) - a) = false := decide_eq_false g4
          go_enter Try.func75, Try.ntmps75
          go_wp2_with (first
                        | (go_at_call 82; (with_reducible refine (BY _ h).mono ?_); rintro e w1 ⟨rfl, hm1⟩; have h1 := h.ext hm1)
                        | (go_at_call 82; (with_reducible refine (BY _ h1).mono ?_); rintro e w2 ⟨rfl, hm2⟩))
          go_ret
          exact ⟨rfl, hm1.ext hm2⟩
      · rw [show hold B a n = false from decide_eq_false (fun hh => g3 hh.2.2.1)]
        have g5 : (B : Int) < a := by omega
        go_enter Try.func75, Try.ntmps75
        go_wp2_with (go_at_call 82; (with_reducible refine (BY _ h).mono ?_); rintro e w1 ⟨rfl, hm1⟩)
        go_ret
        exact ⟨rfl, hm1⟩
    · rw [show hold B a n = false from decide_eq_false (fun hh => g2 hh.2.1)]
      have g5 : n < 0 := by omega
      go_enter Try.func75, Try.ntmps75
      go_wp2_with fail
      go_ret
      exact ⟨rfl, Mod.refl _ _⟩
  · rw [show hold B a n = false from decide_eq_false (fun hh => g1 hh.1)]
    have g5 : a < 0 := by omega
    go_enter Try.func75, Try.ntmps75
    go_wp2_with fail
    go_ret
    exact ⟨rfl, Mod.refl _ _⟩
/-- of no region -/
theorem gBytes_no (v : Value) (w : World) (h : NoRg w v) : Calls Try.prog 42 #[v] w fun e w' => e = .returned (.int .i64 0) ∧ w = w' := by
  have NO := fun w h => gmade_no v w h
  go_enter Try.func42, Try.ntmps42
  go_wp2_with (go_at_call 74; (with_reducible refine (NO _ h).mono ?_); rintro e w1 ⟨rfl, rfl⟩)
  go_ret
  exact ⟨rfl, rfl⟩
theorem gSize_no (v : Value) (w : World) (h : NoRg w v) : Calls Try.prog 43 #[v] w fun e w' => e = .returned (.int .i64 0) ∧ w = w' := by
  have NO := fun w h => gmade_no v w h
  go_enter Try.func43, Try.ntmps43
  go_wp2_with (go_at_call 74; (with_reducible refine (NO _ h).mono ?_); rintro e w1 ⟨rfl, rfl⟩)
  go_ret
  exact ⟨rfl, rfl⟩
theorem gCount_no (v : Value) (w : World) (h : NoRg w v) : Calls Try.prog 44 #[v] w fun e w' => e = .returned (.int .i64 0) ∧ w = w' := by
  have NO := fun w h => gmade_no v w h
  go_enter Try.func44, Try.ntmps44
  go_wp2_with (go_at_call 74; (with_reducible refine (NO _ h).mono ?_); rintro e w1 ⟨rfl, rfl⟩)
  go_ret
  exact ⟨rfl, rfl⟩
theorem gSync_no (v : Value) (w : World) (h : NoRg w v) : Calls Try.prog 41 #[v] w fun e w' => e = .returned (.int .i64 1) ∧ w = w' := by
  have NO := fun w h => gmade_no v w h
  go_enter Try.func41, Try.ntmps41
  go_wp2_with (go_at_call 74; (with_reducible refine (NO _ h).mono ?_); rintro e w1 ⟨rfl, rfl⟩)
  go_ret
  exact ⟨rfl, rfl⟩
theorem gDown_no (v : Value) (w : World) (h : NoRg w v) : Calls Try.prog 45 #[v] w fun e w' => e = .returned (.bool false) ∧ w = w' := by
  have NO := fun w h => gmade_no v w h
  go_enter Try.func45, Try.ntmps45
  go_wp2_with (go_at_call 74; (with_reducible refine (NO _ h).mono ?_); rintro e w1 ⟨rfl, rfl⟩)
  go_ret
  exact ⟨rfl, rfl⟩
theorem NoRg.ext {w w' : World} {v : Value} (h : NoRg w v) (hm : Mod [] w w') : NoRg w' v := h.imp id fun ⟨r, h1, h2⟩ => ⟨r, h1, h2.ext hm⟩
theorem gRead_no (v : Value) (a n : Int) (w : World) (h : NoRg w v) : Calls Try.prog 37 #[v, .int .i64 a, .int .i64 n] w fun e w' => e = .returned (.tuple #[.slice none 0 0, .int .i64 1]) ∧ Mod [] w w' := by
  have NO := fun w h => gmade_no v w h
  have key : ∀ x, v = .pointer x → Calls Try.prog 37 #[v, .int .i64 a, .int .i64 n] w fun e w' => e = .returned (.tuple #[.slice none 0 0, .int .i64 1]) ∧ Mod [] w w' := by
    rintro x rfl
    go_enter Try.func37, Try.ntmps37
    go_wp2_with (with_reducible refine st_box ?_)
    refine StopOp.go rfl fun K hK => ?_
    refine wp_box (v := .pointer x) (by rfl) ?_
    intro t w1 ht1 ht2 hm1 hT
    simp only [put_some, List.set_cons_succ, List.set_cons_zero]
    refine hK _ _ ?_
    clear hK K
    have h1 := h.ext hm1
    have c0 := hT.cell' (i := 0) rfl
    go_wp2_with (go_at_call 74; (with_reducible refine (NO _ h1).mono ?_); rintro e w2 ⟨rfl, rfl⟩)
    go_ret2
    exact ⟨rfl, hm1⟩
  rcases h with h' | ⟨r, h', _⟩
  · exact key _ h'
  · exact key _ h'
theorem gWrite_no (v : Value) (a : Int) (bw : Value) (l : List UInt8) (w : World) (h : NoRg w v) (hb : Bs w bw l) : Calls Try.prog 34 #[v, .int .i64 a, bw] w fun e w' => e = .returned (.int .i64 1) ∧ Mod [] w w' := by
  have NO := fun w h => gmade_no v w h
  obtain ⟨ao, cap, rfl, _, _⟩ := hb.form
  have key : ∀ x, v = .pointer x → Calls Try.prog 34 #[v, .int .i64 a, .slice ao l.length cap] w fun e w' => e = .returned (.int .i64 1) ∧ Mod [] w w' := by
    rintro x rfl
    go_enter Try.func34, Try.ntmps34
    go_wp2_with (with_reducible refine st_box ?_)
    refine StopOp.go rfl fun K hK => ?_
    refine wp_box (v := .pointer x) (by rfl) ?_
    intro t w1 ht1 ht2 hm1 hT
    simp only [put_some, List.set_cons_succ, List.set_cons_zero]
    refine hK _ _ ?_
    clear hK K
    go_wp2_with (with_reducible refine st_box ?_)
    refine StopOp.go rfl fun K hK => ?_
    refine wp_box (v := .slice ao l.length cap) (by rfl) ?_
    intro u w2 hu1 hu2 hm2 hU
    simp only [put_some, List.set_cons_succ, List.set_cons_zero]
    refine hK _ _ ?_
    clear hK K
    have h1 := (h.ext hm1).ext hm2
    have c0 := (Blk.ext hT hm2).cell' (i := 0) rfl
    go_wp2_with (go_at_call 74; (with_reducible refine (NO _ h1).mono ?_); rintro e w3 ⟨rfl, rfl⟩)
    go_ret
    exact ⟨rfl, hm1.ext hm2⟩
  rcases h with h' | ⟨r, h', _⟩
  · exact key _ h'
  · exact key _ h'
/-- of a region -/
theorem gBytes_any (r p f c z : Nat) (w : World) (h : Rgn w r p f c z) (hb : c * z ≤ 1099511627776) : Calls Try.prog 42 #[.pointer (some ⟨r, 0, none⟩)] w fun e w' => e = .returned (.int .i64 (c * z : Nat)) ∧ Mod [] w w' := by
  have MA := fun w h => gmade_yes r p f c z w h
  have BY := fun w h => gbytes_any r p f c z w h hb
  go_enter Try.func42, Try.ntmps42
  go_wp2_with (first
                | (go_at_call 74; (with_reducible refine (MA _ h).mono ?_); rintro e w1 ⟨rfl, rfl⟩)
                | (go_at_call 82; (with_reducible refine (BY _ h).mono ?_); rintro e w1 ⟨rfl, hm1⟩))
  go_ret
  exact ⟨rfl, hm1⟩
theorem gSize_any (r p f c z : Nat) (w : World) (h : Rgn w r p f c z) : Calls Try.prog 43 #[.pointer (some ⟨r, 0, none⟩)] w fun e w' => e = .returned (.int .i64 (z : Nat)) ∧ w = w' := by
  have MA := fun w h => gmade_yes r p f c z w h
  have c3 := Blk.cell' h (i := 3) rfl
  go_enter Try.func43, Try.ntmps43
  go_wp2_with (go_at_call 74; (with_reducible refine (MA _ h).mono ?_); rintro e w1 ⟨rfl, rfl⟩)
  go_ret
  exact ⟨rfl, rfl⟩
theorem gSync_any (r p q f c z : Nat) (v : Pv) (L : List Nat) (w : World) (h : Rgn w r p f c z) (hP : Pd w p q v L) (hn : v.n ≤ 1000000) (hr : v.m.row.length ≤ 1000000) : Calls Try.prog 41 #[.pointer (some ⟨r, 0, none⟩)] w fun e w' => e = .returned (.int .i64 (v.e 0)) ∧ PdP w p q v.sy L w' := by
  have MA := fun w h => gmade_yes r p f c z w h
  have SY := fun w h => pSync_any p q v L w h hn hr
  have c0 := Blk.cell' h (i := 0) rfl
  go_enter Try.func41, Try.ntmps41
  go_wp2_with (first
                | (go_at_call 74; (with_reducible refine (MA _ h).mono ?_); rintro e w1 ⟨rfl, rfl⟩)
                | (go_at_call 54; (with_reducible refine (SY _ hP).mono ?_); rintro e w1 ⟨rfl, hp1⟩))
  go_ret
  exact ⟨rfl, hp1⟩
theorem gCount_any (r p q f c z : Nat) (v : Pv) (w : World) (h : Rgn w r p f c z) (hP : Blk w p 55 (v.cells q)) : Calls Try.prog 44 #[.pointer (some ⟨r, 0, none⟩)] w fun e w' => e = .returned (.int .i64 (v.n : Nat)) ∧ w = w' := by
  have MA := fun w h => gmade_yes r p f c z w h
  have CO := fun w h => pCount_any p q v w h
  have c0 := Blk.cell' h (i := 0) rfl
  go_enter Try.func44, Try.ntmps44
  go_wp2_with (first
                | (go_at_call 74; (with_reducible refine (MA _ h).mono ?_); rintro e w1 ⟨rfl, rfl⟩)
                | (go_at_call 20; (with_reducible refine (CO _ hP).mono ?_); rintro e w1 ⟨rfl, rfl⟩))
  go_ret
  exact ⟨rfl, rfl⟩
theorem gDown_any (r p q f c z : Nat) (v : Pv) (w : World) (h : Rgn w r p f c z) (hP : Blk w p 55 (v.cells q)) : Calls Try.prog 45 #[.pointer (some ⟨r, 0, none⟩)] w fun e w' => e = .returned (.bool v.off) ∧ w = w' := by
  have MA := fun w h => gmade_yes r p f c z w h
  have DO := fun w h => pDown_any p q v w h
  have c0 := Blk.cell' h (i := 0) rfl
  go_enter Try.func45, Try.ntmps45
  go_wp2_with (first
                | (go_at_call 74; (with_reducible refine (MA _ h).mono ?_); rintro e w1 ⟨rfl, rfl⟩)
                | (go_at_call 17; (with_reducible refine (DO _ hP).mono ?_); rintro e w1 ⟨rfl, rfl⟩))
  go_ret
  exact ⟨rfl, rfl⟩
end Go.Proofs.Ytdmnogmhnhjdgaa
