import Derived.Test.YtkedbphdflhhlaaDkW
/-! Disks: Read. -/
set_option linter.unusedVariables false
set_option linter.unusedSimpArgs false
set_option maxRecDepth 100000
namespace Go.Proofs.Ytkedbphdflhhlaa
open Go.RowKit Gw

theorem find_map {rp : List (Nat × Value × List UInt8)} (a : Nat) : (rp.map fun x => (x.1, x.2.2)).reverse.find? (fun x => decide (x.1 = a)) = (rp.reverse.find? fun x => decide ((x.1 : Int) = (a : Nat))).map fun x => (x.1, x.2.2) := by
  have e : ((fun x : Nat × List UInt8 => decide (x.1 = a)) ∘ fun x : Nat × Value × List UInt8 => (x.1, x.2.2)) = fun x => decide ((x.1 : Int) = (a : Nat)) := by
    funext x
    simp [Function.comp, Int.ofNat_inj]
  rw [← List.map_reverse, List.find?_map, e]
theorem newest_some {sz : Nat} {dp : List (Value × List UInt8)} {rp : List (Nat × Value × List UInt8)} {a : Nat} {v : Value} (h : newest rp (a : Nat) = some v) : (v, (Dm.of sz dp rp).read a) ∈ dp ++ rp.map (·.2) := by
  unfold newest at h
  unfold Dm.read Dm.of
  dsimp only
  rw [find_map a]
  cases hf : rp.reverse.find? (fun x => decide ((x.1 : Int) = (a : Nat))) with
  | none => rw [hf] at h; cases h
  | some x =>
    rw [hf] at h
    cases h
    exact List.mem_append_right _ (List.mem_map.2 ⟨x, List.mem_reverse.1 (List.mem_of_find?_eq_some hf), rfl⟩)
theorem newest_none {sz : Nat} {dp : List (Value × List UInt8)} {rp : List (Nat × Value × List UInt8)} {a : Nat} (h : newest rp (a : Nat) = none) (ha : a < dp.length) : (Dm.of sz dp rp).read a = dp[a].2 := by
  unfold newest at h
  unfold Dm.read Dm.of
  dsimp only
  rw [find_map a]
  cases hf : rp.reverse.find? (fun x => decide ((x.1 : Int) = (a : Nat))) with
  | some x => rw [hf] at h; cases h
  | none => simp [List.getElem?_eq_getElem ha]
theorem dread_no (v : Value) (at_ : Int) (w : World) (h : NoDk w v) : Calls Try.prog 40 #[v, .int .i64 at_] w fun e w' => e = .returned (.tuple #[.slice none 0 0, .int .i64 1]) ∧ w = w' := by
  have T := fun w h => none_no v at_ w h
  go_enter Try.func40, Try.ntmps40
  go_wp2_with (go_at_call 78; (with_reducible refine (T _ h).mono ?_); rintro e w1 ⟨rfl, rfl⟩)
  go_ret2
  exact ⟨rfl, rfl⟩
theorem dread_bad (p : Nat) (m : Dm) (L : List Nat) (at_ E : Int) (w : World) (h : Dk w p m L) (hs : 64 ≤ m.sz) (hE : noneE m.dur.length at_ = E) (hE0 : E ≠ 0) :
    Calls Try.prog 40 #[.pointer (some ⟨p, 0, none⟩), .int .i64 at_] w fun e w' => e = .returned (.tuple #[.slice none 0 0, .int .i64 E]) ∧ w = w' := by
  obtain ⟨D, R, M, hB, ⟨ao, cap, rfl, _⟩, ao', cap', rfl, _⟩ := h.blk
  have T := fun w h => none_any p m.sz m.dur.length cap ao (.slice ao' m.row.length cap') M at_ E w h hs hE
  have e1 : (E != 0) = true := by simpa using hE0
  clear h hE hE0
  go_enter Try.func40, Try.ntmps40
  go_wp2_with (go_at_call 78; (with_reducible refine (T _ hB).mono ?_); rintro e w1 ⟨rfl, rfl⟩)
  go_ret2
  exact ⟨rfl, rfl⟩
set_option maxRecDepth 1000000 in
set_option maxHeartbeats 4000000 in
theorem dread_ok (p : Nat) (m : Dm) (L : List Nat) (a : Nat) (w : World) (h : Dk w p m L) (hok : m.ok) (ha : a < m.dur.length) :
    Calls Try.prog 40 #[.pointer (some ⟨p, 0, none⟩), .int .i64 (a : Nat)] w fun e w' => ∃ v, e = .returned (.tuple #[v, .int .i64 0]) ∧ Ob w' v (m.read a) ∧ New w v ∧ Mod [] w w' := by
  have hrl := hok.read ha
  obtain ⟨D, R, M, dp, rp, hB, hm, hL⟩ := h
  obtain ⟨aoD, capD, rfl, hcD, _⟩ := hB.dur.sl.form
  obtain ⟨aoR, capR, rfl, hcR, _⟩ := hB.row.sl.form
  have had : a < dp.length := by rw [hm] at ha; simpa [Dm.of] using ha
  have hs1 := hok.s1
  have hs2 := hok.s2
  have hF : noneE dp.length (a : Nat) = 0 := by unfold noneE; rw [if_neg (by omega)]
  have T := fun w h => none_any p m.sz dp.length capD aoD (.slice aoR rp.length capR) M (a : Nat) 0 w h hs1 hF
  have c3 := hB.blk.cell' (i := 3) rfl
  have c1 := hB.blk.cell' (i := 1) rfl
  have hN1 := fun v (h : newest rp (a : Nat) = some v) => (newest_some (sz := m.sz) (dp := dp) h)
  have hN2 := fun (h : newest rp (a : Nat) = none) => (newest_none (sz := m.sz) (dp := dp) h had)
  rw [← hm] at hN1 hN2
  obtain ⟨B, hBr⟩ : ∃ B, B = m.read a := ⟨_, rfl⟩
  rw [← hBr] at hrl hN1 hN2 ⊢
  obtain ⟨sz, hsz⟩ : ∃ sz, sz = m.sz := ⟨_, rfl⟩
  rw [← hsz] at hB hrl hs1 hs2 T
  have l1 : 0 < B.length := by omega
  have l2 : B.length ≤ 140737488355328 := by omega
  clear hm hL hok hF ha hBr hsz hrl
  cases hN : newest rp (a : Nat) with
  | some v =>
    have hv := (hB.fam.ob _ (hN1 v hN)).1
    dsimp only at hv
    have HN := Lib.hid hN
    clear hN hN1 hN2
    obtain ⟨aov, capv, rfl, _, _⟩ := hv.bs.form
    go_enter Try.func40, Try.ntmps40
    go_wp2_with (first
                  | (with_reducible refine st_lookup ?_)
                  | (go_at_call 78; (with_reducible refine (T _ hB.blk).mono ?_); rintro e w1 ⟨rfl, rfl⟩))
    refine StopOp.go rfl fun K hK => ?_
    refine wp_look_some (z := .slice none 0 0) Try.underlying108 Try.underlying3 (by kernel_rfl) (by rfl) (by rfl) hB.map HN.out ?_
    simp only [put_some, List.set_cons_succ, List.set_cons_zero]
    refine hK _ _ ?_
    clear hK K
    go_wp2_with (go_at_call 79; refine (bclone_any B _ _ hv.bs l1 l2).mono ?_; rintro e w2 ⟨v2, rfl, ho2, hn2, hm2⟩)
    go_ret2
    exact ⟨_, rfl, ho2, hn2, hm2⟩
  | none =>
    have hr := hN2 hN
    have HN := Lib.hid hN
    have hsl := hB.dur.sl
    obtain ⟨bd, od, cd, hv, _, _, hcell⟩ := hsl.at (by intro h; have := congrArg List.length h; simp at this; simp [this] at had)
    injection hv with e1 e2 e3
    subst e1 e3
    have hc := hcell a dp[a].1 (by simp [had])
    have hv := (hB.fam.ob dp[a] (List.mem_append_left _ (List.getElem_mem had))).1
    rw [← hr] at hv
    obtain ⟨v, hvv⟩ : ∃ v, v = dp[a].1 := ⟨_, rfl⟩
    rw [← hvv] at hv hc
    obtain ⟨aov, capv, rfl, _, _⟩ := hv.bs.form
    have y1 : (0 : Int) ≤ a := by omega
    have y2 : (a : Int) < dp.length := by omega
    clear hN hN1 hN2 hr hcell hvv hsl
    go_enter Try.func40, Try.ntmps40
    go_wp2_with (first
                  | (with_reducible refine st_lookup ?_)
                  | (go_at_call 78; (with_reducible refine (T _ hB.blk).mono ?_); rintro e w1 ⟨rfl, rfl⟩))
    refine StopOp.go rfl fun K hK => ?_
    refine wp_look_none (z := .slice none 0 0) Try.underlying108 Try.underlying3 (by kernel_rfl) (by rfl) (by rfl) hB.map HN.out ?_
    simp only [put_some, List.set_cons_succ, List.set_cons_zero]
    refine hK _ _ ?_
    clear hK K
    go_wp2_with (go_at_call 79; refine (bclone_any B _ _ hv.bs l1 l2).mono ?_; rintro e w2 ⟨v2, rfl, ho2, hn2, hm2⟩)
    go_ret2
    exact ⟨_, rfl, ho2, hn2, hm2⟩
end Go.Proofs.Ytkedbphdflhhlaa
