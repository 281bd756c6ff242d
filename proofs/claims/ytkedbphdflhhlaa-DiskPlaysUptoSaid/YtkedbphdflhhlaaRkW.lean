import Derived.Test.YtkedbphdflhhlaaRkC
/-! The reference's disks: Write, Read, Image. -/
set_option linter.unusedVariables false
set_option linter.unusedSimpArgs false
set_option maxRecDepth 100000
namespace Go.Proofs.Ytkedbphdflhhlaa
open Go.RowKit Gw

theorem rwrite_no (v bvv : Value) (at_ : Int) (w : World) (h : NoRk w v) : Calls Try.prog 88 #[v, .int .i64 at_, bvv] w fun e w' => e = .returned (.int .i64 1) ∧ w = w' := by
  have T := fun w h => rwrong_no v at_ w h
  go_enter Try.func88, Try.ntmps88
  go_wp2_with (go_at_call 120; (with_reducible refine (T _ h).mono ?_); rintro e w1 ⟨rfl, rfl⟩)
  go_ret
  exact ⟨rfl, rfl⟩
theorem rwrite_bad (p : Nat) (m : Dm) (L : List Nat) (at_ E : Int) (l : List UInt8) (bvv : Value) (w : World) (h : Rk w p m L) (hok : m.ok) (hb : Bs w bvv l) (hE : writeE m at_ l.length = E) (hE0 : E ≠ 0) :
    Calls Try.prog 88 #[.pointer (some ⟨p, 0, none⟩), .int .i64 at_, bvv] w fun e w' => e = .returned (.int .i64 E) ∧ w = w' := by
  obtain ⟨ao0, cap0, rfl, hnc0, hcap0⟩ := hb.form
  have SZ := fun w h => rSize_any p m L w h hok
  obtain ⟨D, R, hB, ⟨ao, cap, rfl, _⟩, ao', cap', rfl, _⟩ := h.blk
  obtain ⟨F, hF⟩ : ∃ F, noneE m.dur.length at_ = F := ⟨_, rfl⟩
  have T := fun w h => rwrong_any p m.dur.length cap ao (.slice ao' m.row.length cap') at_ F w h hok.n1 hF
  unfold writeE at hE
  rw [hF] at hE
  clear hF hok
  by_cases h0 : F = 0
  · subst h0
    rw [if_pos rfl] at hE
    have hn : l.length ≠ m.sz := fun hh => hE0 (by rw [← hE, if_pos hh])
    rw [if_neg hn] at hE
    subst hE
    have e1 : (l.length == m.sz) = false := by simpa using hn
    have e2 : ((l.length : Int) == m.sz) = false := by simp; omega
    have e3 : (l.length != m.sz) = true := by simpa using hn
    have e4 : ((l.length : Int) != m.sz) = true := by simp; omega
    clear hn hE0
    go_enter Try.func88, Try.ntmps88
    go_wp2_with (first
                  | (go_at_call 120; (with_reducible refine (T _ hB).mono ?_); rintro e w1 ⟨rfl, rfl⟩)
                  | (go_at_call 87; (with_reducible refine (SZ _ h).mono ?_); rintro e w2 ⟨rfl, rfl⟩))
    go_ret
    exact ⟨rfl, rfl⟩
  · rw [if_neg h0] at hE
    subst hE
    have e1 : (F != 0) = true := by simpa using h0
    clear hE0
    go_enter Try.func88, Try.ntmps88
    go_wp2_with (go_at_call 120; (with_reducible refine (T _ hB).mono ?_); rintro e w1 ⟨rfl, rfl⟩)
    go_ret
    exact ⟨rfl, rfl⟩
set_option maxRecDepth 1000000 in
set_option maxHeartbeats 4000000 in
theorem rwrite_ok (p : Nat) (m : Dm) (L : List Nat) (a : Nat) (l : List UInt8) (bvv : Value) (w : World) (h : Rk w p m L) (hok : m.ok) (hb : Bs w bvv l) (ha : a < m.dur.length) (hl : l.length = m.sz) (hr : m.row.length ≤ 1000000000) :
    Calls Try.prog 88 #[.pointer (some ⟨p, 0, none⟩), .int .i64 (a : Nat), bvv] w fun e w' => e = .returned (.int .i64 0) ∧ RkPost w p (m.write a l) L w' := by
  have SZ := fun w h => rSize_any p m L w h hok
  have hRk := h
  obtain ⟨ao0, cap0, rfl, hnc0, hcap0⟩ := hb.form
  obtain ⟨D, R, dp, rp, hB, hm, hL⟩ := h
  obtain ⟨aoD, capD, rfl, hcD, _⟩ := hB.dur.sl.form
  obtain ⟨aoR, capR, rfl, hcR, _⟩ := hB.row.sl.form
  have e1 : m.dur.length = dp.length := by rw [hm]; simp [Dm.of]
  have hF : noneE dp.length (a : Nat) = 0 := by unfold noneE; rw [if_neg (by omega)]
  have hrl : rp.length ≤ 1000000000 := by
    have : m.row.length = rp.length := by rw [hm]; simp [Dm.of]
    omega
  have hs1 := hok.s1
  have hs2 := hok.s2
  have T := fun w h => rwrong_any p dp.length capD aoD (.slice aoR rp.length capR) (a : Nat) 0 w h (by have := hok.n1; omega) hF
  have TW := fun v w hv => twin_any l v w hv (by omega)
  rw [hl] at hnc0 ⊢
  obtain ⟨sz, hsz⟩ : ∃ sz, sz = m.sz := ⟨_, rfl⟩
  rw [← hsz] at SZ hl hs1 hs2 hnc0 ⊢
  have H := Lib.hid (And.intro hm (And.intro hL hl))
  rw [hl] at hb
  clear hm hL hok hF ha hr hl e1 hsz
  go_enter Try.func88, Try.ntmps88
  go_wp2_with (first
                | (go_at_call 120; (with_reducible refine (T _ hB.blk).mono ?_); rintro e w1 ⟨rfl, rfl⟩)
                | (go_at_call 87; (with_reducible refine (SZ _ hRk).mono ?_); rintro e w2 ⟨rfl, rfl⟩))
  refine wp_region_T [⟨0, true, []⟩, ⟨1, true, []⟩, ⟨2, true, []⟩, ⟨3, true, []⟩, ⟨4, true, []⟩, ⟨5, true, []⟩, ⟨6, true, []⟩, ⟨7, false, [2, 4]⟩, ⟨8, true, []⟩, ⟨9, false, [2, 4]⟩, ⟨10, false, []⟩, ⟨11, true, []⟩, ⟨12, true, []⟩, ⟨13, false, []⟩] (by kernel_rfl) (by kernel_rfl) ?_
  have hm05 : Mod [] w w.drew := Mod.drew [] _
  have hB5 := hB.ext hm05
  have hb5 : Bs w.drew (.slice ao0 sz cap0) l := hb.ext hm05
  obtain ⟨w5, hw5⟩ : ∃ x, x = w.drew := ⟨_, rfl⟩
  rw [← hw5] at hm05 hB5 hb5 ⊢
  clear hw5 hb hRk T SZ
  have c1 := hB5.blk.cell' (i := 1) rfl
  iterate 7 (refine wpT_n rfl rfl (fun K hK => ?_); go_wp2_with fail)
  refine wpT_callh rfl rfl (fun K hK => ?_)
  go_wp2_with (go_at_call 96; refine (TW _ _ hb5).mono ?_; rintro e w6 ⟨v6, rfl, ho6, hn6, hm6⟩)
  refine ⟨agains_cons rfl (again_const (fun _ => rfl)) (agains_cons rfl (again_load rfl rfl (hm6.block p hB5.blk.lt (by simp)) hB5.blk.kinds) agains_nil), ?_⟩
  obtain ⟨ao2, cap2, rfl, hc2, _⟩ := Ob.n ho6 H.out.2.2
  have hB6 := hB5.ext hm6
  refine wpT_n rfl rfl (fun K hK => ?_)
  go_wp2_with fail
  refine wpT_e rfl rfl (fun K hK => ?_)
  refine wp_bslice stKW [.agg #[.int .i64 (a : Nat), .slice ao2 sz cap2]] rfl (by decide) (by rfl) (by simp [Value.cells]) ?_
  intro g x1 hg1 hg2 hmx1 hBx1
  simp only [put_some, List.set_cons_succ, List.set_cons_zero]
  refine hK _ _ ⟨agains_cons rfl (again_const (fun _ => rfl)) (agains_cons rfl (again_load rfl rfl (hmx1.block p hB6.blk.lt (by simp)) hB6.blk.kinds) agains_nil), ?_⟩
  clear hK K
  have hB7 := hB6.ext hmx1
  have hS6 : Sl x1 2 (.slice (some ⟨g, 0, none⟩) 1 1) 1 [.int .i64 (a : Nat), .slice ao2 sz cap2] := (Ow.of_blk (rest := []) hBx1 (Nat.le_refl _) (by omega) rfl rfl : Ow x1 150 2 (.slice (some ⟨g, 0, none⟩) 1 1) 1 [.int .i64 (a : Nat), .slice ao2 sz cap2]).sl
  refine wpT_e0 rfl rfl (fun K hK => ?_)
  refine wp_append_ow stKW (by rfl) (by rfl) hB7.row hS6 (by simp [Value.oneCell']) (by omega) (by omega) ?_
  intro R7 x2 hR7 hmx2 hb7
  simp only [put_some, List.set_cons_succ, List.set_cons_zero]
  refine hK _ _ ?_
  clear hK K
  have hp4 : Blk x2 p 106 _ := hB7.blk.mod hmx2 (Ow.ne hB7.row hB7.blk (by decide))
  iterate 2 (refine wpT_n rfl rfl (fun K hK => ?_); go_wp2_with fail)
  refine wpT_e0 rfl rfl (fun K hK => ?_)
  refine wp_store1 (by kernel_rfl) (by rfl) (by rfl) hR7.sl.one hp4 (by simp) ?_
  intro x3 hmx3 hBx3
  refine hK _ _ ?_
  clear hK K
  have hfin := hB5.wait (at_ := a) (l := l) (v := .slice ao2 sz cap2) (hm6.ext hmx1) (ho6.ext hmx1) hn6 hR7 hmx2 hb7 hmx3 (by simpa using hBx3)
  have hs5 := hm05.size
  refine wpT_nil ?_
  go_wp2_with fail
  go_ret
  refine ⟨rfl, _, ⟨_, _, _, _, hfin.1, ?_, rfl⟩, ?_, ?_⟩
  · rw [H.out.1]
    simp [Dm.write, Dm.of]
  · rw [H.out.2.1]; exact (hm05.weak (by simp)).trans hfin.2.2
  · rw [H.out.2.1]; exact fun k hk => (hfin.2.1 k hk).imp id fun h => by omega
end Go.Proofs.Ytkedbphdflhhlaa
