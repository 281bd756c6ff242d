import Derived.Test.YtkedbphdflhhlaaDkN
/-! Disks: Write. -/
set_option linter.unusedVariables false
set_option linter.unusedSimpArgs false
set_option maxRecDepth 100000
namespace Go.Proofs.Ytkedbphdflhhlaa
open Go.RowKit Gw

/-- the error of a write -/
def writeE (m : Dm) (at_ : Int) (n : Nat) : Int := if noneE m.dur.length at_ = 0 then (if n = m.sz then 0 else 3) else noneE m.dur.length at_
theorem dwrite_no (v bvv : Value) (at_ : Int) (w : World) (h : NoDk w v) : Calls Try.prog 37 #[v, .int .i64 at_, bvv] w fun e w' => e = .returned (.int .i64 1) ∧ w = w' := by
  have T := fun w h => none_no v at_ w h
  go_enter Try.func37, Try.ntmps37
  go_wp2_with (go_at_call 78; (with_reducible refine (T _ h).mono ?_); rintro e w1 ⟨rfl, rfl⟩)
  go_ret
  exact ⟨rfl, rfl⟩
theorem zero_waits : (Try.prog.info? 143).map (·.zero) = some (some (.agg #[.int .i64 0, .slice none 0 0])) := by kernel_rfl
theorem dwrite_bad (p : Nat) (m : Dm) (L : List Nat) (at_ E : Int) (l : List UInt8) (bvv : Value) (w : World) (h : Dk w p m L) (hok : m.ok) (hb : Bs w bvv l) (hE : writeE m at_ l.length = E) (hE0 : E ≠ 0) :
    Calls Try.prog 37 #[.pointer (some ⟨p, 0, none⟩), .int .i64 at_, bvv] w fun e w' => e = .returned (.int .i64 E) ∧ w = w' := by
  obtain ⟨ao0, cap0, rfl, hnc0, hcap0⟩ := hb.form
  obtain ⟨D, R, M, hB, ⟨ao, cap, rfl, _⟩, ao', cap', rfl, _⟩ := h.blk
  obtain ⟨F, hF⟩ : ∃ F, noneE m.dur.length at_ = F := ⟨_, rfl⟩
  have T := fun w h => none_any p m.sz m.dur.length cap ao (.slice ao' m.row.length cap') M at_ F w h hok.s1 hF
  unfold writeE at hE
  rw [hF] at hE
  have c0 := hB.cell' (i := 0) rfl
  clear h hF
  by_cases h0 : F = 0
  · subst h0
    rw [if_pos rfl] at hE
    have hn : l.length ≠ m.sz := fun hh => hE0 (by rw [← hE, if_pos hh])
    rw [if_neg hn] at hE
    subst hE
    have e1 : (l.length == m.sz) = false := by simpa using hn
    have e2 : ((l.length : Int) == m.sz) = false := by simp; omega
    have e3 : (l.length != m.sz) = true := by simpa using hn
    have e4 : ((l.length : Int) != m.sz) = true := by simp; omega
    clear hn hE0
    go_enter Try.func37, Try.ntmps37
    go_wp2_with (go_at_call 78; (with_reducible refine (T _ hB).mono ?_); rintro e w1 ⟨rfl, rfl⟩)
    go_ret
    exact ⟨rfl, rfl⟩
  · rw [if_neg h0] at hE
    subst hE
    have e1 : (F != 0) = true := by simpa using h0
    clear hE0
    go_enter Try.func37, Try.ntmps37
    go_wp2_with (go_at_call 78; (with_reducible refine (T _ hB).mono ?_); rintro e w1 ⟨rfl, rfl⟩)
    go_ret
    exact ⟨rfl, rfl⟩
set_option maxRecDepth 1000000 in
set_option maxHeartbeats 4000000 in
theorem dwrite_ok (p : Nat) (m : Dm) (L : List Nat) (a : Nat) (l : List UInt8) (bvv : Value) (w : World) (h : Dk w p m L) (hok : m.ok) (hb : Bs w bvv l) (ha : a < m.dur.length) (hl : l.length = m.sz) (hr : m.row.length ≤ 1000000000) :
    Calls Try.prog 37 #[.pointer (some ⟨p, 0, none⟩), .int .i64 (a : Nat), bvv] w fun e w' => e = .returned (.int .i64 0) ∧ DkPost w p (m.write a l) L w' := by
  obtain ⟨ao0, cap0, rfl, hnc0, hcap0⟩ := hb.form
  obtain ⟨D, R, M, dp, rp, hB, hm, hL⟩ := h
  obtain ⟨aoD, capD, rfl, hcD, _⟩ := hB.dur.sl.form
  obtain ⟨aoR, capR, rfl, hcR, _⟩ := hB.row.sl.form
  have hF : noneE dp.length (a : Nat) = 0 := by
    have : m.dur.length = dp.length := by rw [hm]; simp [Dm.of]
    unfold noneE; rw [if_neg (by omega)]
  have hrl : rp.length ≤ 1000000000 := by
    have : m.row.length = rp.length := by rw [hm]; simp [Dm.of]
    omega
  have hs1 := hok.s1
  have hs2 := hok.s2
  have T := fun w h => none_any p m.sz dp.length capD aoD (.slice aoR rp.length capR) M (a : Nat) 0 w h hs1 hF
  rw [hl] at hnc0 ⊢
  obtain ⟨sz, hsz⟩ : ∃ sz, sz = m.sz := ⟨_, rfl⟩
  rw [← hsz] at hB hl hs1 hs2 T hnc0 ⊢
  have H := Lib.hid (And.intro hm (And.intro hL (And.intro hsz hl)))
  have h0 : 0 < l.length := by omega
  have hl2 : l.length ≤ 140737488355328 := by omega
  rw [hl] at hb
  clear hm hL hok hF ha hr hsz hl
  have c0 := hB.blk.cell' (i := 0) rfl
  go_enter Try.func37, Try.ntmps37
  go_wp2_with (first
                | (with_reducible refine st_alloc ?_)
                | (go_at_call 78; (with_reducible refine (T _ hB.blk).mono ?_); rintro e w1 ⟨rfl, rfl⟩)
                | (go_at_call 79; refine (bclone_any l _ _ hb h0 hl2).mono ?_; rintro e w2 ⟨v2, rfl, ho2, hn2, hm2⟩; obtain ⟨ao2, cap2, rfl, hc2, _⟩ := ho2.bs.form))
  refine StopOp.go rfl fun K hK => ?_
  refine wp_alloc zero_waits ?_
  intro q w3 hq1 hq2 hm3 hQ3
  simp only [put_some, List.set_cons_succ, List.set_cons_zero]
  refine hK _ _ ?_
  clear hK K
  go_wp2_with (with_reducible refine st_store ?_)
  refine StopOp.go rfl fun K hK => ?_
  refine wp_store (u := .agg #[.int .i64 (a : Nat), .slice ao2 l.length cap2]) (by rfl) (by rfl) (by kernel_rfl) hQ3 (by simp [Value.cells]) (by simp [Value.cells, Value.oneCell']) ?_
  intro w4 hm4 hQ4
  refine hK _ _ ?_
  clear hK K
  have hQ : Blk w4 q 143 [.int .i64 (a : Nat), .slice ao2 l.length cap2] := hQ4
  have hm24 : Mod [] w2 w4 := hm3.fresh hm4 (by simpa using hq1)
  have hs := hm2.size
  clear hQ3 hQ4 hm3 hm4 T
  go_wp2_with fail
  refine wp_region_T [⟨0, true, []⟩, ⟨1, true, []⟩, ⟨2, true, []⟩, ⟨3, true, []⟩, ⟨4, true, []⟩, ⟨5, true, []⟩, ⟨6, true, []⟩, ⟨7, true, []⟩, ⟨8, true, []⟩, ⟨9, true, []⟩, ⟨10, true, []⟩, ⟨13, true, []⟩, ⟨14, true, []⟩, ⟨11, false, [2, 4, 7, 9, 14]⟩, ⟨12, false, [2, 4, 14]⟩, ⟨15, true, []⟩, ⟨16, true, []⟩, ⟨17, false, [14]⟩, ⟨18, false, [14]⟩, ⟨19, true, []⟩, ⟨20, false, []⟩] (by kernel_rfl) (by kernel_rfl) ?_
  have hm05 : Mod [] w w4.drew := (hm2.ext hm24).ext (Mod.drew [] _)
  have hB5 := hB.ext hm05
  have ho5 : Ob w4.drew _ l := (ho2.ext hm24).ext (Mod.drew [] _)
  have hQ5 := hQ.ext (Mod.drew [] w4)
  obtain ⟨w5, hw5⟩ : ∃ x, x = w4.drew := ⟨_, rfl⟩
  rw [← hw5] at hm05 hB5 ho5 hQ5 ⊢
  clear hw5 hm24 hQ hm2 c0 ho2
  have c2 := hB5.blk.cell' (i := 2) rfl
  have c3 := hB5.blk.cell' (i := 3) rfl
  have q0 := hQ5.cell' (i := 0) rfl
  have q1 := hQ5.cell' (i := 1) rfl
  iterate 13 (refine wpT_n rfl rfl (fun K hK => ?_); go_wp2_with fail)
  refine wpT_e rfl rfl (fun K hK => ?_)
  refine wp_bslice stDW [.agg #[.int .i64 (a : Nat), .slice ao2 l.length cap2]] rfl (by decide) (by rfl) (by simp [Value.cells]) ?_
  intro g x1 hg1 hg2 hmx1 hBx1
  simp only [put_some, List.set_cons_succ, List.set_cons_zero]
  refine hK _ _ ⟨agains_cons rfl (again_const (fun _ => rfl)) (agains_cons rfl (again_load rfl rfl (hmx1.block p hB5.blk.lt (by simp)) hB5.blk.kinds) (agains_cons rfl (again_const (fun _ => rfl)) (agains_cons rfl (again_load rfl rfl (hmx1.block p hB5.blk.lt (by simp)) hB5.blk.kinds) (agains_cons rfl (again_load rfl rfl (hmx1.block q hQ5.lt (by simp)) hQ5.kinds) agains_nil)))), ?_⟩
  clear hK K
  have hB6 := hB5.ext hmx1
  have hQ6 := hQ5.ext hmx1
  have hS6 : Sl x1 2 (.slice (some ⟨g, 0, none⟩) 1 1) 1 [.int .i64 (a : Nat), .slice ao2 l.length cap2] := (Ow.of_blk (rest := []) hBx1 (Nat.le_refl _) (by omega) rfl rfl : Ow x1 143 2 (.slice (some ⟨g, 0, none⟩) 1 1) 1 [.int .i64 (a : Nat), .slice ao2 l.length cap2]).sl
  refine wpT_e rfl rfl (fun K hK => ?_)
  refine wp_append_ow stDW (by rfl) (by rfl) hB6.row hS6 (by simp [Value.oneCell']) (by omega) (by omega) ?_
  intro R7 x2 hR7 hmx2 hb7
  simp only [put_some, List.set_cons_succ, List.set_cons_zero]
  have hp6 : p ∉ blks (.slice aoR rp.length capR) := Ow.ne hB6.row hB6.blk (by decide)
  have hq6 : q ∉ blks (.slice aoR rp.length capR) := fun hh => by have := hB.row.lt q hh; omega
  refine hK _ _ ⟨agains_cons rfl (again_const (fun _ => rfl)) (agains_cons rfl (again_load rfl rfl (hmx2.block p hB6.blk.lt hp6) hB6.blk.kinds) (agains_cons rfl (again_load rfl rfl (hmx2.block q hQ6.lt hq6) hQ6.kinds) agains_nil)), ?_⟩
  clear hK K
  have hB7 := hB6.blk.mod hmx2 hp6
  have hQ7 := hQ6.mod hmx2 hq6
  have hM7 := Mp.atOw hB6.map hB6.row hmx2
  iterate 2 (refine wpT_n rfl rfl (fun K hK => ?_); go_wp2_with fail)
  refine wpT_e rfl rfl (fun K hK => ?_)
  refine wp_store1 (by kernel_rfl) (by rfl) (by rfl) hR7.sl.one hB7 (by simp) ?_
  intro x3 hmx3 hBx3
  have hqp : q ≠ p := hQ7.ne hB7 (by decide)
  refine hK _ _ ⟨agains_cons rfl (again_load rfl rfl (hmx3.block q hQ7.lt (by simpa using hqp)) hQ7.kinds) agains_nil, ?_⟩
  clear hK K
  have hQ8 := hQ7.mod hmx3 (by simpa using hqp)
  have hM8 := hM7.mod hmx3 (by simpa using hM7.ne hB7)
  refine wpT_e rfl rfl (fun K hK => ?_)
  refine wp_entry (z := .slice none 0 0) Try.underlying108 Try.underlying3 (by kernel_rfl) (by rfl) (by rfl) hM8 ?_
  intro v9 st9 x4 hmx4 hM9
  simp only [put_some, List.set_cons_succ, List.set_cons_zero]
  refine hK _ _ ⟨agains_cons rfl (again_load rfl rfl (hmx4.block q hQ8.lt (by simpa using (hM8.ne hQ8).symm)) hQ8.kinds) agains_nil, ?_⟩
  clear hK K
  refine wpT_n rfl rfl (fun K hK => ?_)
  go_wp2_with fail
  refine wpT_e0 rfl rfl (fun K hK => ?_)
  refine wp_entryStore (by rfl) (by rfl) (by rfl) hM9 ?_
  intro x5 hmx5 hM10
  refine hK _ _ ?_
  clear hK K
  have hfin := hB.wait (at_ := a) (st := st9) (l := l) (v := .slice ao2 l.length cap2) (hm05.ext hmx1) (ho5.ext hmx1) hn2 rfl hR7 hmx2 (fun k hk => (hb7 k hk).imp id fun h => by have := hm05.size; omega) hmx3 (by simpa using hBx3) hmx4 hmx5 hM10
  refine wpT_nil ?_
  go_wp2_with fail
  go_ret
  refine ⟨rfl, _, ⟨_, _, _, _, _, by rw [show (m.write a l).sz = sz from H.out.2.2.1.symm]; exact hfin.1, ?_, rfl⟩, ?_, ?_⟩
  · rw [H.out.1]
    simp [Dm.write, Dm.of]
  · rw [H.out.2.1]; exact hfin.2.2
  · rw [H.out.2.1]; exact hfin.2.1
end Go.Proofs.Ytkedbphdflhhlaa
