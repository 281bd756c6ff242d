import Derived.Test.YtdmnogmhnhjdgaaGreatPwB
import Derived.Test.YtdmnogmhnhjdgaaGreatGDk
import Derived.Test.YtdmnogmhnhjdgaaGreatRowE
import Derived.Deep.DeepCutAuto
/-! Devices: New, Restart; PowerNil. -/
set_option linter.unusedVariables false
set_option linter.unusedSimpArgs false
set_option maxRecDepth 100000
namespace Go.Proofs.YtdmnogmhnhjdgaaGreat
open Go.RowKit Gw

theorem pnew_no (u : Value) (w : World) (h : NoDk w u) : Calls Tryz.prog 21 #[u] w fun e w' => e = .returned (.tuple #[.pointer none, .int .i64 1]) ∧ w = w' := by
  have SE := fun w h => dSectors_no u w h
  go_enter Tryz.func21, Tryz.ntmps21
  go_wp2_with (go_at_call 62; (with_reducible refine (SE _ h).mono ?_); rintro e w1 ⟨rfl, rfl⟩)
  go_ret2
  exact ⟨rfl, rfl⟩
theorem pnew_yes (q : Nat) (m : Dm) (L : List Nat) (w : World) (h : Dk w q m L) (hok : m.ok) : Calls Tryz.prog 21 #[.pointer (some ⟨q, 0, none⟩)] w fun e w' => ∃ p, e = .returned (.tuple #[.pointer (some ⟨p, 0, none⟩), .int .i64 0]) ∧ Pd w' p q ⟨m, false, -1, 0⟩ L ∧ w.heap.size ≤ p ∧ Mod [] w w' := by
  have SE := fun w h => dSectors_any q m L w h hok.s1
  have hn := hok.n1
  obtain ⟨n, hnn⟩ : ∃ n, n = m.dur.length := ⟨_, rfl⟩
  rw [← hnn] at SE hn
  have e0 : ((n : Int) == 0) = false := by rw [beq_eq_false_iff_ne]; omega
  clear hnn hn
  go_enter Tryz.func21, Tryz.ntmps21
  go_wp2_with (first
                | (with_reducible refine st_box ?_)
                | (go_at_call 62; (with_reducible refine (SE _ h).mono ?_); rintro e w1 ⟨rfl, rfl⟩))
  refine StopOp.go rfl fun K hK => ?_
  refine wp_box (v := .agg #[.pointer (some ⟨q, 0, none⟩), .bool false, .int .i64 (-1), .int .i64 0]) (by rfl) ?_
  intro p w2 hp1 hp2 hm2 hB2
  simp only [put_some, List.set_cons_succ, List.set_cons_zero]
  refine hK _ _ ?_
  clear hK K
  go_wp2_with fail
  go_ret2
  exact ⟨p, rfl, ⟨hB2, h.ext hm2, ⟨hok, by dsimp only; omega, by dsimp only; omega⟩, fun hh => by have := h.lt p hh; omega⟩, hp1, hm2⟩
set_option maxHeartbeats 2000000 in
theorem pRestart_any (p q : Nat) (v : Pv) (L : List Nat) (F : List (Int × Int)) (fv : Value) (w : World) (h : Pd w p q v L) (hr : v.m.row.length ≤ 1000000) (hF : Fs w fv F) (hFL : F ≠ [] → ∀ b ∈ blks fv, b ∉ L) :
    Calls Tryz.prog 23 #[.pointer (some ⟨p, 0, none⟩), fv] w fun e w' => e = .returned (.int .i64 0) ∧ PdP w p q (v.re F) L w' := by
  obtain ⟨ao, cap, rfl, _, _⟩ := hF.form
  have CR := dcrash_any q v.m L F (.slice ao F.length cap) w h.d h.ok.m (by omega) hF hFL
  have hb := h.b
  have hp := h.pl
  have hok := h.ok
  obtain ⟨m, off, ar, n⟩ := v
  unfold Pv.cells at hb
  dsimp only at hb CR hok
  have c0 := hb.cell' (i := 0) rfl
  have hs0 := hb.lt
  clear h
  go_enter Tryz.func23, Tryz.ntmps23
  go_wp2_with (first
                | (with_reducible refine st_store ?_)
                | (go_at_call 47; refine (pnone_yes p q _ _ _ _ hb).mono ?_; rintro e wn ⟨rfl, rfl⟩)
                | (go_at_call 63; (with_reducible refine (CR).mono ?_); rintro e w2 ⟨rfl, hp2⟩; obtain ⟨L2, hD2, hm2, hL2⟩ := hp2; have hb2 := hb.mod hm2 hp))
  refine StopOp.go rfl fun K hK => ?_
  refine wp_store1 (by kernel_rfl) (by rfl) (u := .bool false) (by rfl) ⟨rfl, rfl⟩ hb2 (by simp) ?_
  intro w3 hm3 hb3
  refine hK _ _ ?_
  clear hK K
  go_wp2_with (with_reducible refine st_store ?_)
  refine StopOp.go rfl fun K hK => ?_
  refine wp_store1 (by kernel_rfl) (by rfl) (u := .int .i64 (-1)) (by rfl) ⟨rfl, rfl⟩ hb3 (by simp) ?_
  intro w4 hm4 hb4
  refine hK _ _ ?_
  clear hK K
  go_wp2_with (with_reducible refine st_store ?_)
  refine StopOp.go rfl fun K hK => ?_
  refine wp_store1 (by kernel_rfl) (by rfl) (u := .int .i64 0) (by rfl) ⟨rfl, rfl⟩ hb4 (by simp) ?_
  intro w5 hm5 hb5
  refine hK _ _ ?_
  clear hK K
  go_wp2_with fail
  go_ret
  have hmp := (hm3.trans hm4).trans hm5
  have hpL : ∀ b ∈ L2, b ∉ [p] := fun b hbL hh => by
    have e : b = p := by simpa using hh
    rw [e] at hbL
    exact (hL2 p hbL).elim hp (fun h => by omega)
  refine ⟨rfl, L2, ⟨hb5, hD2.mod hmp hpL, ⟨hok.m.settle _, by dsimp only [Pv.re]; omega, by dsimp only [Pv.re]; omega⟩, fun hh => hpL p hh (by simp)⟩, (hm2.weak (fun g hg => .inl (List.mem_cons_of_mem _ hg))).then hmp (fun g hg => .inl (by have : g = p := (by simpa using hg); rw [this]; exact List.mem_cons_self)), hL2⟩
end Go.Proofs.YtdmnogmhnhjdgaaGreat
