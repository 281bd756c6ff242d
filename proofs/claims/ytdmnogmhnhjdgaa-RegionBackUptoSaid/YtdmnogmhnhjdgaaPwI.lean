import Derived.Test.YtdmnogmhnhjdgaaPwC
import Derived.Test.YtdmnogmhnhjdgaaDkC
/-! Devices: the reference's New and Restart; copies. -/
set_option linter.unusedVariables false
set_option linter.unusedSimpArgs false
set_option maxRecDepth 100000
namespace Go.Proofs.Ytdmnogmhnhjdgaa
open Go.RowKit Gw

theorem zero_dev : (Try.prog.info? 55).map (·.zero) = some (some (.agg #[.pointer none, .bool false, .int .i64 0, .int .i64 0])) := by kernel_rfl
theorem qnew_any (q : Nat) (m : Dm) (L : List Nat) (w : World) (h : Rk w q m L) (hok : m.ok) : Calls Try.prog 72 #[.pointer (some ⟨q, 0, none⟩)] w fun e w' => ∃ p, e = .returned (.pointer (some ⟨p, 0, none⟩)) ∧ Pr w' p q ⟨m, false, -1, 0⟩ L ∧ w.heap.size ≤ p ∧ Mod [] w w' := by
  go_enter Try.func72, Try.ntmps72
  go_wp2_with (with_reducible refine st_box ?_)
  refine StopOp.go rfl fun K hK => ?_
  refine wp_box (v := .agg #[.pointer (some ⟨q, 0, none⟩), .bool false, .int .i64 (-1), .int .i64 0]) (by rfl) ?_
  intro p w2 hp1 hp2 hm2 hB2
  simp only [put_some, List.set_cons_succ, List.set_cons_zero]
  refine hK _ _ ?_
  clear hK K
  go_wp2_with fail
  go_ret
  exact ⟨p, rfl, ⟨hB2, h.ext hm2, ⟨hok, by dsimp only; omega, by dsimp only; omega⟩, fun hh => by have := h.lt p hh; omega⟩, hp1, hm2⟩
set_option maxHeartbeats 2000000 in
theorem qRestart_any (p q : Nat) (v : Pv) (L : List Nat) (F : List (Int × Int)) (fv : Value) (w : World) (h : Pr w p q v L) (hr : v.m.row.length ≤ 1000000) (hF : Fs w fv F) (hFL : F ≠ [] → ∀ b ∈ blks fv, b ∉ L) :
    Calls Try.prog 51 #[.pointer (some ⟨p, 0, none⟩), fv] w fun e w' => e = .returned (.int .i64 0) ∧ PrP w p q (v.re F) L w' := by
  obtain ⟨ao, cap, rfl, _, _⟩ := hF.form
  have CR := rcrash_any q v.m L F (.slice ao F.length cap) w h.d h.ok.m (by omega) hF hFL
  have hb := h.b
  have hp := h.pl
  have hok := h.ok
  obtain ⟨m, off, ar, n⟩ := v
  unfold Pv.cells at hb
  dsimp only at hb CR hok
  have c0 := hb.cell' (i := 0) rfl
  have hs0 := hb.lt
  clear h
  go_enter Try.func51, Try.ntmps51
  go_wp2_with (first
                | (with_reducible refine st_store ?_)
                | (go_at_call 93; (with_reducible refine (CR).mono ?_); rintro e w2 ⟨rfl, hp2⟩; obtain ⟨L2, hD2, hm2, hL2⟩ := hp2; have hb2 := hb.mod hm2 hp))
  refine StopOp.go rfl fun K hK => ?_
  refine wp_store1 (by kernel_rfl) (by rfl) (u := .bool false) (by rfl) ⟨rfl, rfl⟩ hb2 (by simp) ?_
  intro w3 hm3 hb3
  refine hK _ _ ?_
  clear hK K
  go_wp2_with (with_reducible refine st_store ?_)
  refine StopOp.go rfl fun K hK => ?_
  refine wp_store1 (by kernel_rfl) (by rfl) (u := .int .i64 (-1)) (by rfl) ⟨rfl, rfl⟩ hb3 (by simp) ?_
  intro w4 hm4 hb4
  refine hK _ _ ?_
  clear hK K
  go_wp2_with (with_reducible refine st_store ?_)
  refine StopOp.go rfl fun K hK => ?_
  refine wp_store1 (by kernel_rfl) (by rfl) (u := .int .i64 0) (by rfl) ⟨rfl, rfl⟩ hb4 (by simp) ?_
  intro w5 hm5 hb5
  refine hK _ _ ?_
  clear hK K
  go_wp2_with fail
  go_ret
  have hmp := (hm3.trans hm4).trans hm5
  have hpL : ∀ b ∈ L2, b ∉ [p] := fun b hbL hh => by
    have e : b = p := by simpa using hh
    rw [e] at hbL
    exact (hL2 p hbL).elim hp (fun h => by omega)
  refine ⟨rfl, L2, ⟨hb5, hD2.mod hmp hpL, ⟨hok.m.settle _, by dsimp only [Pv.re]; omega, by dsimp only [Pv.re]; omega⟩, fun hh => hpL p hh (by simp)⟩, (hm2.weak (fun g hg => .inl (List.mem_cons_of_mem _ hg))).then hmp (fun g hg => .inl (by have : g = p := (by simpa using hg); rw [this]; exact List.mem_cons_self)), hL2⟩
def PCopyP (w : World) (v : Pv) (e : Ending) (w' : World) : Prop := ∃ p' q' L', e = .returned (.pointer (some ⟨p', 0, none⟩)) ∧ Pd w' p' q' v L' ∧ (∀ k ∈ p' :: L', w.heap.size ≤ k) ∧ Mod [] w w'
def QCopyP (w : World) (v : Pv) (e : Ending) (w' : World) : Prop := ∃ p' q' L', e = .returned (.pointer (some ⟨p', 0, none⟩)) ∧ Pr w' p' q' v L' ∧ (∀ k ∈ p' :: L', w.heap.size ≤ k) ∧ Mod [] w w'
set_option maxHeartbeats 2000000 in
theorem pCopy_any (p q : Nat) (v : Pv) (L : List Nat) (w : World) (h : Pd w p q v L) (hr : v.m.row.length ≤ 1000000) : Calls Try.prog 70 #[.pointer (some ⟨p, 0, none⟩)] w (PCopyP w v) := by
  have CP := fun w h => dcopy_any q v.m L w h
  unfold CopyPost Own at CP
  have hb := h.b
  have hd := h.d
  have hok := h.ok
  obtain ⟨m, off, ar, n⟩ := v
  unfold Pv.cells at hb
  dsimp only at hb hd CP hok hr
  have c0 := hb.cell' (i := 0) rfl
  have c1 := hb.cell' (i := 1) rfl
  have c2 := hb.cell' (i := 2) rfl
  have c3 := hb.cell' (i := 3) rfl
  clear h
  go_enter Try.func70, Try.ntmps70
  go_wp2_with (first
                | (with_reducible refine st_alloc ?_)
                | (go_at_call 58; refine (pnone_yes p q _ _ _ _ hb).mono ?_; rintro e wn ⟨rfl, rfl⟩))
  refine StopOp.go rfl fun K hK => ?_
  refine wp_alloc zero_dev ?_
  intro g w1 hg1 hg2 hm1 hB1
  simp only [put_some, List.set_cons_succ, List.set_cons_zero]
  refine hK _ _ ?_
  clear hK K
  go_wp2_with (with_reducible refine st_store ?_)
  refine StopOp.go rfl fun K hK => ?_
  refine wp_store (u := .agg #[.pointer (some ⟨q, 0, none⟩), .bool off, .int .i64 ar, .int .i64 (n : Nat)]) (by rfl) (by rfl) (by kernel_rfl) hB1 (by simp [Value.cells]) (by simp [Value.cells, Value.oneCell']) ?_
  intro w2 hm2 hB2
  refine hK _ _ ?_
  clear hK K
  have hX2 : Blk w2 g 55 [.pointer (some ⟨q, 0, none⟩), .bool off, .int .i64 ar, .int .i64 (n : Nat)] := hB2
  have hm02 : Mod [] w w2 := hm1.fresh hm2 (by simpa using hg1)
  have hb2 := hb.ext hm02
  have hd2 := hd.ext hm02
  have d0 := hb2.cell' (i := 0) rfl
  clear hB1 hB2 hm1 hm2
  go_wp2_with (first
                | (with_reducible refine st_store ?_)
                | (go_at_call 98; (with_reducible refine (CP _ hd2 hok.m (by omega)).mono ?_); rintro e w3 ⟨q3, L3, rfl, ⟨hO3, hO3'⟩, hm3⟩))
  have hX3 := hX2.ext hm3
  refine StopOp.go rfl fun K hK => ?_
  refine wp_store1 (by kernel_rfl) (by rfl) (u := .pointer (some ⟨q3, 0, none⟩)) (by rfl) ⟨rfl, rfl⟩ hX3 (by simp) ?_
  intro w4 hm4 hB4
  refine hK _ _ ?_
  clear hK K
  have hX4 : Blk w4 g 55 [.pointer (some ⟨q3, 0, none⟩), .bool off, .int .i64 ar, .int .i64 (n : Nat)] := hB4
  go_wp2_with fail
  go_ret
  have s02 := hm02.size
  have hgL : g ∉ L3 := fun hh => by have := hO3' g hh; have := hX2.lt; omega
  refine ⟨g, q3, L3, rfl, ⟨hX4, hO3.mod hm4 (fun b hb hh => hgL (by have e : b = g := (by simpa using hh); exact e ▸ hb)), hok, hgL⟩, fun k hk => ?_, (hm02.ext hm3).fresh hm4 (by simpa using hg1)⟩
  rcases List.mem_cons.1 hk with e | e
  · omega
  · have := hO3' k e; omega
end Go.Proofs.Ytdmnogmhnhjdgaa
