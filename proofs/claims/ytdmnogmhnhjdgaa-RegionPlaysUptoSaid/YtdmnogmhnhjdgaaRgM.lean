import Derived.Test.YtdmnogmhnhjdgaaRgI
import Derived.Test.YtdmnogmhnhjdgaaRgK
/-! What the laws of regions take: a Put. -/
set_option linter.unusedVariables false
set_option linter.unusedSimpArgs false
set_option maxRecDepth 100000
namespace Go.Proofs.Ytdmnogmhnhjdgaa
open Go.RowKit Gw

/-- a Put: where, and what -/
structure Pt where
  p : Int
  u : Value
  l : List UInt8
def Pt.cells (o : Pt) : List Value := [.int .i64 o.p, o.u]
def OkPt (w : World) (o : Pt) : Prop := Bs w o.u o.l ∧ i64 o.p ∧ o.l.length ≤ 1048576
theorem OkPt.ext {w w' : World} {o : Pt} (h : OkPt w o) (hm : Mod [] w w') : OkPt w' o := ⟨h.1.ext hm, h.2.1, h.2.2⟩
/-- where it goes, and what of it, in a region of n bytes -/
def Pt.at (o : Pt) (n : Nat) : Nat := (pick o.p ((n : Int) + 1)).toNat
def Pt.by (o : Pt) (n : Nat) : List UInt8 := o.l.take (n - o.at n)
theorem Pt.at_le (o : Pt) (n : Nat) : o.at n ≤ n := by
  have := pick_lt o.p ((n : Int) + 1) (by omega)
  unfold Pt.at
  omega
theorem Pt.by_le (o : Pt) (n : Nat) : (o.by n).length ≤ n - o.at n := by unfold Pt.by; rw [List.length_take]; omega
set_option maxHeartbeats 2000000 in
theorem fits_any (o : Pt) (n : Nat) (w : World) (h : OkPt w o) (hn : n ≤ 1000000) :
    Calls Try.prog 32 #[.agg #[.int .i64 o.p, o.u], .int .i64 (n : Nat)] w fun e w' => ∃ u, e = .returned (.tuple #[.int .i64 (o.at n : Nat), u]) ∧ (∀ W0, Bs W0 o.u o.l → Bs W0 u (o.by n)) ∧ Mod [] w w' := by
  obtain ⟨hb, hp, hl⟩ := h
  obtain ⟨P, u, l⟩ := o
  dsimp only at hb hp hl
  obtain ⟨ao, cap, rfl, hc1, hc2⟩ := hb.form
  have PK := fun w => pick_any P ((n : Int) + 1) w hp.1 hp.2 (by omega) (by omega)
  have hA := Pt.at_le ⟨P, .slice ao l.length cap, l⟩ n
  have hA2 : ((Pt.at ⟨P, .slice ao l.length cap, l⟩ n : Nat) : Int) = pick P ((n : Int) + 1) := by have := pick_ge P ((n : Int) + 1); unfold Pt.at; dsimp only; omega
  unfold Pt.by
  obtain ⟨A, hAe⟩ : ∃ A, A = Pt.at ⟨P, .slice ao l.length cap, l⟩ n := ⟨_, rfl⟩
  rw [← hAe] at hA hA2 ⊢
  rw [← hA2] at PK
  clear hA2 hAe
  dsimp only
  have y1 : (A : Int) ≤ n := by omega
  have y2 : (n : Int) ≤ 1000000 := by omega
  have q1 : (n : Int) - (A : Int) = ((n - A : Nat) : Int) := by omega
  by_cases hlt : n - A < l.length
  · have hpre := fun W0 (h0 : Bs W0 (.slice ao l.length cap) l) => h0.prefR rfl (k := n - A) (by omega) (by omega)
    obtain ⟨k, hk⟩ : ∃ k, k = n - A := ⟨_, rfl⟩
    rw [← hk] at hpre q1 hlt ⊢
    have y3 : (k : Int) < l.length := by omega
    have y4 : (k : Int) ≤ cap := by omega
    clear hk
    go_enter Try.func32, Try.ntmps32
    go_wp2_with (with_reducible refine st_box ?_)
    refine StopOp.go rfl fun K hK => ?_
    refine wp_box (v := .agg #[.int .i64 P, .slice ao l.length cap]) (by rfl) ?_
    intro t w1 ht1 ht2 hm1 hT
    simp only [put_some, List.set_cons_succ, List.set_cons_zero]
    refine hK _ _ ?_
    clear hK K
    have hT1 : Blk w1 t 69 [.int .i64 P, .slice ao l.length cap] := hT
    have c0 := hT1.cell' (i := 0) rfl
    have c1 := hT1.cell' (i := 1) rfl
    clear hT
    go_wp2_with (go_at_call 11; (with_reducible refine (PK _).mono ?_); rintro e w2 ⟨rfl, rfl⟩)
    go_ret2
    exact ⟨_, rfl, fun W0 h0 => hpre W0 h0, hm1⟩
  · rw [List.take_of_length_le (by omega)]
    have y3 : (l.length : Int) ≤ n - A := by omega
    go_enter Try.func32, Try.ntmps32
    go_wp2_with (with_reducible refine st_box ?_)
    refine StopOp.go rfl fun K hK => ?_
    refine wp_box (v := .agg #[.int .i64 P, .slice ao l.length cap]) (by rfl) ?_
    intro t w1 ht1 ht2 hm1 hT
    simp only [put_some, List.set_cons_succ, List.set_cons_zero]
    refine hK _ _ ?_
    clear hK K
    have hT1 : Blk w1 t 69 [.int .i64 P, .slice ao l.length cap] := hT
    have c0 := hT1.cell' (i := 0) rfl
    have c1 := hT1.cell' (i := 1) rfl
    clear hT
    go_wp2_with (go_at_call 11; (with_reducible refine (PK _).mono ?_); rintro e w2 ⟨rfl, rfl⟩)
    go_ret2
    exact ⟨_, rfl, fun W0 h0 => h0, hm1⟩
end Go.Proofs.Ytdmnogmhnhjdgaa
