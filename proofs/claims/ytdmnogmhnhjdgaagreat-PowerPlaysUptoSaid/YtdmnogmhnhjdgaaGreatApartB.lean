import Derived.Test.YtdmnogmhnhjdgaaGreatApartA
import Derived.Test.YtdmnogmhnhjdgaaGreatGOct
/-! Slices of bytes that lie apart, as a list; ApartBytes of them. -/
set_option linter.unusedVariables false
set_option linter.unusedSimpArgs false
set_option maxRecDepth 100000
namespace Go.Proofs.YtdmnogmhnhjdgaaGreat
open Go.RowKit Gw

section
variable {w w' : World} {base : Nat} {L A B : List (Value × List UInt8)} {v : Value} {l : List UInt8}
theorem getD_mem {α : Type} (d : α) (l : List α) (a : Nat) (h : a < l.length) : l.getD a d ∈ l := by
  rw [List.getD_eq_getElem?_getD, List.getElem?_eq_getElem h]
  exact List.getElem_mem h
theorem Fam.dj' (h : Fam w base L) (d : Value × List UInt8) : Dj L.length fun a => (L.getD a d).1 := by
  have hp := List.pairwise_iff_getElem.1 h.dj
  intro a b ha hb hab k hk hk2
  have ea : L.getD a d = L[a] := by rw [List.getD_eq_getElem?_getD, List.getElem?_eq_getElem ha]; rfl
  have eb : L.getD b d = L[b] := by rw [List.getD_eq_getElem?_getD, List.getElem?_eq_getElem hb]; rfl
  dsimp only at hk hk2
  rw [ea] at hk
  rw [eb] at hk2
  rcases Nat.lt_or_gt_of_ne hab with h1 | h1
  · exact hp a b ha hb h1 k hk hk2
  · exact hp b a hb ha h1 k hk2 hk
theorem rc_getD (d : Value × List UInt8) (L : List (Value × List UInt8)) : rc (fun a => (L.getD a d).1) L.length = L.map (·.1) := by
  apply List.ext_getElem?
  intro i
  by_cases hi : i < L.length
  · rw [rc_at _ hi, List.getElem?_map, List.getElem?_eq_getElem hi, List.getD_eq_getElem?_getD, List.getElem?_eq_getElem hi]
    rfl
  · rw [List.getElem?_eq_none (by rw [rc_length]; omega), List.getElem?_eq_none (by simp; omega)]
end

theorem apart_fam (L : List (Value × List UInt8)) (base N : Nat) (lv : Value) (w : World) (hN0 : L.length = N) (hl : Sl w 1 lv N (L.map (·.1))) (hf : Fam w base L) (hN : N ≤ 1048576) (hb : ∀ p ∈ L, p.2.length ≤ 140737488355000) :
    Calls Tryz.prog 36 #[lv] w fun e w' => e = .returned (.bool true) ∧ ∃ M, Mod M w w' ∧ ∀ b ∈ M, ∃ p ∈ L, b ∈ blks p.1 := by
  subst hN0
  let d : Value × List UInt8 := (.slice none 0 0, [])
  refine (apartBytes_any (fun a => (L.getD a d).1) (fun a => (L.getD a d).2) (fun a => (L.getD a d).2.length) L.length lv w (by rw [rc_getD]; exact hl) (fun a ha => (hf.ob _ (getD_mem d L a ha)).1) (hf.dj' d) hN (fun _ => rfl) (fun a ha => hb _ (getD_mem d L a ha))).mono fun e w' ⟨h1, h2⟩ => ⟨h1, _, h2, fun b hb2 => ?_⟩
  obtain ⟨a, ha, hb3⟩ := of_LB hb2
  exact ⟨_, getD_mem d L a ha, hb3⟩

/-- the walk of Pick -/
def pick (x n : Int) : Int := if n < 1 then 0 else if x.tmod n < 0 then x.tmod n + n else x.tmod n
theorem pick_ge (x n : Int) : 0 ≤ pick x n := by
  unfold pick
  split
  · exact Int.le_refl _
  · rename_i h
    have := Int.lt_tmod_of_pos x (show 0 < n by omega)
    split <;> omega
theorem pick_lt (x n : Int) (h : 1 ≤ n) : pick x n < n := by
  unfold pick
  rw [if_neg (by omega)]
  have := Int.tmod_lt_of_pos x (show 0 < n by omega)
  split <;> omega
set_option maxHeartbeats 1000000 in
theorem pick_any (x n : Int) (w : World) (h1 : -9223372036854775808 ≤ x) (h2 : x ≤ 9223372036854775807) (h3 : -9223372036854775808 ≤ n) (h4 : n ≤ 9223372036854775807) :
    Calls Tryz.prog 26 #[.int .i64 x, .int .i64 n] w fun e w' => e = .returned (.int .i64 (pick x n)) ∧ w = w' := by
  by_cases hn : n < 1
  · have hp : pick x n = 0 := by unfold pick; rw [if_pos hn]
    rw [hp]
    clear hp
    go_enter Tryz.func26, Tryz.ntmps26
    go_wp2_with fail
    go_ret
    exact ⟨rfl, rfl⟩
  · have hm1 := Int.lt_tmod_of_pos x (show 0 < n by omega)
    have hm2 := Int.tmod_lt_of_pos x (show 0 < n by omega)
    have hn1 : 1 ≤ n := by omega
    by_cases hr : x.tmod n < 0
    · have hp : pick x n = x.tmod n + n := by unfold pick; rw [if_neg hn, if_pos hr]
      rw [hp]
      clear hp hn
      go_enter Tryz.func26, Tryz.ntmps26
      go_wp2_with fail
      go_ret
      exact ⟨rfl, rfl⟩
    · have hp : pick x n = x.tmod n := by unfold pick; rw [if_neg hn, if_neg hr]
      rw [hp]
      clear hp hn
      go_enter Tryz.func26, Tryz.ntmps26
      go_wp2_with fail
      go_ret
      exact ⟨rfl, rfl⟩
end Go.Proofs.YtdmnogmhnhjdgaaGreat
