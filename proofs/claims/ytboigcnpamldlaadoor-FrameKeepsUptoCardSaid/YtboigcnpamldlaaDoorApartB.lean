import Derived.Test.YtboigcnpamldlaaDoorApartA
import Derived.Test.YtboigcnpamldlaaDoorGOct
/-! Slices of bytes that lie apart, as a list; ApartBytes of them. -/
set_option linter.unusedVariables false
set_option linter.unusedSimpArgs false
set_option maxRecDepth 100000
namespace Go.Proofs.YtboigcnpamldlaaDoor
open Go.RowKit Gw

section
variable {w w' : World} {base : Nat} {L A B : List (Value × List UInt8)} {v : Value} {l : List UInt8}
theorem getD_mem {α : Type} (d : α) (l : List α) (a : Nat) (h : a < l.length) : l.getD a d ∈ l := by
  rw [List.getD_eq_getElem?_getD, List.getElem?_eq_getElem h]
  exact List.getElem_mem h
theorem Fam.dj' (h : Fam w base L) (d : Value × List UInt8) : Dj L.length fun a => (L.getD a d).1 := by
  have hp := List.pairwise_iff_getElem.1 h.dj
  intro a b ha hb hab k hk hk2
  have ea : L.getD a d = L[a] := by rw [List.getD_eq_getElem?_getD, List.getElem?_eq_getElem ha]; rfl
  have eb : L.getD b d = L[b] := by rw [List.getD_eq_getElem?_getD, List.getElem?_eq_getElem hb]; rfl
  dsimp only at hk hk2
  rw [ea] at hk
  rw [eb] at hk2
  rcases Nat.lt_or_gt_of_ne hab with h1 | h1
  · exact hp a b ha hb h1 k hk hk2
  · exact hp b a hb ha h1 k hk2 hk
theorem rc_getD (d : Value × List UInt8) (L : List (Value × List UInt8)) : rc (fun a => (L.getD a d).1) L.length = L.map (·.1) := by
  apply List.ext_getElem?
  intro i
  by_cases hi : i < L.length
  · rw [rc_at _ hi, List.getElem?_map, List.getElem?_eq_getElem hi, List.getD_eq_getElem?_getD, List.getElem?_eq_getElem hi]
    rfl
  · rw [List.getElem?_eq_none (by rw [rc_length]; omega), List.getElem?_eq_none (by simp; omega)]
end

/-- the walk of Pick -/
def pick (x n : Int) : Int := if n < 1 then 0 else if x.tmod n < 0 then x.tmod n + n else x.tmod n
theorem pick_ge (x n : Int) : 0 ≤ pick x n := by
  unfold pick
  split
  · exact Int.le_refl _
  · rename_i h
    have := Int.lt_tmod_of_pos x (show 0 < n by omega)
    split <;> omega
theorem pick_lt (x n : Int) (h : 1 ≤ n) : pick x n < n := by
  unfold pick
  rw [if_neg (by omega)]
  have := Int.tmod_lt_of_pos x (show 0 < n by omega)
  split <;> omega
set_option maxHeartbeats 1000000 in
theorem pick_any (x n : Int) (w : World) (h1 : -9223372036854775808 ≤ x) (h2 : x ≤ 9223372036854775807) (h3 : -9223372036854775808 ≤ n) (h4 : n ≤ 9223372036854775807) :
    Calls Tryd.prog 32 #[.int .i64 x, .int .i64 n] w fun e w' => e = .returned (.int .i64 (pick x n)) ∧ w = w' := by
  by_cases hn : n < 1
  · have hp : pick x n = 0 := by unfold pick; rw [if_pos hn]
    rw [hp]
    clear hp
    go_enter Tryd.func32, Tryd.ntmps32
    go_wp2_with fail
    go_ret
    exact ⟨rfl, rfl⟩
  · have hm1 := Int.lt_tmod_of_pos x (show 0 < n by omega)
    have hm2 := Int.tmod_lt_of_pos x (show 0 < n by omega)
    have hn1 : 1 ≤ n := by omega
    by_cases hr : x.tmod n < 0
    · have hp : pick x n = x.tmod n + n := by unfold pick; rw [if_neg hn, if_pos hr]
      rw [hp]
      clear hp hn
      go_enter Tryd.func32, Tryd.ntmps32
      go_wp2_with fail
      go_ret
      exact ⟨rfl, rfl⟩
    · have hp : pick x n = x.tmod n := by unfold pick; rw [if_neg hn, if_neg hr]
      rw [hp]
      clear hp hn
      go_enter Tryd.func32, Tryd.ntmps32
      go_wp2_with fail
      go_ret
      exact ⟨rfl, rfl⟩
end Go.Proofs.YtboigcnpamldlaaDoor
