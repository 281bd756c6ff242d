import Derived.Test.YtboigcnpamldlaaDoorFrT
/-! Frames one behind another: the plain law of FrameBack. -/
set_option linter.unusedVariables false
set_option linter.unusedSimpArgs false
set_option maxRecDepth 100000
namespace Go.Proofs.YtboigcnpamldlaaDoor
open Go.RowKit Gw

/-- frames of one epoch, one behind another -/
def catB (e : Nat) : Nat → List (List UInt8) → List UInt8
  | _, [] => []
  | s, l :: ls => frame e (s + 1) l ++ catB e (s + 1) ls
def rowB (e : Nat) : Nat → Nat → List (List UInt8) → List (Nat × Fv)
  | _, _, [] => []
  | s, p, l :: ls => (p, ⟨e, s + 1, l⟩) :: rowB e (s + 1) (p + (22 + l.length)) ls
theorem catB_snoc (e : Nat) (l : List UInt8) : ∀ (s : Nat) (ls : List (List UInt8)), catB e s (ls ++ [l]) = catB e s ls ++ frame e (s + ls.length + 1) l
  | s, [] => by simp [catB]
  | s, x :: ls => by
    rw [List.cons_append]
    unfold catB
    rw [catB_snoc e l (s + 1) ls, List.append_assoc, List.length_cons, show s + 1 + ls.length + 1 = s + (ls.length + 1) + 1 by omega]
theorem rowB_snoc (e : Nat) (l : List UInt8) : ∀ (s p : Nat) (ls : List (List UInt8)), rowB e s p (ls ++ [l]) = rowB e s p ls ++ [(p + (catB e s ls).length, ⟨e, s + ls.length + 1, l⟩)]
  | s, p, [] => by simp [rowB, catB]
  | s, p, x :: ls => by
    rw [List.cons_append]
    unfold rowB
    rw [rowB_snoc e l (s + 1) _ ls, List.cons_append, List.length_cons, show s + 1 + ls.length + 1 = s + (ls.length + 1) + 1 by omega]
    have : p + (22 + x.length) + (catB e (s + 1) ls).length = p + (catB e s (x :: ls)).length := by
      show _ = p + (frame e (s + 1) x ++ catB e (s + 1) ls).length
      rw [List.length_append, frame_len]
      omega
    rw [this]
theorem rowB_len (e : Nat) : ∀ (s p : Nat) (ls : List (List UInt8)), (rowB e s p ls).length = ls.length
  | _, _, [] => rfl
  | s, p, x :: ls => by unfold rowB; rw [List.length_cons, rowB_len e (s + 1) _ ls, List.length_cons]
theorem rowB_end (e : Nat) : ∀ (s p : Nat) (ls : List (List UInt8)), endF (rowB e s p ls) p = p + (catB e s ls).length
  | _, _, [] => rfl
  | s, p, x :: ls => by
    unfold rowB
    rw [endF_cons]
    dsimp only
    rw [rowB_end e (s + 1) _ ls]
    show _ = p + (frame e (s + 1) x ++ catB e (s + 1) ls).length
    rw [List.length_append, frame_len]
    omega
theorem rowB_take (e : Nat) : ∀ (k s p : Nat) (ls : List (List UInt8)), rowB e s p (ls.take k) = (rowB e s p ls).take k
  | 0, _, _, _ => rfl
  | k + 1, s, p, [] => rfl
  | k + 1, s, p, x :: ls => by
    rw [List.take_succ_cons]
    unfold rowB
    rw [List.take_succ_cons, rowB_take e k]
theorem rowS_cat {e : Nat} (he : e < 18446744073709551616) (T : List UInt8) : ∀ (ls : List (List UInt8)) (P : List UInt8) (s : Nat), (∀ l ∈ ls, l.length ≤ 32) → s + ls.length < 18446744073709551616 →
    stepF (P ++ (catB e s ls ++ T)) e (s + ls.length) (P.length + (catB e s ls).length) = false → rowS (P ++ (catB e s ls ++ T)) e s P.length = rowB e s P.length ls
  | [], P, s, _, _, h => by
    have h' : stepF (P ++ (catB e s [] ++ T)) e s P.length = false := h
    rw [rowS_no h']; rfl
  | x :: ls, P, s, hl, hs, h => by
    have hx := hl x (by simp)
    rw [List.length_cons] at hs h
    have hg := getF_of he (show s + 1 < 18446744073709551616 by omega) hx (catB e (s + 1) ls ++ T)
    have e0 : (P ++ (catB e s (x :: ls) ++ T)).drop P.length = frame e (s + 1) x ++ (catB e (s + 1) ls ++ T) := by
      rw [List.drop_left]
      show frame e (s + 1) x ++ catB e (s + 1) ls ++ T = _
      rw [List.append_assoc]
    have hst : stepF (P ++ (catB e s (x :: ls) ++ T)) e s P.length = true := by
      unfold stepF
      rw [e0, hg.1, hg.2.1]
      simp
      omega
    have hn : numF ((P ++ (catB e s (x :: ls) ++ T)).drop P.length) = 22 + x.length := by
      unfold numF
      rw [e0, if_pos hg.1, hg.2.2]
    have e1 : P ++ (catB e s (x :: ls) ++ T) = (P ++ frame e (s + 1) x) ++ (catB e (s + 1) ls ++ T) := by
      show P ++ ((frame e (s + 1) x ++ catB e (s + 1) ls) ++ T) = _
      simp only [List.append_assoc]
    have e2 : (P ++ frame e (s + 1) x).length = P.length + (22 + x.length) := by rw [List.length_append, frame_len]
    have ih := rowS_cat he T ls (P ++ frame e (s + 1) x) (s + 1) (fun l h => hl l (by simp [h])) (by omega)
    rw [← e1, e2] at ih
    rw [rowS_yes hst, hn, e0, hg.2.1]
    unfold rowB
    rw [ih (by
      rw [← h, show s + 1 + ls.length = s + (ls.length + 1) by omega]
      congr 1
      show _ = P.length + (frame e (s + 1) x ++ catB e (s + 1) ls).length
      rw [List.length_append, frame_len]
      omega)]
/-- too little is left for a frame -/
theorem step_short {b : List UInt8} {e s p : Nat} (h : b.length < p + 22) : stepF b e s p = false := by
  cases h1 : stepF b e s p with
  | false => rfl
  | true => have := step_num h1; omega
/-- of another epoch -/
theorem step_other {A T : List UInt8} {e e' s s' : Nat} (he : e' < 18446744073709551616) (hs : s' < 18446744073709551616) (hne : e' ≠ e) : stepF (A ++ (frame e' s' [] ++ T)) e s A.length = false := by
  have hg := getF_of he hs (l := []) (by decide) T
  unfold stepF
  rw [List.drop_left, hg.1, hg.2.1]
  simp [hne]
/-- the whole, and a part -/
theorem back_row {e s e' s' : Nat} (ls : List (List UInt8)) (he : e < 18446744073709551616) (hl : ∀ l ∈ ls, l.length ≤ 32) (hs : s + ls.length < 18446744073709551616) (he' : e' < 18446744073709551616) (hs' : s' < 18446744073709551616) (hne : e' ≠ e) :
    rowS (catB e s ls ++ frame e' s' []) e s 0 = rowB e s 0 ls := by
  have := rowS_cat he (frame e' s' []) ls [] s hl hs (by
    have := step_other (A := catB e s ls) (T := []) (s := s + ls.length) he' hs' hne
    simpa using this)
  simpa using this
theorem catB_split (e : Nat) : ∀ (k s : Nat) (ls : List (List UInt8)), k < ls.length → ∃ R, catB e s ls = catB e s (ls.take k) ++ R ∧ 22 ≤ R.length
  | 0, s, x :: ls, _ => ⟨catB e s (x :: ls), rfl, by show 22 ≤ (frame e (s + 1) x ++ catB e (s + 1) ls).length; rw [List.length_append, frame_len]; omega⟩
  | k + 1, s, x :: ls, h => by
    obtain ⟨R, h1, h2⟩ := catB_split e k (s + 1) ls (by simpa using h)
    refine ⟨R, ?_, h2⟩
    rw [List.take_succ_cons]
    unfold catB
    rw [h1, List.append_assoc]
  | _, _, [], h => absurd h (by simp)
theorem back_part {e s k : Nat} (ls : List (List UInt8)) (O : List UInt8) (he : e < 18446744073709551616) (hl : ∀ l ∈ ls, l.length ≤ 32) (hs : s + ls.length < 18446744073709551616) (hk : k < ls.length) :
    ∃ q, (rowB e s 0 ls).map (·.1) = (rowB e s 0 ls).map (·.1) ∧ q = (catB e s (ls.take k)).length ∧ ((rowB e s 0 ls).map (·.1))[k]? = some q ∧ q + 22 ≤ (catB e s ls).length ∧ rowS ((catB e s ls ++ O).take (q + 5)) e s 0 = (rowB e s 0 ls).take k ∧ endF ((rowB e s 0 ls).take k) 0 = q := by
  obtain ⟨R, h1, h2⟩ := catB_split e k s ls hk
  refine ⟨_, rfl, rfl, ?_, by rw [h1, List.length_append]; omega, ?_, ?_⟩
  · have hx : ls = ls.take k ++ [ls[k]] ++ ls.drop (k + 1) := by
      rw [List.take_append_getElem hk, List.take_append_drop]
    have e1 := rowB_take e (k + 1) s 0 ls
    rw [← List.take_append_getElem hk, rowB_snoc] at e1
    have hkl : k < (rowB e s 0 ls).length := by rw [rowB_len]; exact hk
    have e2 : ((rowB e s 0 ls).take (k + 1))[k]? = (rowB e s 0 ls)[k]? := List.getElem?_take_of_lt (by omega)
    rw [← e1, List.getElem?_append_right (by rw [rowB_len, List.length_take]; omega), rowB_len, List.length_take, Nat.min_eq_left (by omega)] at e2
    rw [List.getElem?_map, ← e2]
    simp
  · have e3 : (catB e s ls ++ O).take ((catB e s (ls.take k)).length + 5) = catB e s (ls.take k) ++ R.take 5 := by
      rw [h1, List.append_assoc, List.take_length_add_append, List.take_append_of_le_length (by omega)]
    rw [e3, ← rowB_take]
    have := rowS_cat he (R.take 5) (ls.take k) [] s (fun l h => hl l (List.mem_of_mem_take h)) (by rw [List.length_take]; omega) (step_short (by
      simp only [List.nil_append, List.length_append, List.length_take, List.length_nil]
      omega))
    simpa using this
  · rw [← rowB_take, rowB_end]
    omega
end Go.Proofs.YtboigcnpamldlaaDoor
