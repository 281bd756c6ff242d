import Derived.Test.YtkedbphdflhhlaaDkD
/-! DiskSurvives: what a crash leaves, in plain. -/
set_option linter.unusedVariables false
set_option linter.unusedSimpArgs false
set_option maxRecDepth 100000
namespace Go.Proofs.Ytkedbphdflhhlaa
open Go.RowKit Gw

theorem tear_naught (b old : List UInt8) : tear 0 b old = old := by simp [tear]
theorem tear_full {b old : List UInt8} {n : Nat} (hb : b.length = n) (ho : old.length = n) : tear n b old = b := by
  unfold tear
  rw [List.take_of_length_le (by omega), List.drop_eq_nil_of_le (by omega), List.append_nil]
theorem set_getD {α : Type} (l : List α) (i : Nat) (d : α) : l.set i (l.getD i d) = l := by
  apply List.ext_getElem?
  intro j
  rw [List.getElem?_set]
  by_cases h : i = j
  · subst h
    by_cases hi : i < l.length
    · rw [if_pos rfl, if_pos hi, List.getD_eq_getElem?_getD, List.getElem?_eq_getElem hi]; rfl
    · rw [if_pos rfl, if_neg hi, List.getElem?_eq_none (by omega)]
  · rw [if_neg h]
/-- without fates all is as it was -/
theorem settleD_zero (row : List (Nat × List UInt8)) (d : List (List UInt8)) : settleD (fun _ => 0) row d = d := by
  unfold settleD
  have key : ∀ (l : List ((Nat × List UInt8) × Nat)) (d : List (List UInt8)), l.foldl (stepD fun _ => 0) d = d := by
    intro l
    induction l with
    | nil => exact fun d => rfl
    | cons x l ih =>
      intro d
      rw [List.foldl_cons, ih]
      unfold stepD
      rw [tear_naught, set_getD]
  exact key _ _
theorem crash_nil (m : Dm) : m.crash [] = ⟨m.sz, m.dur, []⟩ := by
  unfold Dm.crash Dm.settle
  rw [show (fun i => clampN (fateK m.sz [] i) m.sz) = fun _ => 0 from by funext i; simp [fateK, clampN], settleD_zero]
/-- all kept: it is as it was found -/
theorem read_snoc (s : Nat) (d : List (List UInt8)) (row : List (Nat × List UInt8)) (a : Nat) (b : List UInt8) (at_ : Nat) : (Dm.mk s d (row ++ [(a, b)])).read at_ = if a = at_ then b else (Dm.mk s d row).read at_ := by
  unfold Dm.read
  rw [List.reverse_append, List.reverse_singleton, List.singleton_append, List.find?_cons]
  by_cases h : a = at_
  · simp [h]
  · simp [h]
theorem settleD_keep (n : Nat) (row : List (Nat × List UInt8)) (d : List (List UInt8)) (hd : ∀ b ∈ d, b.length = n) (hr : ∀ x ∈ row, x.1 < d.length ∧ x.2.length = n) (g : Nat → Nat) (hg : ∀ i, i < row.length → g i = n) (at_ : Nat) (ha : at_ < d.length) :
    (settleD g row d)[at_]? = some ((Dm.mk n d row).read at_) := by
  have key : ∀ j, j ≤ row.length → (settleD g (row.take j) d)[at_]? = some ((Dm.mk n d (row.take j)).read at_) := by
    intro j
    induction j with
    | zero =>
      intro _
      simp only [List.take_zero]
      unfold settleD Dm.read
      simp [List.getElem?_eq_getElem ha]
    | succ j ih =>
      intro hj
      have hj' : j < row.length := by omega
      have ih := ih (by omega)
      have hall := settleD_all g hd (fun x hx => hr x (List.mem_of_mem_take (i := j) hx))
      have hlen : (settleD g (row.take j) d).length = d.length := settleD_len _ _ _
      have hx := hr _ (List.getElem_mem hj')
      rw [settleD_succ _ _ _ _ hj', List.take_add_one, List.getElem?_eq_getElem hj', Option.toList_some]
      generalize row[j] = ab at hx ⊢
      obtain ⟨a, b⟩ := ab
      rw [read_snoc]
      unfold stepD
      dsimp only at hx ⊢
      rw [List.getElem?_set, hg j hj']
      by_cases h : a = at_
      · subst h
        rw [if_pos rfl, if_pos rfl, if_pos (by omega)]
        rw [tear_full hx.2]
        refine hall _ ?_
        rw [List.getD_eq_getElem?_getD, List.getElem?_eq_getElem (by omega)]
        exact List.getElem_mem _
      · rw [if_neg h, if_neg h]
        exact ih
  have := key row.length (Nat.le_refl _)
  rwa [List.take_of_length_le (Nat.le_refl _)] at this
/-- each byte is as it was, or as one of the writes since has it -/
theorem settleD_byte (n : Nat) (row : List (Nat × List UInt8)) (d : List (List UInt8)) (hd : ∀ b ∈ d, b.length = n) (hr : ∀ x ∈ row, x.1 < d.length ∧ x.2.length = n) (g : Nat → Nat) (at_ k : Nat) (ha : at_ < d.length) (hk : k < n) (x : List UInt8) (hx : (settleD g row d)[at_]? = some x) :
    (d[at_]'ha)[k]? = x[k]? ∨ ∃ i, ∃ hi : i < row.length, row[i].1 = at_ ∧ row[i].2[k]? = x[k]? := by
  have key : ∀ j, j ≤ row.length → ∀ x, (settleD g (row.take j) d)[at_]? = some x → (d[at_]'ha)[k]? = x[k]? ∨ ∃ i, ∃ hi : i < row.length, i < j ∧ row[i].1 = at_ ∧ row[i].2[k]? = x[k]? := by
    intro j
    induction j with
    | zero =>
      intro _ x hx
      simp only [List.take_zero] at hx
      unfold settleD at hx
      simp [List.getElem?_eq_getElem ha] at hx
      exact .inl (by rw [hx])
    | succ j ih =>
      intro hj x hx
      have hj' : j < row.length := by omega
      have ih := ih (by omega)
      have hall := settleD_all g hd (fun x hx => hr x (List.mem_of_mem_take (i := j) hx))
      have hlen : (settleD g (row.take j) d).length = d.length := settleD_len _ _ _
      have hxj := hr _ (List.getElem_mem hj')
      rw [settleD_succ _ _ _ _ hj'] at hx
      unfold stepD at hx
      dsimp only at hx
      rw [List.getElem?_set] at hx
      by_cases h : row[j].1 = at_
      · rw [if_pos h, if_pos (by omega)] at hx
        have hx' := Option.some.inj hx
        rw [List.getD_eq_getElem?_getD] at hx'
        rw [h] at hx'
        have hat : at_ < (settleD g (row.take j) d).length := by omega
        rw [List.getElem?_eq_getElem hat, Option.getD_some] at hx'
        have ho := hall _ (List.getElem_mem hat)
        have ih' := ih _ (List.getElem?_eq_getElem hat)
        generalize (settleD g (row.take j) d)[at_] = old at hx' ho ih'
        subst hx'
        unfold tear
        by_cases hc : k < g j
        · right
          refine ⟨j, hj', by omega, h, ?_⟩
          rw [List.getElem?_append_left (by rw [List.length_take]; omega), List.getElem?_take_of_lt hc]
        · have e : (row[j].2.take (g j) ++ old.drop (g j))[k]? = old[k]? := by
            by_cases hgn : g j ≤ n
            · rw [List.getElem?_append_right (by rw [List.length_take]; omega), List.getElem?_drop, List.length_take]
              congr 1
              omega
            · omega
          rw [e]
          rcases ih' with h1 | ⟨i, hi, h2, h3⟩
          · exact .inl h1
          · exact .inr ⟨i, hi, by omega, h3⟩
      · rw [if_neg h] at hx
        rcases ih x hx with h1 | ⟨i, hi, h2, h3⟩
        · exact .inl h1
        · exact .inr ⟨i, hi, by omega, h3⟩
  have := key row.length (Nat.le_refl _) x (by rwa [List.take_of_length_le (Nat.le_refl _)])
  rcases this with h | ⟨i, hi, _, h⟩
  · exact .inl h
  · exact .inr ⟨i, hi, h⟩
/-- the writes of a script -/
def wrs (os : List Dop) : List (Nat × List UInt8) := os.map fun o => ((pick o.a 4).toNat, fillL o.x 64)
/-- a disk with writes that wait -/
def Dm.put (m : Dm) (row : List (Nat × List UInt8)) : Dm := ⟨m.sz, m.dur, row⟩
/-- the fates that keep all -/
def keeps (n : Nat) : List (Int × Int) := (List.range n).map fun i : Nat => ((1 : Int), (i : Int))
theorem keeps_at {n i : Nat} (h : i < n) (sz : Nat) : clampN (fateK sz (keeps n) i) sz = sz := by
  unfold fateK keeps clampN
  rw [List.getElem?_map, List.getElem?_eq_getElem (by simpa using h)]
  simp
end Go.Proofs.Ytkedbphdflhhlaa
