import Derived.Test.YtdmnogmhnhjdgaaRowA
import Derived.Test.YtdmnogmhnhjdgaaOpA
import Derived.Deep.Slices
import Derived.Deep.Fields
/-! A slice of structs of one-cell fields opened; a script opened. -/
set_option linter.unusedVariables false
set_option linter.unusedSimpArgs false
set_option maxRecDepth 100000
namespace Go.Proofs.Ytdmnogmhnhjdgaa
open Go.ChangeShapes Go.WideShapes Go.ChangeAt Go.RowKit Gw Go.Deep

theorem list_of {α : Type} {Q : Nat → α → Prop} : ∀ (n : Nat), (∀ i, i < n → ∃ x, Q i x) → ∃ l : List α, l.length = n ∧ ∀ (i : Nat) (hi : i < l.length), Q i l[i]
  | 0, _ => ⟨[], rfl, fun i hi => absurd hi (Nat.not_lt_zero _)⟩
  | n + 1, h => by
    obtain ⟨l, hl, hq⟩ := list_of (Q := Q) n fun i hi => h i (by omega)
    obtain ⟨x, hx⟩ := h n (by omega)
    refine ⟨l ++ [x], by simp [hl], fun i hi => ?_⟩
    by_cases hin : i < l.length
    · rw [List.getElem_append_left hin]
      exact hq i hin
    · have : i = l.length := by simp at hi; omega
      subst this
      rw [List.getElem_append_right (Nat.le_refl _)]
      simpa [hl] using hx

section
variable {H : Type} {enc : TypeId × Value → H} {P : Program} {w : World} {base : Nat} {spare : Nat → Bool} {held : Bool}
theorem open_rows {t e : TypeId} {fs : Array Field} {fuel : Nat} {cs : List Value} {x : DataW H × List MemPlace} (ht : P.underlying t = some (.slice e)) (he : P.underlying e = some (.struct fs))
    (hone : oneCellFields P fs = true) (hC : P.cellsOf e = fs.size) (h : DataW.trod enc P w base spare held fuel t cs = some x) :
    (cs = [.slice none 0 0] ∧ x.1 = .nil) ∨
    ∃ (a : Addr) (len cap : Nat) (D : Nat → DataW H) (rest : List (DataW H)), cs = [.slice (some a) len cap] ∧ len ≤ cap ∧ cap ≤ maxLen ∧ x.1 = .slice ((List.range len).map D) rest ∧
      ∀ i, i < len → ∃ (c : List Value) (ys : List (DataW H)) (n : Nat), c.length = fs.size ∧ D i = .agg ys ∧ ys.length = fs.size ∧ (∀ j u, c[j]? = some u → w.cell? (a.add (i * fs.size + j)) = some u) ∧
        ∀ (j : Nat) (f : Field), fs[j]? = some f → ∃ u d p, c[j]? = some u ∧ ys[j]? = some d ∧ DataW.trod enc P w base spare held n f.type [u] = some (d, p) := by
  rcases open_slice ht h with ⟨h1, h2⟩ | ⟨a, len, cap, m, n, D, Pl, hcs, _, hl, hm, hmm, hx, hi⟩
  · exact .inl ⟨h1, by rw [h2]⟩
  · refine .inr ⟨a, len, cap, D, _, hcs, hl, hm, by rw [hx], fun i him => ?_⟩
    obtain ⟨c, hc, htr⟩ := hi i (by rw [hmm]; split <;> omega)
    rw [hC] at hc
    obtain ⟨ys, n', _, hy, _, hyl, hf⟩ := DataW.trod_struct he htr
    obtain ⟨_, hcl, hat⟩ := World.cells?_some hc
    simp only [Prod.mk.injEq] at hy
    refine ⟨c, ys.map (·.1), n', hcl, hy.1, by simpa using hyl, fun j u hu => ?_, fun j f hj => ?_⟩
    · have hj : j < fs.size := by have := (List.getElem?_eq_some_iff.1 hu).1; omega
      have := hat j hj
      rw [add_add] at this
      rw [this, hu]
    · obtain ⟨ho, hk⟩ := hone_of hone j f hj
      have hjl : j < fs.size := (Array.getElem?_eq_some_iff.1 hj).1
      have h1 := hf j f hj
      rw [ho, hk] at h1
      have h2 : (c.drop j).take 1 = [c[j]'(by omega)] := by
        rw [List.drop_eq_getElem_cons (by omega)]
        rfl
      have hys : ys[j]? = some (ys[j]'(by omega)) := List.getElem?_eq_getElem (by omega)
      rw [h2, hys] at h1
      exact ⟨_, (ys[j]'(by omega)).1, (ys[j]'(by omega)).2, List.getElem?_eq_getElem (by omega), by rw [List.getElem?_map, hys]; rfl, h1⟩
end

/-- bytes that lie anywhere -/
theorem open_bytes {H : Type} {enc : TypeId × Value → H} {w : World} {n : Nat} {u : Value} {d : DataW H} {p : List MemPlace} (h : DataW.trod enc Try.prog w 0 (fun _ => true) true n 35 [u] = some (d, p)) :
    ∃ (ao : Option Addr) (cap : Nat) (l : List UInt8), u = .slice ao l.length cap ∧ Bs w u l ∧ l.length + 1 ≤ Rows.uptoBulk d := by
  rcases open_ints Try.underlying35 Try.underlying5 (by kernel_rfl) h with ⟨hc, hx⟩ | ⟨a, len, cap, zs, hc, _, hlc, hcm, hz, hx, hcell, hw⟩
  · simp only [Prod.mk.injEq] at hx
    obtain ⟨rfl, _⟩ := hx
    obtain rfl : u = .slice none 0 0 := by simpa using hc
    exact ⟨none, 0, [], rfl, Sl.nil w 1, by simp [Rows.uptoBulk]⟩
  · obtain rfl : u = .slice (some a) len cap := by simpa using hc
    simp only [Prod.mk.injEq] at hx
    obtain ⟨rfl, _⟩ := hx
    simp only [if_true] at hz
    have hlt : (zs.take len).length = len := by simp; omega
    have hspot : 0 < cap → a.spot = none := fun h0 => by
      have := World.cell?_spot (hcell 0 (by omega))
      simpa [Addr.add] using this
    refine ⟨some a, cap, (zs.take len).map fun z => UInt8.ofNat z.toNat, by rw [List.length_map, hlt], ⟨some a, cap, by rw [List.length_map, hlt], ?_, by rw [List.length_map, hlt]; exact hlc, ?_, (fun h => nomatch h), fun ad had => ?_⟩, ?_⟩
    · simp [bv]
    · unfold maxLen at hcm; omega
    · cases had
      refine ⟨hspot, fun j u hj => ?_⟩
      simp only [bv, List.map_map, List.getElem?_map, Option.map_eq_some_iff] at hj
      obtain ⟨z, hzj, rfl⟩ := hj
      have hj2 : j < len := by have := (List.getElem?_eq_some_iff.1 hzj).1; simp at this; omega
      have hj3 : zs[j]? = some z := by rw [List.getElem?_take_of_lt hj2] at hzj; exact hzj
      have hjz : j < zs.length := (List.getElem?_eq_some_iff.1 hj3).1
      have h1 := hcell j hjz
      have h2 : zs.getD j 0 = z := by simp [List.getD, hj3]
      have h3 := hw z (List.mem_of_getElem? hj3)
      have h4 : 0 ≤ z ∧ z ≤ 255 := by simpa [Lit.wf, IntKind.min, IntKind.max, IntKind.signed, IntKind.bits] using h3
      rw [h2] at h1
      have hsp := hspot (by omega)
      obtain ⟨ab, ao, sp⟩ := a
      simp only at hsp
      subst hsp
      rw [Addr.add_lit] at h1
      simp only [Function.comp]
      rw [h1]
      simp only [Option.some.injEq, Value.int.injEq, true_and]
      rw [UInt8.toNat_ofNat']
      omega
    · have := bulk_len (lits (H := H) .u8 (zs.take len))
      simp only [lits, List.length_map] at this
      simp only [Rows.uptoBulk, List.length_map]
      unfold lits
      omega

theorem bulk_bytes {H : Type} : ∀ (os : List Opr) (E : List (DataW H)), os.length = E.length → (∀ (i : Nat) (hi : i < os.length) (hj : i < E.length), os[i].l.length + 1 ≤ Rows.uptoBulk E[i]) → (os.map fun o => o.l.length).sum + os.length ≤ Rows.uptoBulkAll E
  | [], E, _, _ => by simp
  | o :: os, [], h, _ => by simp at h
  | o :: os, d :: E, h, hb => by
    have h0 := hb 0 (by simp) (by simp)
    have h1 := bulk_bytes os E (by simpa using h) fun i hi hj => by
      have := hb (i + 1) (by simp; omega) (by simp; omega)
      simp only [List.getElem_cons_succ] at this
      exact this
    simp only [List.getElem_cons_zero] at h0
    simp only [List.map_cons, List.sum_cons, List.length_cons, Rows.uptoBulkAll]
    omega

theorem len4 : ∀ os : List Opr, (os.flatMap opCells).length = os.length * 4
  | [] => rfl
  | o :: os => by
    rw [List.flatMap_cons, List.length_append, len4 os, List.length_cons]
    show 4 + os.length * 4 = _
    omega

end Go.Proofs.Ytdmnogmhnhjdgaa
