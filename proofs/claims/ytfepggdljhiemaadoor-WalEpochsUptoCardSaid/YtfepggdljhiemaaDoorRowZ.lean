import Derived.Test.YtfepggdljhiemaaDoorRowI
import Derived.Test.YtfepggdljhiemaaDoorWlO
/-! What WalEpochs takes, opened: lists of rows of bytes. -/
set_option linter.unusedVariables false
set_option linter.unusedSimpArgs false
set_option maxRecDepth 100000
namespace Go.Proofs.YtfepggdljhiemaaDoor
open Go.ChangeShapes Go.WideShapes Go.ChangeAt Go.RowKit Gw Go.Deep

theorem open_imgT {H : Type} {enc : TypeId × Value → H} {w : World} {n : Nat} {v : Value} {d : DataW H} {ps : List MemPlace} (hf : DataW.trod enc Tryd.prog w 0 (fun _ => true) true n 56 [v] = some (d, ps)) :
    ∃ I, RowsF w v I ∧ I.length + 1 ≤ Rows.uptoBulk d ∧ ∀ p ∈ I, p.2.length + 1 ≤ Rows.uptoBulk d := by
  rcases open_slice Tryd.underlying56 hf with ⟨hc, hx⟩ | ⟨a, len, cap, m, k, D, Pl, hc, _, hl, hm, hmm, hx0, hx⟩
  · obtain rfl : v = .slice none 0 0 := by simpa using hc
    simp only [Prod.mk.injEq] at hx
    obtain ⟨rfl, _⟩ := hx
    exact ⟨[], RowsF.nil w, by simp [Rows.uptoBulk], fun p hp => nomatch hp⟩
  · obtain rfl : v = .slice (some a) len cap := by simpa using hc
    simp only [if_true] at hmm
    subst hmm
    simp only [Prod.mk.injEq] at hx0
    obtain ⟨rfl, _⟩ := hx0
    have hC : Tryd.prog.cellsOf 23 = 1 := by kernel_rfl
    have hcells : ∀ i, i < m → ∃ x : Value × List UInt8, w.cell? (a.add i) = some x.1 ∧ Bs w x.1 x.2 ∧ (i < len → x.2.length + 1 ≤ Rows.uptoBulk (D i)) := fun i hi => by
      obtain ⟨cs', h1, h2⟩ := hx i hi
      rw [hC] at h1
      obtain ⟨_, hlen, hat⟩ := World.cells?_some h1
      obtain ⟨u, rfl⟩ : ∃ u, cs' = [u] := by
        match cs', hlen with
        | [u], _ => exact ⟨u, rfl⟩
      obtain ⟨ao, cp, l, _, hb, hk⟩ := open_bytes h2
      have c0 := hat 0 (by omega)
      rw [add_add] at c0
      exact ⟨(u, l), by simpa using c0, hb, fun _ => hk⟩
    have hspot : 0 < m → a.spot = none := fun h0 => by
      obtain ⟨x, h1, _⟩ := hcells 0 h0
      have := World.cell?_spot h1
      simpa [Addr.add] using this
    obtain ⟨I, hIl, hI⟩ := list_of (Q := fun i (x : Value × List UInt8) => w.cell? (a.add i) = some x.1 ∧ Bs w x.1 x.2 ∧ (i < len → x.2.length + 1 ≤ Rows.uptoBulk (D i))) len fun i hi => hcells i (by omega)
    refine ⟨I, ⟨⟨some a, m, by rw [hIl], by simp, by omega, by unfold maxLen at hm; omega, (fun h => nomatch h), fun ad had => ?_⟩, fun p hp => ?_⟩, ?_, fun p hp => ?_⟩
    · cases had
      refine ⟨hspot, fun j u hj => ?_⟩
      have hjl : j < I.length := by
        have := (List.getElem?_eq_some_iff.1 hj).1
        simpa using this
      have h1 := (hI j hjl).1
      rw [List.getElem?_map, List.getElem?_eq_getElem hjl] at hj
      have hj' : I[j].1 = u := by simpa using hj
      rw [hj'] at h1
      have hs := hspot (by omega)
      obtain ⟨ab, ao, sp⟩ := a
      simp only at hs
      subst hs
      rwa [Addr.add_lit] at h1
    · obtain ⟨i, hi, rfl⟩ := List.getElem_of_mem hp
      exact (hI i hi).2.1
    · have := bulkF_each ((List.range len).map D) fun d _ => bulkF_pos d
      simp only [List.length_map, List.length_range] at this
      simp only [Rows.uptoBulk]
      omega
    · obtain ⟨i, hi, rfl⟩ := List.getElem_of_mem hp
      have h1 := (hI i hi).2.2 (by omega)
      have h2 : Rows.uptoBulk (D i) ≤ Rows.uptoBulkAll ((List.range len).map D) := bulkF_mem (List.mem_map.2 ⟨i, by simp; omega, rfl⟩)
      simp only [Rows.uptoBulk]
      omega
theorem open_imgsF {H : Type} {enc : TypeId × Value → H} {w : World} {r : Reach} {b0 : Nat} {v : Value} {d : DataW H} {ps : List MemPlace} (hval : Value.okWide Tryd.prog w r b0 55 v) (hd : DataW.Trod enc Tryd.prog w 0 (fun _ => true) true 55 v d ps) :
    ∃ LL, RowsRW w v LL ∧ LL.length + 1 ≤ Rows.uptoBulk d ∧ ∀ p ∈ LL, p.2.length + 1 ≤ Rows.uptoBulk d ∧ ∀ y ∈ p.2, y.2.length + 1 ≤ Rows.uptoBulk d := by
  obtain ⟨fuel, hf⟩ := hd
  rw [one_sliceI Tryd.underlying55 hval] at hf
  rcases open_slice Tryd.underlying55 hf with ⟨hc, hx⟩ | ⟨a, len, cap, m, k, D, Pl, hc, _, hl, hm, hmm, hx0, hx⟩
  · obtain rfl : v = .slice none 0 0 := by simpa using hc
    simp only [Prod.mk.injEq] at hx
    obtain ⟨rfl, _⟩ := hx
    exact ⟨[], ⟨Sl.nil w 1, fun x hx => nomatch hx⟩, by simp [Rows.uptoBulk], fun p hp => nomatch hp⟩
  · obtain rfl : v = .slice (some a) len cap := by simpa using hc
    simp only [if_true] at hmm
    subst hmm
    simp only [Prod.mk.injEq] at hx0
    obtain ⟨rfl, _⟩ := hx0
    have hC : Tryd.prog.cellsOf 56 = 1 := by kernel_rfl
    have hcells : ∀ i, i < m → ∃ x : Value × List (Value × List UInt8), w.cell? (a.add i) = some x.1 ∧ RowsF w x.1 x.2 ∧ (i < len → x.2.length + 1 ≤ Rows.uptoBulk (D i) ∧ ∀ y ∈ x.2, y.2.length + 1 ≤ Rows.uptoBulk (D i)) := fun i hi => by
      obtain ⟨cs', h1, h2⟩ := hx i hi
      rw [hC] at h1
      obtain ⟨_, hlen, hat⟩ := World.cells?_some h1
      obtain ⟨u, rfl⟩ : ∃ u, cs' = [u] := by
        match cs', hlen with
        | [u], _ => exact ⟨u, rfl⟩
      obtain ⟨I, hb, hk, hk2⟩ := open_imgT h2
      have c0 := hat 0 (by omega)
      rw [add_add] at c0
      exact ⟨(u, I), by simpa using c0, hb, fun _ => ⟨hk, hk2⟩⟩
    have hspot : 0 < m → a.spot = none := fun h0 => by
      obtain ⟨x, h1, _⟩ := hcells 0 h0
      have := World.cell?_spot h1
      simpa [Addr.add] using this
    obtain ⟨I, hIl, hI⟩ := list_of (Q := fun i (x : Value × List (Value × List UInt8)) => w.cell? (a.add i) = some x.1 ∧ RowsF w x.1 x.2 ∧ (i < len → x.2.length + 1 ≤ Rows.uptoBulk (D i) ∧ ∀ y ∈ x.2, y.2.length + 1 ≤ Rows.uptoBulk (D i))) len fun i hi => hcells i (by omega)
    refine ⟨I, ⟨⟨some a, m, by rw [hIl], by simp, by omega, by unfold maxLen at hm; omega, (fun h => nomatch h), fun ad had => ?_⟩, fun p hp => ?_⟩, ?_, fun p hp => ?_⟩
    · cases had
      refine ⟨hspot, fun j u hj => ?_⟩
      have hjl : j < I.length := by
        have := (List.getElem?_eq_some_iff.1 hj).1
        simpa using this
      have h1 := (hI j hjl).1
      rw [List.getElem?_map, List.getElem?_eq_getElem hjl] at hj
      have hj' : I[j].1 = u := by simpa using hj
      rw [hj'] at h1
      have hs := hspot (by omega)
      obtain ⟨ab, ao, sp⟩ := a
      simp only at hs
      subst hs
      rwa [Addr.add_lit] at h1
    · obtain ⟨i, hi, rfl⟩ := List.getElem_of_mem hp
      exact (hI i hi).2.1
    · have := bulkF_each ((List.range len).map D) fun d _ => bulkF_pos d
      simp only [List.length_map, List.length_range] at this
      simp only [Rows.uptoBulk]
      omega
    · obtain ⟨i, hi, rfl⟩ := List.getElem_of_mem hp
      have h1 := (hI i hi).2.2 (by omega)
      have h2 : Rows.uptoBulk (D i) ≤ Rows.uptoBulkAll ((List.range len).map D) := bulkF_mem (List.mem_map.2 ⟨i, by simp; omega, rfl⟩)
      simp only [Rows.uptoBulk]
      exact ⟨by omega, fun y hy => by have := h1.2 y hy; omega⟩
end Go.Proofs.YtfepggdljhiemaaDoor
