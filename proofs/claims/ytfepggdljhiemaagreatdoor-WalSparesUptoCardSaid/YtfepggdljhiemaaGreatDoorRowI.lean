import Derived.Test.YtfepggdljhiemaaGreatDoorRowH
import Derived.Test.YtfepggdljhiemaaGreatDoorGFr
/-! What the laws of frames take, opened: rows of bytes. -/
set_option linter.unusedVariables false
set_option linter.unusedSimpArgs false
set_option maxRecDepth 100000
namespace Go.Proofs.YtfepggdljhiemaaGreatDoor
open Go.ChangeShapes Go.WideShapes Go.ChangeAt Go.RowKit Gw Go.Deep

theorem bulkF_each {H : Type} : ∀ (E : List (DataW H)), (∀ d ∈ E, 1 ≤ Rows.uptoBulk d) → E.length ≤ Rows.uptoBulkAll E
  | [], _ => Nat.le_refl _
  | d :: E, h => by
    have h1 := h d (List.mem_cons_self ..)
    have h2 := bulkF_each E fun x hx => h x (List.mem_cons_of_mem _ hx)
    simp only [List.length_cons, Rows.uptoBulkAll]
    omega
theorem bulkF_pos {H : Type} (d : DataW H) : 1 ≤ Rows.uptoBulk d := by
  cases d with
  | lit l => cases l <;> simp [Rows.uptoBulk]
  | nil => simp [Rows.uptoBulk]
  | ptr d => simp [Rows.uptoBulk]
  | slice a b => simp [Rows.uptoBulk]
  | agg a => simp [Rows.uptoBulk]
  | iface a b => simp [Rows.uptoBulk]
  | map a => simp [Rows.uptoBulk]
  | held a => simp [Rows.uptoBulk]
theorem one_sliceI {w : World} {r : Reach} {b0 : Nat} {t e : TypeId} {v : Value} (ht : Tryz.prog.underlying t = some (.slice e)) (hval : Value.okWide Tryz.prog w r b0 t v) : v.cells = #[v] := by
  unfold Value.okWide at hval
  simp only [ht] at hval
  cases v <;> simp_all [Value.cells, Cell.okWide, Cell.ok]
theorem open_imgF {H : Type} {enc : TypeId × Value → H} {w : World} {r : Reach} {b0 : Nat} {v : Value} {d : DataW H} {ps : List MemPlace} (hval : Value.okWide Tryz.prog w r b0 22 v) (hd : DataW.Trod enc Tryz.prog w 0 (fun _ => true) true 22 v d ps) :
    ∃ I, RowsF w v I ∧ I.length + 1 ≤ Rows.uptoBulk d ∧ ∀ p ∈ I, p.2.length + 1 ≤ Rows.uptoBulk d := by
  obtain ⟨fuel, hf⟩ := hd
  rw [one_sliceI Tryz.underlying22 hval] at hf
  rcases open_slice Tryz.underlying22 hf with ⟨hc, hx⟩ | ⟨a, len, cap, m, k, D, Pl, hc, _, hl, hm, hmm, hx0, hx⟩
  · obtain rfl : v = .slice none 0 0 := by simpa using hc
    simp only [Prod.mk.injEq] at hx
    obtain ⟨rfl, _⟩ := hx
    exact ⟨[], RowsF.nil w, by simp [Rows.uptoBulk], fun p hp => nomatch hp⟩
  · obtain rfl : v = .slice (some a) len cap := by simpa using hc
    simp only [if_true] at hmm
    subst hmm
    simp only [Prod.mk.injEq] at hx0
    obtain ⟨rfl, _⟩ := hx0
    have hC : Tryz.prog.cellsOf 33 = 1 := by kernel_rfl
    have hcells : ∀ i, i < m → ∃ x : Value × List UInt8, w.cell? (a.add i) = some x.1 ∧ Bs w x.1 x.2 ∧ (i < len → x.2.length + 1 ≤ Rows.uptoBulk (D i)) := fun i hi => by
      obtain ⟨cs', h1, h2⟩ := hx i hi
      rw [hC] at h1
      obtain ⟨_, hlen, hat⟩ := World.cells?_some h1
      obtain ⟨u, rfl⟩ : ∃ u, cs' = [u] := by
        match cs', hlen with
        | [u], _ => exact ⟨u, rfl⟩
      obtain ⟨ao, cp, l, _, hb, hk⟩ := open_bytes h2
      have c0 := hat 0 (by omega)
      rw [add_add] at c0
      exact ⟨(u, l), by simpa using c0, hb, fun _ => hk⟩
    have hspot : 0 < m → a.spot = none := fun h0 => by
      obtain ⟨x, h1, _⟩ := hcells 0 h0
      have := World.cell?_spot h1
      simpa [Addr.add] using this
    obtain ⟨I, hIl, hI⟩ := list_of (Q := fun i (x : Value × List UInt8) => w.cell? (a.add i) = some x.1 ∧ Bs w x.1 x.2 ∧ (i < len → x.2.length + 1 ≤ Rows.uptoBulk (D i))) len fun i hi => hcells i (by omega)
    refine ⟨I, ⟨⟨some a, m, by rw [hIl], by simp, by omega, by unfold maxLen at hm; omega, (fun h => nomatch h), fun ad had => ?_⟩, fun p hp => ?_⟩, ?_, fun p hp => ?_⟩
    · cases had
      refine ⟨hspot, fun j u hj => ?_⟩
      have hjl : j < I.length := by
        have := (List.getElem?_eq_some_iff.1 hj).1
        simpa using this
      have h1 := (hI j hjl).1
      rw [List.getElem?_map, List.getElem?_eq_getElem hjl] at hj
      have hj' : I[j].1 = u := by simpa using hj
      rw [hj'] at h1
      have hs := hspot (by omega)
      obtain ⟨ab, ao, sp⟩ := a
      simp only at hs
      subst hs
      rwa [Addr.add_lit] at h1
    · obtain ⟨i, hi, rfl⟩ := List.getElem_of_mem hp
      exact (hI i hi).2.1
    · have := bulkF_each ((List.range len).map D) fun d _ => bulkF_pos d
      simp only [List.length_map, List.length_range] at this
      simp only [Rows.uptoBulk]
      omega
    · obtain ⟨i, hi, rfl⟩ := List.getElem_of_mem hp
      have h1 := (hI i hi).2.2 (by omega)
      have h2 : Rows.uptoBulk (D i) ≤ Rows.uptoBulkAll ((List.range len).map D) := bulkF_mem (List.mem_map.2 ⟨i, by simp; omega, rfl⟩)
      simp only [Rows.uptoBulk]
      omega
end Go.Proofs.YtfepggdljhiemaaGreatDoor
