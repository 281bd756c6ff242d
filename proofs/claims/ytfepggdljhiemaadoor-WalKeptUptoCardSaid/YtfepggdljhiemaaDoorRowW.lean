import Derived.Test.YtfepggdljhiemaaDoorRowI
import Derived.Test.YtfepggdljhiemaaDoorWlR
/-! What the laws of logs take, opened: numbers. -/
set_option linter.unusedVariables false
set_option linter.unusedSimpArgs false
set_option maxRecDepth 100000
namespace Go.Proofs.YtfepggdljhiemaaDoor
open Go.ChangeShapes Go.WideShapes Go.ChangeAt Go.RowKit Gw Go.Deep

theorem open_lensW {H : Type} {enc : TypeId × Value → H} {w : World} {r : Reach} {b0 : Nat} {v : Value} {d : DataW H} {ps : List MemPlace} (hval : Value.okWide Tryd.prog w r b0 60 v) (hd : DataW.Trod enc Tryd.prog w 0 (fun _ => true) true 60 v d ps) :
    ∃ l : List Int, IsW w v l ∧ l.length + 1 ≤ Rows.uptoBulk d ∧ ∀ y ∈ l, i64 y := by
  obtain ⟨fuel, hf⟩ := hd
  unfold Value.okWide at hval
  simp only [Tryd.underlying60] at hval
  rcases open_ints Tryd.underlying60 Tryd.underlying3 (by kernel_rfl) hf with ⟨hc, hx⟩ | ⟨a, len, cap, zs, hc, _, hlc, hcm, hz, hx, hcell, hw⟩
  · have hv : v = .slice none 0 0 := by cases v <;> simp_all [Value.cells, Cell.okWide, Cell.ok, Tryd.underlying60]
    subst hv
    simp only [Prod.mk.injEq] at hx
    obtain ⟨rfl, _⟩ := hx
    exact ⟨[], Sl.nil w 1, by simp [Rows.uptoBulk], fun y hy => nomatch hy⟩
  · have hv : v = .slice (some a) len cap := by cases v <;> simp_all [Value.cells, Cell.okWide, Cell.ok, Tryd.underlying60]
    subst hv
    simp only [Prod.mk.injEq] at hx
    obtain ⟨rfl, _⟩ := hx
    simp [Cell.okWide, Cell.ok, Tryd.underlying60] at hval
    obtain ⟨_, _, _, hspot, _⟩ := hval
    simp only [if_true] at hz
    have hlt : (zs.take len).length = len := by simp; omega
    refine ⟨zs.take len, ⟨some a, cap, by rw [hlt], ?_, by rw [hlt]; exact hlc, ?_, (fun h => nomatch h), fun ad had => ?_⟩, ?_, fun y hy => ?_⟩
    · simp [iw]
    · unfold maxLen at hcm; omega
    · cases had
      refine ⟨fun _ => hspot, fun j u hj => ?_⟩
      simp only [iw, List.getElem?_map, Option.map_eq_some_iff] at hj
      obtain ⟨z, hzj, rfl⟩ := hj
      have hj2 : j < len := by have := (List.getElem?_eq_some_iff.1 hzj).1; simp at this; omega
      have hj3 : zs[j]? = some z := by rw [List.getElem?_take_of_lt hj2] at hzj; exact hzj
      have hjz : j < zs.length := (List.getElem?_eq_some_iff.1 hj3).1
      have h1 := hcell j hjz
      have h2 : zs.getD j 0 = z := by simp [List.getD, hj3]
      rw [h2] at h1
      obtain ⟨ab, ao, sp⟩ := a
      simp only at hspot
      subst hspot
      rw [Addr.add_lit] at h1
      exact h1
    · have := bulk_len (lits (H := H) .i64 (zs.take len))
      have h2 : (lits (H := H) .i64 (zs.take len)).length = len := by rw [lits, List.length_map]; exact hlt
      simp only [Rows.uptoBulk]
      omega
    · have h3 := hw y (List.mem_of_mem_take hy)
      have h4 : -9223372036854775808 ≤ y ∧ y ≤ 9223372036854775807 := by simpa [Lit.wf, IntKind.min, IntKind.max, IntKind.signed, IntKind.bits] using h3
      exact h4
end Go.Proofs.YtfepggdljhiemaaDoor
