import Derived.Test.YtfepggdljhiemaaDoorRowW
import Derived.Test.YtfepggdljhiemaaDoorWlK
import Derived.Deep.Grids
/-! What the laws of logs take, opened: bools. -/
set_option linter.unusedVariables false
set_option linter.unusedSimpArgs false
set_option maxRecDepth 100000
namespace Go.Proofs.YtfepggdljhiemaaDoor
open Go.ChangeShapes Go.WideShapes Go.ChangeAt Go.RowKit Gw Go.Deep

theorem open_boolsW {H : Type} {enc : TypeId × Value → H} {w : World} {r : Reach} {b0 : Nat} {v : Value} {d : DataW H} {ps : List MemPlace} (hval : Value.okWide Tryd.prog w r b0 64 v) (hd : DataW.Trod enc Tryd.prog w 0 (fun _ => true) true 64 v d ps) :
    ∃ l : List Bool, BlW w v l ∧ l.length + 1 ≤ Rows.uptoBulk d := by
  obtain ⟨fuel, hf⟩ := hd
  unfold Value.okWide at hval
  simp only [Tryd.underlying64] at hval
  rcases open_bools Tryd.underlying64 Tryd.underlying4 (by kernel_rfl) hf with ⟨hc, hx⟩ | ⟨a, len, cap, B, hc, _, hlc, hcm, hx, hcell⟩
  · have hv : v = .slice none 0 0 := by cases v <;> simp_all [Value.cells, Cell.okWide, Cell.ok, Tryd.underlying64]
    subst hv
    simp only [Prod.mk.injEq] at hx
    obtain ⟨rfl, _⟩ := hx
    exact ⟨[], Sl.nil w 1, by simp [Rows.uptoBulk]⟩
  · have hv : v = .slice (some a) len cap := by cases v <;> simp_all [Value.cells, Cell.okWide, Cell.ok, Tryd.underlying64]
    subst hv
    simp only [Prod.mk.injEq] at hx
    obtain ⟨rfl, _⟩ := hx
    simp [Cell.okWide, Cell.ok, Tryd.underlying64] at hval
    obtain ⟨_, _, _, hspot, _⟩ := hval
    have hlt : ((List.range len).map B).length = len := by simp
    refine ⟨(List.range len).map B, ⟨some a, cap, by rw [hlt], ?_, by rw [hlt]; exact hlc, ?_, (fun h => nomatch h), fun ad had => ?_⟩, ?_⟩
    · simp
    · unfold maxLen at hcm; omega
    · cases had
      refine ⟨fun _ => hspot, fun j u hj => ?_⟩
      have hj2 : j < len := by have := (List.getElem?_eq_some_iff.1 hj).1; simpa using this
      have h1 := hcell j (by omega)
      simp [hj2] at hj
      subst hj
      obtain ⟨ab, ao, sp⟩ := a
      simp only at hspot
      subst hspot
      rw [Addr.add_lit] at h1
      exact h1
    · unfold boolRow
      have := bulk_len (H := H) ((List.range len).map fun i => DataW.lit (.bool (B i)))
      simp only [List.length_map, List.length_range] at this
      simp only [Rows.uptoBulk]
      rw [hlt]
      omega
end Go.Proofs.YtfepggdljhiemaaDoor
