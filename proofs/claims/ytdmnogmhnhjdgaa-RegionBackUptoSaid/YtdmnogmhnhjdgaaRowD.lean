import Derived.Test.YtdmnogmhnhjdgaaRowB
import Derived.Test.YtdmnogmhnhjdgaaGDk
/-! What the laws of disks take, opened: a tear. -/
set_option linter.unusedVariables false
set_option linter.unusedSimpArgs false
set_option maxRecDepth 100000
namespace Go.Proofs.Ytdmnogmhnhjdgaa
open Go.ChangeShapes Go.WideShapes Go.ChangeAt Go.RowKit Gw Go.Deep

section
variable {H : Type} {enc : TypeId × Value → H} {P : Program} {w : World} {base : Nat} {spare : Nat → Bool} {held : Bool}
/-- one field of one cell -/
theorem fld1 {fs : Array Field} {n : Nat} {cs : List Value} {xs : List (DataW H × List MemPlace)} {t : TypeId} {j o : Nat}
    (hx : xs.length = fs.size) (hg : ∀ (i : Nat) (f : Field), fs[i]? = some f → DataW.trod enc P w base spare held n f.type ((cs.drop f.offset).take (P.cellsOf f.type)) = xs[i]?)
    (hf : (fs[j]?).map (fun f => (f.type, f.offset)) = some (t, o)) (ho : P.cellsOf t = 1) (hl : o < cs.length) :
    ∃ y, xs[j]? = some y ∧ DataW.trod enc P w base spare held n t [cs[o]] = some y := by
  obtain ⟨f, hfj, hft⟩ := Option.map_eq_some_iff.1 hf
  cases hft
  have h1 := hg j f hfj
  have hj : j < xs.length := by rw [hx]; exact (Array.getElem?_eq_some_iff.1 hfj).1
  rw [ho, List.drop_eq_getElem_cons hl, List.take_succ_cons, List.take_zero, List.getElem?_eq_getElem hj] at h1
  exact ⟨_, List.getElem?_eq_getElem hj, h1⟩
/-- one field of many cells -/
theorem fldN {fs : Array Field} {n : Nat} {cs : List Value} {xs : List (DataW H × List MemPlace)} {t : TypeId} {j o m : Nat}
    (hx : xs.length = fs.size) (hg : ∀ (i : Nat) (f : Field), fs[i]? = some f → DataW.trod enc P w base spare held n f.type ((cs.drop f.offset).take (P.cellsOf f.type)) = xs[i]?)
    (hf : (fs[j]?).map (fun f => (f.type, f.offset)) = some (t, o)) (ho : P.cellsOf t = m) :
    ∃ y, xs[j]? = some y ∧ DataW.trod enc P w base spare held n t ((cs.drop o).take m) = some y := by
  obtain ⟨f, hfj, hft⟩ := Option.map_eq_some_iff.1 hf
  cases hft
  have h1 := hg j f hfj
  have hj : j < xs.length := by rw [hx]; exact (Array.getElem?_eq_some_iff.1 hfj).1
  rw [ho, List.getElem?_eq_getElem hj] at h1
  exact ⟨_, List.getElem?_eq_getElem hj, h1⟩
/-- an int -/
theorem trod_i64 {n : Nat} {t : TypeId} {u : Value} {y : DataW H × List MemPlace} (ht : P.underlying t = some (.int .i64)) (h : DataW.trod enc P w base spare held n t [u] = some y) :
    ∃ x : Int, u = .int .i64 x ∧ y.1 = .lit (.int .i64 x) ∧ -9223372036854775808 ≤ x ∧ x ≤ 9223372036854775807 := by
  obtain ⟨x, e, hy, wf⟩ := DataW.trod_int ht h
  have : -9223372036854775808 ≤ x ∧ x ≤ 9223372036854775807 := by simpa [Lit.wf, IntKind.min, IntKind.max, IntKind.signed, IntKind.bits] using wf
  exact ⟨x, by simpa using e, by rw [hy], this⟩
end
theorem fateFields : ∃ fs : Array Field, Try.prog.underlying 99 = some (.struct fs) ∧ fs.size = 2 ∧ Try.prog.cellsOf 99 = 2 ∧ (fs[0]?).map (fun f => (f.type, f.offset)) = some (97, 0) ∧ (fs[1]?).map (fun f => (f.type, f.offset)) = some (3, 1) :=
  ⟨_, Try.underlying99, by kernel_rfl, by kernel_rfl, by kernel_rfl, by kernel_rfl⟩
theorem trod_fate {H : Type} {enc : TypeId × Value → H} {w : World} {n : Nat} {cs : List Value} {y : DataW H × List MemPlace} (h : DataW.trod enc Try.prog w 0 (fun _ => true) true n 99 cs = some y) :
    ∃ k a : Int, cs = [.int .i64 k, .int .i64 a] := by
  obtain ⟨fs, hu, hsz, hC, f0, f1⟩ := fateFields
  obtain ⟨xs, m, rfl, hy, hl, hxl, hg⟩ := DataW.trod_struct hu h
  rw [hC] at hl
  have c1 : Try.prog.cellsOf 97 = 1 := by kernel_rfl
  have c2 : Try.prog.cellsOf 3 = 1 := by kernel_rfl
  obtain ⟨y0, _, t0⟩ := fld1 hxl hg f0 c1 (by omega)
  obtain ⟨y1, _, t1⟩ := fld1 hxl hg f1 c2 (by omega)
  obtain ⟨k, e0, _⟩ := trod_i64 Try.underlying97 t0
  obtain ⟨a, e1, _⟩ := trod_i64 Try.underlying3 t1
  match cs, hl, e0, e1 with
  | [c0, c1], _, e0, e1 => exact ⟨k, a, by simp at e0 e1; rw [e0, e1]⟩
end Go.Proofs.Ytdmnogmhnhjdgaa
