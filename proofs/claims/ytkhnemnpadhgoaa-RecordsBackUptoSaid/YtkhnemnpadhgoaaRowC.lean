import Derived.Test.YtkhnemnpadhgoaaRowA
import Derived.Test.YtkhnemnpadhgoaaRcA
import Derived.Deep.Slices
import Derived.Deep.Fields
/-! A struct of one-cell fields, by value, opened: however many they are. A record. -/
set_option linter.unusedVariables false
set_option linter.unusedSimpArgs false
set_option maxRecDepth 100000
namespace Go.Proofs.Ytkhnemnpadhgoaa
open Go.ChangeShapes Go.WideShapes Go.ChangeAt Go.RowKit Gw Go.Deep

section
variable {H : Type} {enc : TypeId × Value → H} {P : Program} {w : World} {base : Nat} {spare : Nat → Bool} {held : Bool}
theorem open_flds {r : Reach} {b0 : Nat} {t : TypeId} {fs : Array Field} {v : Value} {d : DataW H} {p : List MemPlace} (hs : P.underlying t = some (.struct fs)) (hone : oneCellFields P fs = true) (hC : P.cellsOf t = fs.size)
    (hv : Value.okWide P w r b0 t v) (h : DataW.Trod enc P w base spare held t v d p) :
    ∃ (cs : List Value) (n : Nat), v = .agg cs.toArray ∧ cs.length = fs.size ∧ ∀ (j : Nat) (f : Field), fs[j]? = some f → ∃ u y q, cs[j]? = some u ∧ DataW.trod enc P w base spare held n f.type [u] = some (y, q) := by
  obtain ⟨ca, rfl, hsz⟩ := okWide_struct hs hv
  obtain ⟨fuel, hf⟩ := h
  obtain ⟨ys, n, _, _, _, hyl, hg⟩ := DataW.trod_struct hs hf
  refine ⟨ca.toList, n, by simp, by simpa using hsz.trans hC, fun j f hj => ?_⟩
  obtain ⟨ho, hk⟩ := hone_of hone j f hj
  have hjl : j < fs.size := (Array.getElem?_eq_some_iff.1 hj).1
  have hl : ca.toList.length = fs.size := by simpa using hsz.trans hC
  have h1 := hg j f hj
  rw [ho, hk] at h1
  have h2 : ((Value.agg ca).cells.toList.drop j).take 1 = [ca.toList[j]'(by omega)] := by
    show (ca.toList.drop j).take 1 = _
    rw [List.drop_eq_getElem_cons (by omega)]
    rfl
  have hys : ys[j]? = some (ys[j]'(by omega)) := List.getElem?_eq_getElem (by omega)
  rw [h2, hys] at h1
  exact ⟨_, (ys[j]'(by omega)).1, (ys[j]'(by omega)).2, List.getElem?_eq_getElem (by omega), h1⟩
end

theorem rcFields : ∃ fs : Array Field, Try.prog.underlying 25 = some (.struct fs) ∧ oneCellFields Try.prog fs = true ∧ fs.size = 5 ∧ Try.prog.cellsOf 25 = 5 ∧ (fs[0]?).map (·.type) = some 22 ∧ (fs[1]?).map (·.type) = some 23 ∧ (fs[2]?).map (·.type) = some 3 ∧ (fs[3]?).map (·.type) = some 2 ∧ (fs[4]?).map (·.type) = some 2 :=
  ⟨_, Try.underlying25, by kernel_rfl, by kernel_rfl, by kernel_rfl, by kernel_rfl, by kernel_rfl, by kernel_rfl, by kernel_rfl, by kernel_rfl⟩
theorem open_rc {H : Type} {enc : TypeId × Value → H} {w : World} {r : Reach} {b0 : Nat} {v : Value} {d : DataW H} {ps : List MemPlace} (hval : Value.okWide Try.prog w r b0 25 v) (hd : DataW.Trod enc Try.prog w 0 (fun _ => true) true 25 v d ps) :
    ∃ q : Rc, q.ok ∧ v = q.v := by
  obtain ⟨fs, hu, hone, hsz, hC, f0, f1, f2, f3, f4⟩ := rcFields
  obtain ⟨cs, n, rfl, hl, hf⟩ := open_flds hu hone (hC.trans hsz.symm) hval hd
  have fld : ∀ (j : Nat) (t : TypeId), (fs[j]?).map (·.type) = some t → ∃ u y p, cs[j]? = some u ∧ DataW.trod enc Try.prog w 0 (fun _ => true) true n t [u] = some (y, p) := fun j t hj => by
    obtain ⟨f, hfj, hft⟩ := Option.map_eq_some_iff.1 hj
    subst hft
    exact hf j f hfj
  obtain ⟨u0, y0, p0, hu0, t0⟩ := fld 0 _ f0
  obtain ⟨u1, y1, p1, hu1, t1⟩ := fld 1 _ f1
  obtain ⟨u2, y2, p2, hu2, t2⟩ := fld 2 _ f2
  obtain ⟨u3, y3, p3, hu3, t3⟩ := fld 3 _ f3
  obtain ⟨u4, y4, p4, hu4, t4⟩ := fld 4 _ f4
  obtain ⟨n0, e0, _, w0⟩ := DataW.trod_int Try.underlying22 t0
  obtain ⟨n1, e1, _, w1⟩ := DataW.trod_int Try.underlying23 t1
  obtain ⟨n2, e2, _, w2⟩ := DataW.trod_int Try.underlying3 t2
  obtain ⟨n3, e3, _, w3⟩ := DataW.trod_int Try.underlying2 t3
  obtain ⟨n4, e4, _, w4⟩ := DataW.trod_int Try.underlying2 t4
  obtain rfl : u0 = .int .i64 n0 := by simpa using e0
  obtain rfl : u1 = .int .u32 n1 := by simpa using e1
  obtain rfl : u2 = .int .i64 n2 := by simpa using e2
  obtain rfl : u3 = .int .i64 n3 := by simpa using e3
  obtain rfl : u4 = .int .i64 n4 := by simpa using e4
  have w0b : -9223372036854775808 ≤ n0 ∧ n0 ≤ 9223372036854775807 := by simpa [Lit.wf, IntKind.min, IntKind.max, IntKind.signed, IntKind.bits] using w0
  have w1b : 0 ≤ n1 ∧ n1 ≤ 4294967295 := by simpa [Lit.wf, IntKind.min, IntKind.max, IntKind.signed, IntKind.bits] using w1
  have w2b : -9223372036854775808 ≤ n2 ∧ n2 ≤ 9223372036854775807 := by simpa [Lit.wf, IntKind.min, IntKind.max, IntKind.signed, IntKind.bits] using w2
  have w3b : -9223372036854775808 ≤ n3 ∧ n3 ≤ 9223372036854775807 := by simpa [Lit.wf, IntKind.min, IntKind.max, IntKind.signed, IntKind.bits] using w3
  have w4b : -9223372036854775808 ≤ n4 ∧ n4 ≤ 9223372036854775807 := by simpa [Lit.wf, IntKind.min, IntKind.max, IntKind.signed, IntKind.bits] using w4
  refine ⟨⟨n0, n1, n2, n3, n4⟩, ⟨w0b.1, w0b.2, w1b.1, w1b.2, w2b.1, w2b.2, w3b.1, w3b.2, w4b.1, w4b.2⟩, ?_⟩
  rw [hsz] at hl
  match cs, hl, hu0, hu1, hu2, hu3, hu4 with
  | [c0, c1, c2, c3, c4], _, hu0, hu1, hu2, hu3, hu4 =>
    cases hu0
    cases hu1
    cases hu2
    cases hu3
    cases hu4
    rfl
end Go.Proofs.Ytkhnemnpadhgoaa
