import Derived.Test.YtfcoaiggpcjldaaDoorRowA
import Derived.Test.YtfcoaiggpcjldaaDoorRpB
import Derived.Deep.Slices
import Derived.Deep.Fields
import Derived.Deep.DeepHandedRow
import Derived.Lib.LaidTab
/-! A struct of one-cell fields, by value, opened: however many they are. A reply. The table that is laid. -/
set_option linter.unusedVariables false
set_option linter.unusedSimpArgs false
set_option maxRecDepth 100000
namespace Go.Proofs.YtfcoaiggpcjldaaDoor
open Go.ChangeShapes Go.WideShapes Go.ChangeAt Go.RowKit Gw Go.Deep

section
variable {H : Type} {enc : TypeId × Value → H} {P : Program} {w : World} {base : Nat} {spare : Nat → Bool} {held : Bool}
theorem open_flds {r : Reach} {b0 : Nat} {t : TypeId} {fs : Array Field} {v : Value} {d : DataW H} {p : List MemPlace} (hs : P.underlying t = some (.struct fs)) (hone : oneCellFields P fs = true) (hC : P.cellsOf t = fs.size)
    (hv : Value.okWide P w r b0 t v) (h : DataW.Trod enc P w base spare held t v d p) :
    ∃ (cs : List Value) (n : Nat), v = .agg cs.toArray ∧ cs.length = fs.size ∧ ∀ (j : Nat) (f : Field), fs[j]? = some f → ∃ u y q, cs[j]? = some u ∧ DataW.trod enc P w base spare held n f.type [u] = some (y, q) := by
  obtain ⟨ca, rfl, hsz⟩ := okWide_struct hs hv
  obtain ⟨fuel, hf⟩ := h
  obtain ⟨ys, n, _, _, _, hyl, hg⟩ := DataW.trod_struct hs hf
  refine ⟨ca.toList, n, by simp, by simpa using hsz.trans hC, fun j f hj => ?_⟩
  obtain ⟨ho, hk⟩ := hone_of hone j f hj
  have hjl : j < fs.size := (Array.getElem?_eq_some_iff.1 hj).1
  have hl : ca.toList.length = fs.size := by simpa using hsz.trans hC
  have h1 := hg j f hj
  rw [ho, hk] at h1
  have h2 : ((Value.agg ca).cells.toList.drop j).take 1 = [ca.toList[j]'(by omega)] := by
    show (ca.toList.drop j).take 1 = _
    rw [List.drop_eq_getElem_cons (by omega)]
    rfl
  have hys : ys[j]? = some (ys[j]'(by omega)) := List.getElem?_eq_getElem (by omega)
  rw [h2, hys] at h1
  exact ⟨_, (ys[j]'(by omega)).1, (ys[j]'(by omega)).2, List.getElem?_eq_getElem (by omega), h1⟩
end

theorem rpFields : ∃ fs : Array Field, Tryd.prog.underlying 26 = some (.struct fs) ∧ oneCellFields Tryd.prog fs = true ∧ fs.size = 7 ∧ Tryd.prog.cellsOf 26 = 7 ∧ (fs[0]?).map (·.type) = some 22 ∧ (fs[1]?).map (·.type) = some 23 ∧ (fs[2]?).map (·.type) = some 24 ∧ (fs[3]?).map (·.type) = some 22 ∧ (fs[4]?).map (·.type) = some 3 ∧ (fs[5]?).map (·.type) = some 2 ∧ (fs[6]?).map (·.type) = some 3 :=
  ⟨_, Tryd.underlying26, by kernel_rfl, by kernel_rfl, by kernel_rfl, by kernel_rfl, by kernel_rfl, by kernel_rfl, by kernel_rfl, by kernel_rfl, by kernel_rfl, by kernel_rfl⟩
theorem open_rp {H : Type} {enc : TypeId × Value → H} {w : World} {r : Reach} {b0 : Nat} {v : Value} {d : DataW H} {ps : List MemPlace} (hval : Value.okWide Tryd.prog w r b0 26 v) (hd : DataW.Trod enc Tryd.prog w 0 (fun _ => true) true 26 v d ps) :
    ∃ q : Rp, q.ok ∧ v = q.v := by
  obtain ⟨fs, hu, hone, hsz, hC, f0, f1, f2, f3, f4, f5, f6⟩ := rpFields
  obtain ⟨cs, n, rfl, hl, hf⟩ := open_flds hu hone (hC.trans hsz.symm) hval hd
  have fld : ∀ (j : Nat) (t : TypeId), (fs[j]?).map (·.type) = some t → ∃ u y p, cs[j]? = some u ∧ DataW.trod enc Tryd.prog w 0 (fun _ => true) true n t [u] = some (y, p) := fun j t hj => by
    obtain ⟨f, hfj, hft⟩ := Option.map_eq_some_iff.1 hj
    subst hft
    exact hf j f hfj
  obtain ⟨u0, y0, p0, hu0, t0⟩ := fld 0 _ f0
  obtain ⟨u1, y1, p1, hu1, t1⟩ := fld 1 _ f1
  obtain ⟨u2, y2, p2, hu2, t2⟩ := fld 2 _ f2
  obtain ⟨u3, y3, p3, hu3, t3⟩ := fld 3 _ f3
  obtain ⟨u4, y4, p4, hu4, t4⟩ := fld 4 _ f4
  obtain ⟨u5, y5, p5, hu5, t5⟩ := fld 5 _ f5
  obtain ⟨u6, y6, p6, hu6, t6⟩ := fld 6 _ f6
  obtain ⟨n0, e0, _, w0⟩ := DataW.trod_int Tryd.underlying22 t0
  obtain ⟨n1, e1, _, w1⟩ := DataW.trod_int Tryd.underlying23 t1
  obtain ⟨n2, e2, _, w2⟩ := DataW.trod_int Tryd.underlying24 t2
  obtain ⟨n3, e3, _, w3⟩ := DataW.trod_int Tryd.underlying22 t3
  obtain ⟨n4, e4, _, w4⟩ := DataW.trod_int Tryd.underlying3 t4
  obtain ⟨n5, e5, _, w5⟩ := DataW.trod_int Tryd.underlying2 t5
  obtain ⟨n6, e6, _, w6⟩ := DataW.trod_int Tryd.underlying3 t6
  obtain rfl : u0 = .int .u32 n0 := by simpa using e0
  obtain rfl : u1 = .int .i64 n1 := by simpa using e1
  obtain rfl : u2 = .int .i64 n2 := by simpa using e2
  obtain rfl : u3 = .int .u32 n3 := by simpa using e3
  obtain rfl : u4 = .int .i64 n4 := by simpa using e4
  obtain rfl : u5 = .int .i64 n5 := by simpa using e5
  obtain rfl : u6 = .int .i64 n6 := by simpa using e6
  have w0b : 0 ≤ n0 ∧ n0 ≤ 4294967295 := by simpa [Lit.wf, IntKind.min, IntKind.max, IntKind.signed, IntKind.bits] using w0
  have w1b : -9223372036854775808 ≤ n1 ∧ n1 ≤ 9223372036854775807 := by simpa [Lit.wf, IntKind.min, IntKind.max, IntKind.signed, IntKind.bits] using w1
  have w2b : -9223372036854775808 ≤ n2 ∧ n2 ≤ 9223372036854775807 := by simpa [Lit.wf, IntKind.min, IntKind.max, IntKind.signed, IntKind.bits] using w2
  have w3b : 0 ≤ n3 ∧ n3 ≤ 4294967295 := by simpa [Lit.wf, IntKind.min, IntKind.max, IntKind.signed, IntKind.bits] using w3
  have w4b : -9223372036854775808 ≤ n4 ∧ n4 ≤ 9223372036854775807 := by simpa [Lit.wf, IntKind.min, IntKind.max, IntKind.signed, IntKind.bits] using w4
  have w5b : -9223372036854775808 ≤ n5 ∧ n5 ≤ 9223372036854775807 := by simpa [Lit.wf, IntKind.min, IntKind.max, IntKind.signed, IntKind.bits] using w5
  have w6b : -9223372036854775808 ≤ n6 ∧ n6 ≤ 9223372036854775807 := by simpa [Lit.wf, IntKind.min, IntKind.max, IntKind.signed, IntKind.bits] using w6
  refine ⟨⟨n0, n1, n2, n3, n4, n5, n6⟩, ⟨w0b.1, w0b.2, w1b.1, w1b.2, w2b.1, w2b.2, w3b.1, w3b.2, w4b.1, w4b.2, w5b.1, w5b.2, w6b.1, w6b.2⟩, ?_⟩
  rw [hsz] at hl
  match cs, hl, hu0, hu1, hu2, hu3, hu4, hu5, hu6 with
  | [c0, c1, c2, c3, c4, c5, c6], _, hu0, hu1, hu2, hu3, hu4, hu5, hu6 =>
    cases hu0
    cases hu1
    cases hu2
    cases hu3
    cases hu4
    cases hu5
    cases hu6
    rfl
/-! The table -/
theorem gTab : Tryd.prog.globalNamed "gangway/replies.fields" = some 0 := by kernel_rfl
theorem gTabType : (Tryd.prog.globals[0]?).map (·.type) = some 91 := by kernel_rfl
theorem cellsTab : Tryd.prog.cellsOf 91 = 11 := by kernel_rfl
theorem cellsInt : Tryd.prog.cellsOf 3 = 1 := by kernel_rfl
theorem table {W : World} (h : laidMetH Tryd.prog [("gangway/replies.fields", Rows.laid_gangway_replies_fields)] W) : Tab W := by
  have ht : Lib.TabIs Tryd.prog W "gangway/replies.fields" .i64 [0, 5, 0, 0, 2, 6, 5, 4, 8, 8, 8] :=
    Lib.tabIs_of_head (rest := []) gTab gTabType Tryd.underlying91 Tryd.underlying3 cellsInt cellsTab h
  have hc : ∀ (i : Nat) (n : Int), tabL[i]? = some n → W.cell? ⟨0, i, none⟩ = some (.int .i64 n) := fun i n hi => by
    have hl : i < 11 := (List.getElem?_eq_some_iff.1 hi).1
    have := ht.cell gTab i hl
    rw [List.getElem?_eq_getElem (show i < tabL.length from hl)] at hi
    injection hi with hi
    rw [this, ← hi]
    show some (Value.int .i64 (tabL.getD i 0)) = _
    simp [List.getD_eq_getElem?_getD, List.getElem?_eq_getElem (show i < tabL.length from hl)]
  refine ⟨?_, hc⟩
  have := hc 0 0 rfl
  unfold World.cell? at this
  dsimp only at this
  split at this
  · rename_i hh; exact (Array.getElem?_eq_some_iff.1 hh).1
  · cases this
/-- a world in which the table lies as it is laid -/
noncomputable def laidWorld (os : Os) : World :=
  { World.holding Tryd.prog os ⟨#[], #[], []⟩ with heap := (World.holding Tryd.prog os ⟨#[], #[], []⟩).heap.modify 0 fun
      | .cells _ t frozen => .cells #[.int .i64 0, .int .i64 5, .int .i64 0, .int .i64 0, .int .i64 2, .int .i64 6, .int .i64 5, .int .i64 4, .int .i64 8, .int .i64 8, .int .i64 8] t frozen
      | o => o }
end Go.Proofs.YtfcoaiggpcjldaaDoor
