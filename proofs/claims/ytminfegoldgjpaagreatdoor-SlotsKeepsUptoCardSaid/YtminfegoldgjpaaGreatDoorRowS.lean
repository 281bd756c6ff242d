import Derived.Test.YtminfegoldgjpaaGreatDoorGRw
import Derived.Test.YtminfegoldgjpaaGreatDoorGSh
import Derived.Deep.Slices
import Derived.Deep.Fields
import Derived.Deep.DeepHandedRow
import Derived.Lib.LaidTab
/-! What the laws of slots take, opened; the table that is laid. -/
set_option linter.unusedVariables false
set_option linter.unusedSimpArgs false
set_option maxRecDepth 100000
namespace Go.Proofs.YtminfegoldgjpaaGreatDoor
open Go.ChangeShapes Go.WideShapes Go.ChangeAt Go.RowKit Gw Go.Deep

section
variable {H : Type} {enc : TypeId × Value → H} {P : Program} {w : World} {base : Nat} {spare : Nat → Bool} {held : Bool}
theorem open_flds {r : Reach} {b0 : Nat} {t : TypeId} {fs : Array Field} {v : Value} {d : DataW H} {p : List MemPlace} (hs : P.underlying t = some (.struct fs)) (hone : oneCellFields P fs = true) (hC : P.cellsOf t = fs.size)
    (hv : Value.okWide P w r b0 t v) (h : DataW.Trod enc P w base spare held t v d p) :
    ∃ (cs : List Value) (n : Nat), v = .agg cs.toArray ∧ cs.length = fs.size ∧ ∀ (j : Nat) (f : Field), fs[j]? = some f → ∃ u y q, cs[j]? = some u ∧ DataW.trod enc P w base spare held n f.type [u] = some (y, q) := by
  obtain ⟨ca, rfl, hsz⟩ := okWide_struct hs hv
  obtain ⟨fuel, hf⟩ := h
  obtain ⟨ys, n, _, _, _, hyl, hg⟩ := DataW.trod_struct hs hf
  refine ⟨ca.toList, n, by simp, by simpa using hsz.trans hC, fun j f hj => ?_⟩
  obtain ⟨ho, hk⟩ := hone_of hone j f hj
  have hjl : j < fs.size := (Array.getElem?_eq_some_iff.1 hj).1
  have hl : ca.toList.length = fs.size := by simpa using hsz.trans hC
  have h1 := hg j f hj
  rw [ho, hk] at h1
  have h2 : ((Value.agg ca).cells.toList.drop j).take 1 = [ca.toList[j]'(by omega)] := by
    show (ca.toList.drop j).take 1 = _
    rw [List.drop_eq_getElem_cons (by omega)]
    rfl
  have hys : ys[j]? = some (ys[j]'(by omega)) := List.getElem?_eq_getElem (by omega)
  rw [h2, hys] at h1
  exact ⟨_, (ys[j]'(by omega)).1, (ys[j]'(by omega)).2, List.getElem?_eq_getElem (by omega), h1⟩
end

theorem hdFields : ∃ fs : Array Field, Tryz.prog.underlying 25 = some (.struct fs) ∧ oneCellFields Tryz.prog fs = true ∧ fs.size = 4 ∧ Tryz.prog.cellsOf 25 = 4 ∧ (fs[0]?).map (·.type) = some 22 ∧ (fs[1]?).map (·.type) = some 22 ∧ (fs[2]?).map (·.type) = some 3 ∧ (fs[3]?).map (·.type) = some 23 :=
  ⟨_, Tryz.underlying25, by kernel_rfl, by kernel_rfl, by kernel_rfl, by kernel_rfl, by kernel_rfl, by kernel_rfl, by kernel_rfl⟩
theorem open_hd {H : Type} {enc : TypeId × Value → H} {w : World} {r : Reach} {b0 : Nat} {v : Value} {d : DataW H} {ps : List MemPlace} (hval : Value.okWide Tryz.prog w r b0 25 v) (hd : DataW.Trod enc Tryz.prog w 0 (fun _ => true) true 25 v d ps) :
    ∃ q : Hd, q.wf ∧ v = q.v := by
  obtain ⟨fs, hu, hone, hsz, hC, f0, f1, f2, f3⟩ := hdFields
  obtain ⟨cs, n, rfl, hl, hf⟩ := open_flds hu hone (hC.trans hsz.symm) hval hd
  have fld : ∀ (j : Nat) (t : TypeId), (fs[j]?).map (·.type) = some t → ∃ u y p, cs[j]? = some u ∧ DataW.trod enc Tryz.prog w 0 (fun _ => true) true n t [u] = some (y, p) := fun j t hj => by
    obtain ⟨f, hfj, hft⟩ := Option.map_eq_some_iff.1 hj
    subst hft
    exact hf j f hfj
  obtain ⟨u0, y0, p0, hu0, t0⟩ := fld 0 _ f0
  obtain ⟨u1, y1, p1, hu1, t1⟩ := fld 1 _ f1
  obtain ⟨u2, y2, p2, hu2, t2⟩ := fld 2 _ f2
  obtain ⟨u3, y3, p3, hu3, t3⟩ := fld 3 _ f3
  obtain ⟨n0, e0, _, w0⟩ := DataW.trod_int Tryz.underlying22 t0
  obtain ⟨n1, e1, _, w1⟩ := DataW.trod_int Tryz.underlying22 t1
  obtain ⟨n2, e2, _, w2⟩ := DataW.trod_int Tryz.underlying3 t2
  obtain ⟨n3, e3, _, w3⟩ := DataW.trod_int Tryz.underlying23 t3
  obtain rfl : u0 = .int .u64 n0 := by simpa using e0
  obtain rfl : u1 = .int .u64 n1 := by simpa using e1
  obtain rfl : u2 = .int .i64 n2 := by simpa using e2
  obtain rfl : u3 = .int .u32 n3 := by simpa using e3
  have w0b : 0 ≤ n0 ∧ n0 ≤ 18446744073709551615 := by simpa [Lit.wf, IntKind.min, IntKind.max, IntKind.signed, IntKind.bits] using w0
  have w1b : 0 ≤ n1 ∧ n1 ≤ 18446744073709551615 := by simpa [Lit.wf, IntKind.min, IntKind.max, IntKind.signed, IntKind.bits] using w1
  have w2b : -9223372036854775808 ≤ n2 ∧ n2 ≤ 9223372036854775807 := by simpa [Lit.wf, IntKind.min, IntKind.max, IntKind.signed, IntKind.bits] using w2
  have w3b : 0 ≤ n3 ∧ n3 ≤ 4294967295 := by simpa [Lit.wf, IntKind.min, IntKind.max, IntKind.signed, IntKind.bits] using w3
  obtain ⟨m0, rfl⟩ := Int.eq_ofNat_of_zero_le w0b.1
  obtain ⟨m1, rfl⟩ := Int.eq_ofNat_of_zero_le w1b.1
  obtain ⟨m3, rfl⟩ := Int.eq_ofNat_of_zero_le w3b.1
  refine ⟨⟨m0, m1, n2, m3⟩, ⟨by dsimp only; omega, by dsimp only; omega, by dsimp only; omega, w2b⟩, ?_⟩
  rw [hsz] at hl
  match cs, hl, hu0, hu1, hu2, hu3 with
  | [c0, c1, c2, c3], _, hu0, hu1, hu2, hu3 =>
    cases hu0
    cases hu1
    cases hu2
    cases hu3
    rfl
theorem gTab : Tryz.prog.globalNamed "gangway/crc.table" = some 0 := by kernel_rfl
theorem gTabType : (Tryz.prog.globals[0]?).map (·.type) = some 194 := by kernel_rfl
theorem cellsTab : Tryz.prog.cellsOf 194 = 16 := by kernel_rfl
theorem cellsU32 : Tryz.prog.cellsOf 23 = 1 := by kernel_rfl
def tabI : List Int := [0, 498536548, 997073096, 651767980, 1994146192, 1802195444, 1303535960, 1342533948, 3988292384, 4027552580, 3604390888, 3412177804, 2607071920, 2262029012, 2685067896, 3183342108]
theorem tabI_at : ∀ i, i < 16 → tabI.getD i 0 = ((tab16.getD i 0 : Nat) : Int) := by decide
theorem table {W : World} (h : laidMetH Tryz.prog [("gangway/crc.table", Rows.laid_gangway_crc_table)] W) : TabC W := by
  have ht : Lib.TabIs Tryz.prog W "gangway/crc.table" .u32 tabI :=
    Lib.tabIs_of_head (rest := []) gTab gTabType Tryz.underlying194 Tryz.underlying23 cellsU32 cellsTab h
  have hc : ∀ i, i < 16 → W.cell? ⟨0, i, none⟩ = some (.int .u32 (tab16.getD i 0 : Nat)) := fun i hi => by
    have := ht.cell gTab i hi
    rw [this, ← tabI_at i hi]
  refine ⟨?_, hc⟩
  have := hc 0 (by omega)
  unfold World.cell? at this
  dsimp only at this
  split at this
  · rename_i hh; exact (Array.getElem?_eq_some_iff.1 hh).1
  · cases this
/-- a world in which the table lies as it is laid -/
noncomputable def laidWorld (os : Os) : World :=
  { World.holding Tryz.prog os ⟨#[], #[], []⟩ with heap := (World.holding Tryz.prog os ⟨#[], #[], []⟩).heap.modify 0 fun
      | .cells _ t frozen => .cells #[.int .u32 0, .int .u32 498536548, .int .u32 997073096, .int .u32 651767980, .int .u32 1994146192, .int .u32 1802195444, .int .u32 1303535960, .int .u32 1342533948, .int .u32 3988292384, .int .u32 4027552580, .int .u32 3604390888, .int .u32 3412177804, .int .u32 2607071920, .int .u32 2262029012, .int .u32 2685067896, .int .u32 3183342108] t frozen
      | o => o }
end Go.Proofs.YtminfegoldgjpaaGreatDoor
