import Derived.Test.YtfepggdljhiemaaGreatDoorGRw
import Derived.Test.YtfepggdljhiemaaGreatDoorGFr
import Derived.Deep.Slices
import Derived.Deep.Fields
import Derived.Deep.DeepHandedRow
import Derived.Lib.LaidTab
/-! What the laws of frames take, opened; the table that is laid. -/
set_option linter.unusedVariables false
set_option linter.unusedSimpArgs false
set_option maxRecDepth 100000
namespace Go.Proofs.YtfepggdljhiemaaGreatDoor
open Go.ChangeShapes Go.WideShapes Go.ChangeAt Go.RowKit Gw Go.Deep

theorem bulkF_mem {H : Type} {d : DataW H} : ∀ {E : List (DataW H)}, d ∈ E → Rows.uptoBulk d ≤ Rows.uptoBulkAll E
  | e :: E, h => by
    simp only [Rows.uptoBulkAll]
    rcases List.mem_cons.1 h with rfl | h
    · omega
    · have := bulkF_mem h; omega
section
variable {H : Type} {enc : TypeId × Value → H} {P : Program} {w : World} {base : Nat} {spare : Nat → Bool} {held : Bool}
theorem fldF {fs : Array Field} {n : Nat} {cs : List Value} {xs : List (DataW H × List MemPlace)} {t : TypeId} {j o : Nat}
    (hx : xs.length = fs.size) (hg : ∀ (i : Nat) (f : Field), fs[i]? = some f → DataW.trod enc P w base spare held n f.type ((cs.drop f.offset).take (P.cellsOf f.type)) = xs[i]?)
    (hf : (fs[j]?).map (fun f => (f.type, f.offset)) = some (t, o)) (ho : P.cellsOf t = 1) (hl : o < cs.length) :
    ∃ y, xs[j]? = some y ∧ DataW.trod enc P w base spare held n t [cs[o]] = some y := by
  obtain ⟨f, hfj, hft⟩ := Option.map_eq_some_iff.1 hf
  cases hft
  have h1 := hg j f hfj
  have hj : j < xs.length := by rw [hx]; exact (Array.getElem?_eq_some_iff.1 hfj).1
  rw [ho, List.drop_eq_getElem_cons hl, List.take_succ_cons, List.take_zero, List.getElem?_eq_getElem hj] at h1
  exact ⟨_, List.getElem?_eq_getElem hj, h1⟩
theorem trod_u64 {n : Nat} {t : TypeId} {u : Value} {y : DataW H × List MemPlace} (ht : P.underlying t = some (.int .u64)) (h : DataW.trod enc P w base spare held n t [u] = some y) :
    ∃ x : Nat, u = .int .u64 (x : Nat) ∧ x < 18446744073709551616 := by
  obtain ⟨x, e, hy, wf⟩ := DataW.trod_int ht h
  have h2 : 0 ≤ x ∧ x ≤ 18446744073709551615 := by simpa [Lit.wf, IntKind.min, IntKind.max, IntKind.signed, IntKind.bits] using wf
  refine ⟨x.toNat, ?_, by omega⟩
  have e1 : u = .int .u64 x := by simpa using e
  rw [e1, Int.toNat_of_nonneg h2.1]
end
theorem frFields : ∃ fs : Array Field, Tryz.prog.underlying 97 = some (.struct fs) ∧ fs.size = 3 ∧ Tryz.prog.cellsOf 97 = 3 ∧ (fs[0]?).map (fun f => (f.type, f.offset)) = some (32, 0) ∧ (fs[1]?).map (fun f => (f.type, f.offset)) = some (32, 1) ∧ (fs[2]?).map (fun f => (f.type, f.offset)) = some (33, 2) :=
  ⟨_, Tryz.underlying97, by kernel_rfl, by kernel_rfl, by kernel_rfl, by kernel_rfl, by kernel_rfl⟩
theorem open_frame {H : Type} {enc : TypeId × Value → H} {w : World} {r : Reach} {b0 : Nat} {v : Value} {d : DataW H} {ps : List MemPlace} (hval : Value.okWide Tryz.prog w r b0 97 v) (hd : DataW.Trod enc Tryz.prog w 0 (fun _ => true) true 97 v d ps) :
    ∃ (f : Fv) (u : Value), v = f.v u ∧ Bs w u f.l ∧ f.e < 18446744073709551616 ∧ f.s < 18446744073709551616 ∧ f.l.length + 1 ≤ Rows.uptoBulk d := by
  obtain ⟨fs, hu, hsz, hC, f0, f1, f2⟩ := frFields
  obtain ⟨ca, rfl, _⟩ := okWide_struct hu hval
  obtain ⟨fuel, hf⟩ := hd
  obtain ⟨xs, m, rfl, hy, hl, hxl, hg⟩ := DataW.trod_struct hu hf
  rw [hC] at hl
  have hcl : (Value.agg ca).cells.toList = ca.toList := rfl
  rw [hcl] at hl hg
  obtain ⟨cs, rfl⟩ : ∃ cs : List Value, ca = cs.toArray := ⟨ca.toList, by simp⟩
  simp only [List.toList_toArray] at hl hg
  obtain ⟨c0, c1, c2, rfl⟩ : ∃ c0 c1 c2, cs = [c0, c1, c2] := by
    match cs, hl with
    | [c0, c1, c2], _ => exact ⟨c0, c1, c2, rfl⟩
  have c1 : Tryz.prog.cellsOf 32 = 1 := by kernel_rfl
  have c2 : Tryz.prog.cellsOf 33 = 1 := by kernel_rfl
  obtain ⟨y0, hx0, t0⟩ := fldF hxl hg f0 c1 (by omega)
  obtain ⟨y1, hx1, t1⟩ := fldF hxl hg f1 c1 (by omega)
  obtain ⟨y2, hx2, t2⟩ := fldF hxl hg f2 c2 (by omega)
  obtain ⟨e, q0, he⟩ := trod_u64 Tryz.underlying32 t0
  obtain ⟨s, q1, hs⟩ := trod_u64 Tryz.underlying32 t1
  obtain ⟨dl, pl⟩ := y2
  obtain ⟨ao, cap, l, q2, hb, hk⟩ := open_bytes t2
  have hbd : Rows.uptoBulk dl ≤ Rows.uptoBulk d := by
    injection hy with hy1 hy2
    rw [hy1]
    have := bulkF_mem (List.mem_of_getElem? (show (xs.map (·.1))[2]? = some dl by rw [List.getElem?_map, hx2]; rfl))
    simp only [Rows.uptoBulk]
    omega
  refine ⟨⟨e, s, l⟩, _, ?_, hb, he, hs, by dsimp only; omega⟩
  simp only [List.getElem_cons_zero, List.getElem_cons_succ] at q0 q1
  subst q0 q1
  rfl
/-! The table -/
theorem gTab : Tryz.prog.globalNamed "gangway/crc.table" = some 0 := by kernel_rfl
theorem gTabType : (Tryz.prog.globals[0]?).map (·.type) = some 260 := by kernel_rfl
theorem cellsTab : Tryz.prog.cellsOf 260 = 16 := by kernel_rfl
theorem cellsU32 : Tryz.prog.cellsOf 154 = 1 := by kernel_rfl
def tabI : List Int := [0, 498536548, 997073096, 651767980, 1994146192, 1802195444, 1303535960, 1342533948, 3988292384, 4027552580, 3604390888, 3412177804, 2607071920, 2262029012, 2685067896, 3183342108]
theorem tabI_at : ∀ i, i < 16 → tabI.getD i 0 = ((tab16.getD i 0 : Nat) : Int) := by decide
theorem table {W : World} (h : laidMetH Tryz.prog [("gangway/crc.table", Rows.laid_gangway_crc_table)] W) : TabC W := by
  have ht : Lib.TabIs Tryz.prog W "gangway/crc.table" .u32 tabI :=
    Lib.tabIs_of_head (rest := []) gTab gTabType Tryz.underlying260 Tryz.underlying154 cellsU32 cellsTab h
  have hc : ∀ i, i < 16 → W.cell? ⟨0, i, none⟩ = some (.int .u32 (tab16.getD i 0 : Nat)) := fun i hi => by
    have := ht.cell gTab i hi
    rw [this, ← tabI_at i hi]
  refine ⟨?_, hc⟩
  have := hc 0 (by omega)
  unfold World.cell? at this
  dsimp only at this
  split at this
  · rename_i hh; exact (Array.getElem?_eq_some_iff.1 hh).1
  · cases this
/-- a world in which the table lies as it is laid -/
noncomputable def laidWorld (os : Os) : World :=
  { World.holding Tryz.prog os ⟨#[], #[], []⟩ with heap := (World.holding Tryz.prog os ⟨#[], #[], []⟩).heap.modify 0 fun
      | .cells _ t frozen => .cells #[.int .u32 0, .int .u32 498536548, .int .u32 997073096, .int .u32 651767980, .int .u32 1994146192, .int .u32 1802195444, .int .u32 1303535960, .int .u32 1342533948, .int .u32 3988292384, .int .u32 4027552580, .int .u32 3604390888, .int .u32 3412177804, .int .u32 2607071920, .int .u32 2262029012, .int .u32 2685067896, .int .u32 3183342108] t frozen
      | o => o }
end Go.Proofs.YtfepggdljhiemaaGreatDoor
