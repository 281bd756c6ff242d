import Derived.Test.YtfepggdljhiemaaGreatDoorGRw
import Derived.Test.YtfepggdljhiemaaGreatDoorGFr
import Derived.Deep.Slices
import Derived.Deep.Fields
import Derived.Deep.DeepHandedRow
import Derived.Lib.LaidTab
/-! What the laws of frames take, opened; the table that is laid. -/
set_option linter.unusedVariables false
set_option linter.unusedSimpArgs false
set_option maxRecDepth 100000
namespace Go.Proofs.YtfepggdljhiemaaGreatDoor
open Go.ChangeShapes Go.WideShapes Go.ChangeAt Go.RowKit Gw Go.Deep

section
variable {H : Type} {enc : TypeId × Value → H} {P : Program} {w : World} {base : Nat} {spare : Nat → Bool} {held : Bool}
end
/-! The table -/
theorem gTab : Tryz.prog.globalNamed "gangway/crc.table" = some 0 := by kernel_rfl
theorem gTabType : (Tryz.prog.globals[0]?).map (·.type) = some 260 := by kernel_rfl
theorem cellsTab : Tryz.prog.cellsOf 260 = 16 := by kernel_rfl
theorem cellsU32 : Tryz.prog.cellsOf 154 = 1 := by kernel_rfl
def tabI : List Int := [0, 498536548, 997073096, 651767980, 1994146192, 1802195444, 1303535960, 1342533948, 3988292384, 4027552580, 3604390888, 3412177804, 2607071920, 2262029012, 2685067896, 3183342108]
theorem tabI_at : ∀ i, i < 16 → tabI.getD i 0 = ((tab16.getD i 0 : Nat) : Int) := by decide
theorem table {W : World} (h : laidMetH Tryz.prog [("gangway/crc.table", Rows.laid_gangway_crc_table)] W) : TabC W := by
  have ht : Lib.TabIs Tryz.prog W "gangway/crc.table" .u32 tabI :=
    Lib.tabIs_of_head (rest := []) gTab gTabType Tryz.underlying260 Tryz.underlying154 cellsU32 cellsTab h
  have hc : ∀ i, i < 16 → W.cell? ⟨0, i, none⟩ = some (.int .u32 (tab16.getD i 0 : Nat)) := fun i hi => by
    have := ht.cell gTab i hi
    rw [this, ← tabI_at i hi]
  refine ⟨?_, hc⟩
  have := hc 0 (by omega)
  unfold World.cell? at this
  dsimp only at this
  split at this
  · rename_i hh; exact (Array.getElem?_eq_some_iff.1 hh).1
  · cases this
/-- a world in which the table lies as it is laid -/
noncomputable def laidWorld (os : Os) : World :=
  { World.holding Tryz.prog os ⟨#[], #[], []⟩ with heap := (World.holding Tryz.prog os ⟨#[], #[], []⟩).heap.modify 0 fun
      | .cells _ t frozen => .cells #[.int .u32 0, .int .u32 498536548, .int .u32 997073096, .int .u32 651767980, .int .u32 1994146192, .int .u32 1802195444, .int .u32 1303535960, .int .u32 1342533948, .int .u32 3988292384, .int .u32 4027552580, .int .u32 3604390888, .int .u32 3412177804, .int .u32 2607071920, .int .u32 2262029012, .int .u32 2685067896, .int .u32 3183342108] t frozen
      | o => o }
end Go.Proofs.YtfepggdljhiemaaGreatDoor
