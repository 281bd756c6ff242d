import Derived.Test.YtfepggdljhiemaaGreatDoorGDs
import Derived.Test.YtfepggdljhiemaaGreatDoorGFl
import Derived.Test.YtfepggdljhiemaaGreatDoorRegT
/-! DiskTears. -/
set_option linter.unusedVariables false
set_option linter.unusedSimpArgs false
set_option maxRecDepth 100000
namespace Go.Proofs.YtfepggdljhiemaaGreatDoor
open Go.RowKit Gw

section
variable {w0 w w' : World} {v : Value} {l : List UInt8} {L L' : List Nat}
/-- bytes that lie apart from a disk keep through what turns it, and lie apart from it still -/
theorem Ob.far (h : Ob w v l) (hd : ∀ b ∈ blks v, b ∉ L) (hm : Mod L w w') (hL : ∀ k ∈ L', k ∈ L ∨ w.heap.size ≤ k) : Ob w' v l ∧ ∀ b ∈ blks v, b ∉ L' :=
  ⟨Ow.mod h hm hd, fun b hb hh => (hL b hh).elim (hd b hb) fun h2 => by have := Ow.lt h b hb; omega⟩
end
theorem Blk.far {w w' : World} {L L' : List Nat} {g : Nat} {t : TypeId} {cs : List Value} (h : Blk w g t cs) (hd : g ∉ L) (hm : Mod L w w') (hL : ∀ k ∈ L', k ∈ L ∨ w.heap.size ≤ k) : Blk w' g t cs ∧ g ∉ L' :=
  ⟨h.mod hm hd, fun hh => (hL g hh).elim hd fun h2 => by have := h.lt; omega⟩
theorem cell_u8 {w : World} {g : Nat} {l : List UInt8} {rest : List Value} (h : Blk w g 5 (bv l ++ rest)) {i : Nat} (hi : i < l.length) : w.cell? ⟨g, i, none⟩ = some (.int .u8 (l[i].toNat : Nat)) := by
  refine h.cell' ?_
  rw [List.getElem?_append_left (by rw [bv_length]; omega)]
  simp [bv, hi]
end Go.Proofs.YtfepggdljhiemaaGreatDoor
