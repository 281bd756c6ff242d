import Derived.Test.YtfepggdljhiemaaGreatDoorGSh
import Derived.Test.YtfepggdljhiemaaGreatDoorGSl
import Derived.Test.YtfepggdljhiemaaGreatDoorGRg
/-! Slots: there, Bytes, New, header. -/
set_option linter.unusedVariables false
set_option linter.unusedSimpArgs false
set_option maxRecDepth 100000
namespace Go.Proofs.YtfepggdljhiemaaGreatDoor
open Go.RowKit Gw

/-- what header tells -/
def SHdP (w : World) (p q : Nat) (L : List Nat) (R : Pv × Int × Hd) (e : Ending) (w' : World) : Prop := e = .returned (.tuple #[R.2.2.v, .int .i64 R.2.1]) ∧ Pd w' p q R.1 L ∧ Mod [p] w w'
end Go.Proofs.YtfepggdljhiemaaGreatDoor
