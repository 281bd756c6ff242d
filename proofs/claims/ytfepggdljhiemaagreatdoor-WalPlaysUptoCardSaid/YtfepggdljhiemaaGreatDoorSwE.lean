import Derived.Test.YtfepggdljhiemaaGreatDoorSwD
import Derived.Test.YtfepggdljhiemaaGreatDoorLpN
import Derived.Deep.DeepCutAuto
/-! Slots: Load. -/
set_option linter.unusedVariables false
set_option linter.unusedSimpArgs false
set_option maxRecDepth 100000
namespace Go.Proofs.YtfepggdljhiemaaGreatDoor
open Go.RowKit Gw

section
variable {W w w' : World} {s a b p q f0 f1 c z t g : Nat} {V V' : Pv} {L D : List Nat} {hs hs' : List Value}
end
end Go.Proofs.YtfepggdljhiemaaGreatDoor
