import Derived.Test.YtfepggdljhiemaaGreatDoorSwF
import Derived.Test.YtfepggdljhiemaaGreatDoorGDs
import Derived.Test.YtfepggdljhiemaaGreatDoorRegT
import Derived.Test.YtfepggdljhiemaaGreatDoorRegB
/-! Slots: Save. -/
set_option linter.unusedVariables false
set_option linter.unusedSimpArgs false
set_option maxRecDepth 100000
namespace Go.Proofs.YtfepggdljhiemaaGreatDoor
open Go.RowKit Gw

end Go.Proofs.YtfepggdljhiemaaGreatDoor
