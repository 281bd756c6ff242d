import Derived.Test.YtfepggdljhiemaaGreatDoorGSh
import Derived.Test.YtfepggdljhiemaaGreatDoorGSl
import Derived.Test.YtfepggdljhiemaaGreatDoorGRg
/-! Slots: there, Bytes, New, header. -/
set_option linter.unusedVariables false
set_option linter.unusedSimpArgs false
set_option maxRecDepth 100000
namespace Go.Proofs.YtfepggdljhiemaaGreatDoor
open Go.RowKit Gw

end Go.Proofs.YtfepggdljhiemaaGreatDoor
