import Derived.Test.YtfepggdljhiemaaGreatDoorSwH
import Derived.Test.YtfepggdljhiemaaGreatDoorGRh
/-! Slots: the document's New and Bytes; made. -/
set_option linter.unusedVariables false
set_option linter.unusedSimpArgs false
set_option maxRecDepth 100000
namespace Go.Proofs.YtfepggdljhiemaaGreatDoor
open Go.RowKit Gw

end Go.Proofs.YtfepggdljhiemaaGreatDoor
