import Derived.Test.YtfepggdljhiemaaGreatDoorRowI
import Derived.Test.YtfepggdljhiemaaGreatDoorGWs
/-! What the laws of logs take, opened: numbers. -/
set_option linter.unusedVariables false
set_option linter.unusedSimpArgs false
set_option maxRecDepth 100000
namespace Go.Proofs.YtfepggdljhiemaaGreatDoor
open Go.ChangeShapes Go.WideShapes Go.ChangeAt Go.RowKit Gw Go.Deep

end Go.Proofs.YtfepggdljhiemaaGreatDoor
