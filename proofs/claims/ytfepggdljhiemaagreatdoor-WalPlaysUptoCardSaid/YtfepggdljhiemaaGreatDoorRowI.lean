import Derived.Test.YtfepggdljhiemaaGreatDoorRowH
import Derived.Test.YtfepggdljhiemaaGreatDoorGFr
/-! What the laws of frames take, opened: rows of bytes. -/
set_option linter.unusedVariables false
set_option linter.unusedSimpArgs false
set_option maxRecDepth 100000
namespace Go.Proofs.YtfepggdljhiemaaGreatDoor
open Go.ChangeShapes Go.WideShapes Go.ChangeAt Go.RowKit Gw Go.Deep

end Go.Proofs.YtfepggdljhiemaaGreatDoor
