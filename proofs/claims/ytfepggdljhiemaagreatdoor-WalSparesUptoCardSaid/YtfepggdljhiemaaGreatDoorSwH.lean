import Derived.Test.YtfepggdljhiemaaGreatDoorSwG
import Derived.Test.YtfepggdljhiemaaGreatDoorGRi
/-! Slots: spans; New of both. -/
set_option linter.unusedVariables false
set_option linter.unusedSimpArgs false
set_option maxRecDepth 100000
namespace Go.Proofs.YtfepggdljhiemaaGreatDoor
open Go.RowKit Gw

/-- where the slots lie -/
def spN : Nat → (Nat × Nat) × (Nat × Nat)
  | 1 => ((5, 4), (0, 4))
  | 2 => ((2, 2), (4, 2))
  | 3 => ((0, 4), (2, 4))
  | 4 => ((0, 4), (0, 4))
  | 5 => ((0, 4), (5, 3))
  | 6 => ((0, 1), (5, 1))
  | _ => ((0, 4), (5, 4))
theorem zero_span : (Tryz.prog.info? 62).map (·.zero) = some (some (.agg #[.int .i64 0, .int .i64 0])) := by kernel_rfl
end Go.Proofs.YtfepggdljhiemaaGreatDoor
