import Derived.Test.YtfepggdljhiemaaGreatDoorReg
import Derived.Deep.LoopGhost
set_option linter.unusedVariables false
set_option linter.unusedSimpArgs false
set_option maxRecDepth 100000
/- A loop of a few turns, walked turn by turn. No program is named here. -/
namespace Go.Proofs.YtfepggdljhiemaaGreatDoor.Gw
open Go

/-- so many turns are to come, at most -/
def LoopN (P : Program) (c : Code) (Q : Exit → Act → World → Prop) : Nat → Act → World → Prop
  | 0, _, _ => False
  | n + 1, a, w => c.wp P (Exit.then (LoopN P c Q n) Q) a w
section
variable {P : Program} {c : Code} {Q : Exit → Act → World → Prop} {a : Act} {w : World}
theorem LoopN.step {n : Nat} (h : ∀ K : Act → World → Prop, (∀ a w, LoopN P c Q n a w → K a w) → c.wp P (Exit.then K Q) a w) : LoopN P c Q (n + 1) a w := h _ fun _ _ h => h
end
end Go.Proofs.YtfepggdljhiemaaGreatDoor.Gw
