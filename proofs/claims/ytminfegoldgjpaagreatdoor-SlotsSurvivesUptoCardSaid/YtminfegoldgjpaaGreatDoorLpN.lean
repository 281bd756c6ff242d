import Derived.Test.YtminfegoldgjpaaGreatDoorReg
import Derived.Deep.LoopGhost
set_option linter.unusedVariables false
set_option linter.unusedSimpArgs false
set_option maxRecDepth 100000
/- A loop of a few turns, walked turn by turn. No program is named here. -/
namespace Go.Proofs.YtminfegoldgjpaaGreatDoor.Gw
open Go
def LoopN (P : Program) (c : Code) (Q : Exit → Act → World → Prop) : Nat → Act → World → Prop
 | 0, _, _ => False
 | n + 1, a, w => c.wp P (Exit.then (LoopN P c Q n) Q) a w
section
variable {P : Program} {c : Code} {Q : Exit → Act → World → Prop} {a : Act} {w : World}
theorem LoopN.step {n : Nat} (h : ∀ K : Act → World → Prop, (∀ a w, LoopN P c Q n a w → K a w) → c.wp P (Exit.then K Q) a w) : LoopN P c Q (n + 1) a w := h _ fun _ _ h => h
theorem wp_loopN (n : Nat) (h : ∀ K : Act → World → Prop, (∀ a w, LoopN P c Q n a w → K a w) → c.wp P (Exit.then K Q) a w) : (Code.loop c).wp P Q a w := by
 refine wp_loop_ghost (fun k a w => LoopN P c Q k a w) (n + 1) (LoopN.step h) ?_
 intro k a w hk
 cases k with
 | zero => exact hk.elim
 | succ m =>
   refine Code.wp_mono (fun e a' w' q => ?_) hk
   cases e with
   | normal => exact ⟨m, Nat.lt_succ_self m, q⟩
   | exit id => exact q
   | goto l => exact q
   | ret => exact q
   | panic ch => exact q
   | outgrown => exact q
end
end Go.Proofs.YtminfegoldgjpaaGreatDoor.Gw
