import Derived.Test.YtminfegoldgjpaaGreatDoorGOn
set_option linter.unusedVariables false
set_option linter.unusedSimpArgs false
set_option maxRecDepth 100000
namespace Go.Proofs.YtminfegoldgjpaaGreatDoor
open Go.RowKit Gw

/-- how many bytes a step takes, whether it takes at all, and whether what it takes is what was put -/
def sz (o : Opr) : Nat := if o.kind = 1 then 1 else if o.kind = 2 then 2 else if o.kind = 3 then 4 else if o.kind = 4 then 8 else if o.kind = 5 then o.l.length else 0
def acts (o : Opr) : Prop := o.kind = 1 ∨ o.kind = 2 ∨ o.kind = 3 ∨ o.kind = 4 ∨ o.kind = 5
instance (o : Opr) : Decidable (acts o) := by unfold acts; infer_instance
end Go.Proofs.YtminfegoldgjpaaGreatDoor
