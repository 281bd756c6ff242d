import Derived.Test.YtdmnogmhnhjdgaaGreatGOe
set_option linter.unusedVariables false
set_option linter.unusedSimpArgs false
set_option maxRecDepth 100000
namespace Go.Proofs.YtdmnogmhnhjdgaaGreat
open Go.RowKit Gw

/-- what a call that only makes new memory leaves -/
def Quiet (w : World) (e : Ending) (w' : World) : Prop := e = .returned (.tuple #[]) ∧ Mod [] w w'

end Go.Proofs.YtdmnogmhnhjdgaaGreat
