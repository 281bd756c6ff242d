import Derived.Test.YtdmnogmhnhjdgaaGreatOctN
set_option linter.unusedVariables false
set_option linter.unusedSimpArgs false
set_option maxRecDepth 100000
namespace Go.Proofs.YtdmnogmhnhjdgaaGreat
open Go.RowKit Gw

end Go.Proofs.YtdmnogmhnhjdgaaGreat
