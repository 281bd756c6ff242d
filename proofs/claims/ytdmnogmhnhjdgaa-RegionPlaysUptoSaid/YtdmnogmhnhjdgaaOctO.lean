import Derived.Test.YtdmnogmhnhjdgaaOctN
set_option linter.unusedVariables false
set_option linter.unusedSimpArgs false
set_option maxRecDepth 100000
namespace Go.Proofs.Ytdmnogmhnhjdgaa
open Go.RowKit Gw

end Go.Proofs.Ytdmnogmhnhjdgaa
