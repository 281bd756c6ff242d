import Derived.Test.YtfcoaiggpcjldaaRdA
set_option linter.unusedVariables false
set_option linter.unusedSimpArgs false
set_option maxRecDepth 100000
namespace Go.Proofs.Ytfcoaiggpcjldaa
open Go.RowKit Gw

end Go.Proofs.Ytfcoaiggpcjldaa
