/- Contracts: Hull and Meet of the program. -/
import Derived.Test.YtapfihlfnaebhaaSpanC
namespace Go.Proofs.Ytapfihlfnaebhaa
set_option linter.unusedVariables false
set_option linter.unusedSimpArgs false
open Go.RowKit

end Go.Proofs.Ytapfihlfnaebhaa
