/- Contracts: Hull and Meet of the program. -/
import Derived.Test.YtpjdoopcjdbefaaSpanC
namespace Go.Proofs.Ytpjdoopcjdbefaa
set_option linter.unusedVariables false
set_option linter.unusedSimpArgs false
open Go.RowKit

end Go.Proofs.Ytpjdoopcjdbefaa
