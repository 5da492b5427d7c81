/- Codes that may be: the document's function, and the law's. -/
import Derived.Test.YtnnjobmiepnedaaDoorVmOk
namespace Go.Proofs.YtnnjobmiepnedaaDoor.Nice
open Go
set_option linter.unusedVariables false
set_option linter.unusedSimpArgs false
set_option maxRecDepth 100000
set_option maxHeartbeats 4000000



end Go.Proofs.YtnnjobmiepnedaaDoor.Nice
