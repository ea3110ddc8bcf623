/- The world's shape gives the library's variable a number. -/
import Derived.Test.YtiiaamkmnbegdaaDoorPrtW
import Derived.Test.YtiiaamkmnbegdaaDoorLits
namespace Go.Proofs.YtiiaamkmnbegdaaDoor
set_option maxRecDepth 100000
set_option linter.unusedVariables false
set_option linter.unusedSimpArgs false
end Go.Proofs.YtiiaamkmnbegdaaDoor
