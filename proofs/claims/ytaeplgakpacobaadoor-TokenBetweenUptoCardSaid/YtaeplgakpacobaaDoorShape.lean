/- The world's shape gives the library's variable a number. -/
import Derived.Test.YtaeplgakpacobaaDoorPrtW
import Derived.Test.YtaeplgakpacobaaDoorLits
set_option maxRecDepth 100000
set_option linter.unusedVariables false
set_option linter.unusedSimpArgs false
namespace Go.Proofs.YtaeplgakpacobaaDoor
end Go.Proofs.YtaeplgakpacobaaDoor
