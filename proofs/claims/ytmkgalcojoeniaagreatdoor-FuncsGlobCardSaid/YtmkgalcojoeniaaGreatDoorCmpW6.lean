/- Walks: Cmp of any two values. -/
import Derived.Test.YtmkgalcojoeniaaGreatDoorCmpW5
import Derived.Test.YtmkgalcojoeniaaGreatDoorLits
set_option maxRecDepth 100000
set_option linter.unusedVariables false
set_option linter.unusedSimpArgs false
namespace Go.Proofs.YtmkgalcojoeniaaGreatDoor
open Go.RowKit

end Go.Proofs.YtmkgalcojoeniaaGreatDoor
