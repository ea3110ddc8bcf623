/- Walks: Cmp of the reference. -/
import Derived.Test.YtmkgalcojoeniaaGreatDoorCmpW4
import Derived.Test.YtmkgalcojoeniaaGreatDoorFoldW
set_option maxRecDepth 100000
set_option linter.unusedVariables false
set_option linter.unusedSimpArgs false
namespace Go.Proofs.YtmkgalcojoeniaaGreatDoor
open Go.RowKit

end Go.Proofs.YtmkgalcojoeniaaGreatDoor
