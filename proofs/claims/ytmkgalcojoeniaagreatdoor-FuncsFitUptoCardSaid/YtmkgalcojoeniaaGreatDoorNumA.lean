/- Walks: Number of the reference, of any short text. -/
import Derived.Test.YtmkgalcojoeniaaGreatDoorNumW
set_option maxRecDepth 100000
set_option linter.unusedVariables false
set_option linter.unusedSimpArgs false
namespace Go.Proofs.YtmkgalcojoeniaaGreatDoor
open Go.RowKit

end Go.Proofs.YtmkgalcojoeniaaGreatDoor
