/- Walks: what package strings' Builder does at this program's translation: copyCheck and WriteByte. -/
import Derived.Test.YtmkgalcojoeniaaGreatDoorProg
import Derived.Test.YtmkgalcojoeniaaGreatDoorShelf
import Derived.Test.YtmkgalcojoeniaaGreatDoorBase
import Derived.Lib.Builder
import Derived.Lib.UnsafeStr
import Derived.Lib.AppendStr
import Derived.Laws.Externs
set_option maxRecDepth 100000
set_option linter.unusedVariables false
set_option linter.unusedSimpArgs false
namespace Go.Proofs.YtmkgalcojoeniaaGreatDoor
open Go.RowKit

end Go.Proofs.YtmkgalcojoeniaaGreatDoor
