/- Walks: Number of the reference. -/
import Derived.Test.YtmkgalcojoeniaaGreatDoorPlain
import Derived.Test.YtmkgalcojoeniaaGreatDoorValW
import Derived.Test.YtmkgalcojoeniaaGreatDoorCmpA
set_option maxRecDepth 100000
set_option linter.unusedVariables false
set_option linter.unusedSimpArgs false
namespace Go.Proofs.YtmkgalcojoeniaaGreatDoor
open Go.RowKit

/-- what Number answers -/
def NumP (R : Option Int) (w : World) (e : Ending) (w' : World) : Prop :=
  e = .returned (match R with | some n => .tuple #[.int .i64 n, .bool true] | none => .tuple #[.int .i64 0, .bool false]) ∧ w = w'
end Go.Proofs.YtmkgalcojoeniaaGreatDoor
