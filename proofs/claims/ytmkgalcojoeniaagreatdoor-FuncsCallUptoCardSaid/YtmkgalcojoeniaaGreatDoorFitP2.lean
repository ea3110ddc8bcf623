/- Which texts fit what they must fit, and patterns in two parts: in plain Lean. -/
import Derived.Test.YtmkgalcojoeniaaGreatDoorGlobQ
set_option maxRecDepth 100000
set_option linter.unusedVariables false
set_option linter.unusedSimpArgs false
namespace Go.Proofs.YtmkgalcojoeniaaGreatDoor.Fit

/-- does a byte stand in a text? -/
def inT (l : List UInt8) (c : UInt8) : Bool := l.any (· == c)
end Go.Proofs.YtmkgalcojoeniaaGreatDoor.Fit
