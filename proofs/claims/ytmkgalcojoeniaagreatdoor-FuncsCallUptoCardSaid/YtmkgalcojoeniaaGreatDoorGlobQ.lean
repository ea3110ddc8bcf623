/- GLOB's patterns and sets in plain Lean: how they are read step by step; what the reference sees of them. -/
import Derived.Test.YtmkgalcojoeniaaGreatDoorGlobE
set_option maxRecDepth 100000
set_option linter.unusedVariables false
set_option linter.unusedSimpArgs false
namespace Go.Proofs.YtmkgalcojoeniaaGreatDoor.Fit

/-- a set's ranges from here on -/
def bodyL (first : Bool) (l : List UInt8) : Option (List (UInt8 × UInt8) × List UInt8) := body (l.length + 1) first l
/-- the parts of a pattern of GLOB -/
def globL (l : List UInt8) : List P := glob (l.length + 1) l
/-- a set's test: its ranges, turned round or not -/
def setK (neg : Bool) (rs : List (UInt8 × UInt8)) (b : UInt8) : Bool := (rs.any (inRange b)) != neg
/-- the reference: does a byte stand in a set's bytes? -/
def holdsL (l : List UInt8) (x : UInt8) : Bool := holds (l.length + 1) l x
/-- the reference: a set without its bracket takes a byte -/
def takesR (l : List UInt8) (x : UInt8) : Bool :=
  match l with
  | 94 :: l' => !holdsL l' x
  | l => holdsL l x
end Go.Proofs.YtmkgalcojoeniaaGreatDoor.Fit
