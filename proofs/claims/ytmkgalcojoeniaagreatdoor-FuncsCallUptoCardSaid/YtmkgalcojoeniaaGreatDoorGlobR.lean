/- Walks: the reference's sets: End, Holds, Takes. -/
import Derived.Test.YtmkgalcojoeniaaGreatDoorGlobQ
import Derived.Test.YtmkgalcojoeniaaGreatDoorFitsK
set_option maxRecDepth 100000
set_option linter.unusedVariables false
set_option linter.unusedSimpArgs false
namespace Go.Proofs.YtmkgalcojoeniaaGreatDoor
open Go.RowKit

theorem dropB1 (s : ByteArray) (i : Nat) (h : i < s.size) : s.data.toList.drop i = s[i] :: s.data.toList.drop (i + 1) := by
  have h' : i < s.data.toList.length := h
  rw [List.drop_eq_getElem_cons h']
  rfl
theorem dropB0 (s : ByteArray) (i : Nat) (h : s.size ≤ i) : s.data.toList.drop i = [] := List.drop_eq_nil_of_le h
/-- where the reference sees a set's end -/
def endR (l : List UInt8) : Int := match Fit.setOf (l.drop 1) with
  | none => -1
  | some x => (l.length : Int) - 1 - (x.2.length : Int)

/-- the end, out of the rest behind it -/
def endG (p : ByteArray) (x : Option (List (UInt8 × UInt8) × List UInt8)) : Int := match x with
  | none => -1
  | some y => (p.size : Int) - 1 - (y.2.length : Int)
end Go.Proofs.YtmkgalcojoeniaaGreatDoor
