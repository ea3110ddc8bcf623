/- GLOB's sets in plain Lean: where the reference sees their ends, and which bytes it sees in them, against what the program reads. -/
import Derived.Test.YtmkgalcojoeniaaGreatDoorGlobP
set_option maxRecDepth 100000
set_option linter.unusedVariables false
set_option linter.unusedSimpArgs false
namespace Go.Proofs.YtmkgalcojoeniaaGreatDoor.Fit

/-- the reference: how many bytes lie ahead of the set's end -/
def ends : Nat → Bool → List UInt8 → Option Nat
  | 0, _, _ => none
  | _ + 1, _, [] => none
  | n + 1, first, c :: r =>
    if first = false ∧ c = 93 then some 0
    else match r with
      | d :: e :: r' => if d = 45 ∧ e ≠ 93 then (ends n false r').map (· + 3) else (ends n false (d :: e :: r')).map (· + 1)
      | r => (ends n false r).map (· + 1)
/-- the reference: does a byte stand in a set's bytes? -/
def holds : Nat → List UInt8 → UInt8 → Bool
  | 0, _, _ => false
  | _ + 1, [], _ => false
  | n + 1, a :: r, x => match r with
    | d :: e :: r' => if d = 45 then inRange x (a, e) || holds n r' x else a == x || holds n (d :: e :: r') x
    | r => a == x || holds n r x

end Go.Proofs.YtmkgalcojoeniaaGreatDoor.Fit
