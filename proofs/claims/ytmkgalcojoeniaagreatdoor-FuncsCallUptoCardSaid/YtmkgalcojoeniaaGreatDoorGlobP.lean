/- The patterns of GLOB in plain Lean: sets, as the program reads them and as the reference does. -/
import Derived.Test.YtmkgalcojoeniaaGreatDoorFitP
set_option maxRecDepth 100000
set_option linter.unusedVariables false
set_option linter.unusedSimpArgs false
namespace Go.Proofs.YtmkgalcojoeniaaGreatDoor.Fit

/-- a set's ranges, and what follows behind its end; none: it does not end -/
def body : Nat → Bool → List UInt8 → Option (List (UInt8 × UInt8) × List UInt8)
  | 0, _, _ => none
  | _ + 1, _, [] => none
  | n + 1, first, c :: r =>
    if first = false ∧ c = 93 then some ([], r)
    else match r with
      | d :: e :: r' => if d = 45 ∧ e ≠ 93 then (body n false r').map fun x => ((c, e) :: x.1, x.2) else (body n false (d :: e :: r')).map fun x => ((c, c) :: x.1, x.2)
      | r => (body n false r).map fun x => ((c, c) :: x.1, x.2)
def inRange (x : UInt8) (q : UInt8 × UInt8) : Bool := decide (q.1.toNat ≤ x.toNat) && decide (x.toNat ≤ q.2.toNat)
/-- a set from its [ on: what it takes, and what follows -/
def setOf (r : List UInt8) : Option ((UInt8 → Bool) × List UInt8) :=
  match r with
  | c :: r' => if c = 94 then (body (r.length + 1) true r').map fun x => (fun b => !x.1.any (inRange b), x.2) else (body (r.length + 1) true r).map fun x => (fun b => x.1.any (inRange b), x.2)
  | [] => none
/-- the parts of a pattern of GLOB -/
def glob : Nat → List UInt8 → List P
  | 0, _ => []
  | _ + 1, [] => []
  | n + 1, c :: r =>
    if c = 42 then .any :: glob n r
    else if c = 63 then .takes (fun _ => true) :: glob n r
    else if c = 91 then (match setOf r with
      | none => [.takes fun _ => false]
      | some (f, r') => .takes f :: glob n r')
    else .takes (fun d => c == d) :: glob n r

end Go.Proofs.YtmkgalcojoeniaaGreatDoor.Fit
