/- Which texts fit the parts of a pattern, in plain Lean: by places of the text, as the program reckons it, and by the pattern's rest, as the reference does. -/
import Derived.Test.YtmkgalcojoeniaaGreatDoorPlain
set_option maxRecDepth 100000
set_option linter.unusedVariables false
set_option linter.unusedSimpArgs false
namespace Go.Proofs.YtmkgalcojoeniaaGreatDoor.Fit

/-- a part of a pattern: any bytes, or one byte that it takes -/
inductive P where
  | any
  | takes (f : UInt8 → Bool)

def star (g : List UInt8 → Bool) : List UInt8 → Bool
  | [] => g []
  | c :: s => g (c :: s) || star g s
def fit : List P → List UInt8 → Bool
  | [], s => s.isEmpty
  | .any :: l, s => star (fit l) s
  | .takes _ :: _, [] => false
  | .takes f :: l, c :: s => f c && fit l s

/-- the program's rows: row i: do the first i bytes fit the parts so far? -/
def start : Nat → Bool
  | 0 => true
  | _ + 1 => false
def anyRow (row : Nat → Bool) : Nat → Bool
  | 0 => row 0
  | i + 1 => row (i + 1) || anyRow row i
def takeRow (f : UInt8 → Bool) (s : List UInt8) (row : Nat → Bool) : Nat → Bool
  | 0 => false
  | i + 1 => row i && f (s.getD i 0)
def step (s : List UInt8) (row : Nat → Bool) : P → Nat → Bool
  | .any => anyRow row
  | .takes f => takeRow f s row
def rows (s : List UInt8) : List P → (Nat → Bool) → Nat → Bool
  | [], row => row
  | p :: l, row => rows s l (step s row p)

def Goes (s : List UInt8) (row : Nat → Bool) (l : List P) : Prop := ∃ i, i ≤ s.length ∧ row i = true ∧ fit l (s.drop i) = true
/-- the parts of a pattern of LIKE whose letters are small -/
def likePart (c : UInt8) : P := if c = 37 then .any else if c = 95 then .takes (fun _ => true) else .takes (fun d => c == d)
def like (p : List UInt8) : List P := p.map likePart

end Go.Proofs.YtmkgalcojoeniaaGreatDoor.Fit
