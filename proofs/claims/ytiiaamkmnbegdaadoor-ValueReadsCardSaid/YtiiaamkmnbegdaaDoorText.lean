/- Texts folded, quotes and digits taken back, in plain Lean: what the reference of layer 2 does with the bytes of a text. -/
import Derived.Lib.Bytealg
import Derived.Lib.Strings
namespace Go.Proofs.YtiiaamkmnbegdaaDoor.Txt
set_option maxRecDepth 100000
set_option linter.unusedVariables false
set_option linter.unusedSimpArgs false

/-- a byte, A to Z as a to z -/
def lower (c : UInt8) : UInt8 := if 65 ≤ c.toNat ∧ c.toNat ≤ 90 then UInt8.ofNat (c.toNat + 32) else c
theorem lower_up {c : UInt8} (h : 65 ≤ c.toNat ∧ c.toNat ≤ 90) : (lower c).toNat = c.toNat + 32 := by
  rw [lower, if_pos h, UInt8.toNat_ofNat']; omega
theorem lower_no {c : UInt8} (h : ¬ (65 ≤ c.toNat ∧ c.toNat ≤ 90)) : lower c = c := by rw [lower, if_neg h]

/-- what a small digit to the base 16 is worth; -1: it is none -/
def nib (c : UInt8) : Int := if 48 ≤ c.toNat ∧ c.toNat ≤ 57 then (c.toNat : Int) - 48 else if 97 ≤ c.toNat ∧ c.toNat ≤ 102 then (c.toNat : Int) - 87 else -1
theorem nib_le (c : UInt8) : -1 ≤ nib c ∧ nib c ≤ 15 := by
  unfold nib
  split
  · omega
  · split <;> omega

/-- without the blanks at its end -/
def rtrim (l : List UInt8) : List UInt8 := (l.reverse.dropWhile fun c => decide (c.toNat = 32)).reverse
theorem rtrim_nil : rtrim [] = [] := rfl
theorem rtrim_blank (l : List UInt8) (c : UInt8) (h : c.toNat = 32) : rtrim (l ++ [c]) = rtrim l := by simp [rtrim, h]
theorem rtrim_other (l : List UInt8) (c : UInt8) (h : c.toNat ≠ 32) : rtrim (l ++ [c]) = l ++ [c] := by simp [rtrim, h]

/-- a text as a collation takes it -/
def fold (l : List UInt8) (c : Int) : List UInt8 := if c = 2 then rtrim l else if c = 1 then l.map lower else l

/-- the bytes between the quotes of a text's literal; false: there are none -/
def unq : List UInt8 → List UInt8 → List UInt8 × Bool
  | [], acc => (acc, true)
  | [c], acc => if c.toNat = 39 then ([], false) else (acc ++ [c], true)
  | c :: d :: r, acc => if c.toNat = 39 then (if d.toNat = 39 then unq r (acc ++ [d]) else ([], false)) else unq (d :: r) (acc ++ [c])
theorem unq_byte {c : UInt8} (r acc : List UInt8) (h : c.toNat ≠ 39) : unq (c :: r) acc = unq r (acc ++ [c]) := by
  cases r with
  | nil => simp [unq, h]
  | cons d r => rw [unq, if_neg h]
theorem unq_pair {c d : UInt8} (r acc : List UInt8) (h : c.toNat = 39) (hd : d.toNat = 39) : unq (c :: d :: r) acc = unq r (acc ++ [d]) := by
  rw [unq, if_pos h, if_pos hd]
theorem unq_bad {c d : UInt8} (r acc : List UInt8) (h : c.toNat = 39) (hd : d.toNat ≠ 39) : unq (c :: d :: r) acc = ([], false) := by
  rw [unq, if_pos h, if_neg hd]
theorem unq_last {c : UInt8} (acc : List UInt8) (h : c.toNat = 39) : unq [c] acc = ([], false) := by
  rw [unq, if_pos h]

/-- the bytes of a blob's digits; false: there are none -/
def unhex : List UInt8 → List UInt8 → List UInt8 × Bool
  | [], acc => (acc, true)
  | [_], _ => ([], false)
  | c :: d :: r, acc => if nib c < 0 ∨ nib d < 0 then ([], false) else unhex r (acc ++ [UInt8.ofNat ((nib c).toNat * 16 + (nib d).toNat)])
theorem unhex_pair {c d : UInt8} (r acc : List UInt8) (h : 0 ≤ nib c) (hd : 0 ≤ nib d) : unhex (c :: d :: r) acc = unhex r (acc ++ [UInt8.ofNat ((nib c).toNat * 16 + (nib d).toNat)]) := by
  rw [unhex, if_neg (by omega)]
theorem unhex_bad {c d : UInt8} (r acc : List UInt8) (h : nib c < 0 ∨ nib d < 0) : unhex (c :: d :: r) acc = ([], false) := by
  rw [unhex, if_pos h]

/-- the reference's Bytes -/
def bytes (l : List UInt8) (blob : Bool) : List UInt8 × Bool := if blob = true then unhex l [] else unq l []

end Go.Proofs.YtiiaamkmnbegdaaDoor.Txt
