/- Values written and read, in plain Lean. -/
import Derived.Test.YtiiaamkmnbegdaaDoorPrt
import Derived.Test.YtiiaamkmnbegdaaDoorText
import Derived.Lib.ItoaNum
import Derived.Lib.ParseIntB
namespace Go.Proofs.YtiiaamkmnbegdaaDoor.Val
set_option maxRecDepth 100000
set_option linter.unusedVariables false
set_option linter.unusedSimpArgs false
open Tok (dbl hexs dig cut)

structure V where
  kind : Int
  int : Int
  text : List UInt8
deriving DecidableEq
def zero : V := ⟨0, 0, []⟩

/-- may a value be -/
def may (v : V) : Bool := decide (v.kind = 0 ∧ v.int = 0 ∧ v.text = [] ∨ v.kind = 1 ∧ v.text = [] ∨ (v.kind = 2 ∨ v.kind = 3) ∧ v.int = 0 ∧ v.text.length ≤ 400)
/-- a value's literal, and the error's number -/
def print (v : V) : List UInt8 × Nat :=
  if may v = true then
    (if v.kind = 0 then ([78, 85, 76, 76], 0) else if v.kind = 1 then (Lib.itoa v.int, 0)
     else if v.kind = 2 then (39 :: (dbl v.text ++ [39]), 0) else (120 :: 39 :: (hexs v.text ++ [39]), 0))
  else ([], 2)
theorem print_no {v : V} (h : may v = false) : print v = ([], 2) := by rw [print, if_neg (by rw [h]; decide)]
theorem print_null {v : V} (h : may v = true) (hk : v.kind = 0) : print v = ([78, 85, 76, 76], 0) := by rw [print, if_pos h, if_pos hk]
theorem print_int {v : V} (h : may v = true) (hk : v.kind = 1) : print v = (Lib.itoa v.int, 0) := by rw [print, if_pos h, if_neg (by omega), if_pos hk]
theorem print_text {v : V} (h : may v = true) (hk : v.kind = 2) : print v = (39 :: (dbl v.text ++ [39]), 0) := by rw [print, if_pos h, if_neg (by omega), if_neg (by omega), if_pos hk]
theorem print_blob {v : V} (h : may v = true) (hk : v.kind = 3) : print v = (120 :: 39 :: (hexs v.text ++ [39]), 0) := by rw [print, if_pos h, if_neg (by omega), if_neg (by omega), if_neg (by omega)]
theorem may_iff {v : V} : may v = true ↔ (v.kind = 0 ∧ v.int = 0 ∧ v.text = [] ∨ v.kind = 1 ∧ v.text = [] ∨ (v.kind = 2 ∨ v.kind = 3) ∧ v.int = 0 ∧ v.text.length ≤ 400) := decide_eq_true_iff
theorem itoa_len (n : Int) (h0 : -9223372036854775808 ≤ n) (h1 : n ≤ 9223372036854775807) : (Lib.itoa n).length ≤ 21 := by
  have key : ∀ u : Nat, u < 10 ^ 20 → (Lib.decDigits u).length ≤ 20 := by
    have step : ∀ (k u : Nat), u < 10 ^ (k + 1) → (Lib.decDigits u).length ≤ k + 1 := by
      intro k
      induction k with
      | zero => intro u hu; rw [Lib.decDigits, dif_pos (by simpa using hu)]; simp
      | succ k ih =>
        intro u hu
        by_cases h : u < 10
        · rw [Lib.decDigits, dif_pos h]; simp
        · rw [Lib.decDigits, dif_neg h]
          have := ih (u / 10) (by rw [Nat.pow_succ] at hu; omega)
          simp; omega
    exact fun u hu => step 19 u hu
  unfold Lib.itoa
  split
  · have := key n.natAbs (by omega)
    simp; omega
  · have := key n.toNat (by omega)
    omega

/-- the value that a text may be the literal of -/
def guess (s : List UInt8) : V :=
  match Lib.parseIntB 64 s with
  | .ok n => ⟨1, n, []⟩
  | _ =>
    if 2 ≤ s.length ∧ (s.getD 0 0).toNat = 39 then ⟨2, 0, Lib.replaceAll (cut s 1 (s.length - 1)) [39, 39] [39]⟩
    else if 3 ≤ s.length ∧ (s.getD 0 0).toNat = 120 ∧ (Txt.unhex (cut s 2 (s.length - 1)) []).2 = true then ⟨3, 0, (Txt.unhex (cut s 2 (s.length - 1)) []).1⟩
    else zero
theorem guess_ok {s : List UInt8} {n : Int} (h : Lib.parseIntB 64 s = .ok n) : guess s = ⟨1, n, []⟩ := by unfold guess; rw [h]
theorem guess_else {s : List UInt8} (h : ∀ n, Lib.parseIntB 64 s ≠ .ok n) : guess s = if 2 ≤ s.length ∧ (s.getD 0 0).toNat = 39 then ⟨2, 0, Lib.replaceAll (cut s 1 (s.length - 1)) [39, 39] [39]⟩
    else if 3 ≤ s.length ∧ (s.getD 0 0).toNat = 120 ∧ (Txt.unhex (cut s 2 (s.length - 1)) []).2 = true then ⟨3, 0, (Txt.unhex (cut s 2 (s.length - 1)) []).1⟩
    else zero := by
  unfold guess
  split
  · rename_i n hn; exact absurd hn (h n)
  · rfl
/-- the value of a literal, and the error's number -/
def read (s : List UInt8) : V × Nat :=
  if 1000 < s.length then (zero, 3)
  else if (print (guess s)).2 = 0 ∧ (print (guess s)).1 = s then (guess s, 0) else (zero, 120)

end Go.Proofs.YtiiaamkmnbegdaaDoor.Val
