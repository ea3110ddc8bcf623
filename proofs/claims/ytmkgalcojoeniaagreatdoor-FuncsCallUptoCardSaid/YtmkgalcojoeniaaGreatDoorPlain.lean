/- What the tokens, the values and the operators are, in plain Lean. -/
import Derived.Lib.Bytealg
import Derived.Lib.Strings
import Derived.Lib.Replace
import Derived.Lib.Join
import Derived.Lib.ItoaNum
import Derived.Lib.ParseIntB
import Derived.Lib.Small
import Derived.Lib.TrimByte
import GoSem.Op.String
import Derived.Lib.ParseIntBCases
import Derived.Lib.SlTrimSet
import Derived.RowKit
import Derived.IntWalk

/-! The tokens of a text as plain Lean functions over lists of bytes: what the program's package token computes, with no program in sight. -/
set_option maxRecDepth 100000
set_option linter.unusedVariables false
set_option linter.unusedSimpArgs false
namespace Go.Proofs.YtmkgalcojoeniaaGreatDoor.Tok

def letter (c : UInt8) : Bool := decide (97 ≤ c.toNat ∧ c.toNat ≤ 122 ∨ 65 ≤ c.toNat ∧ c.toNat ≤ 90 ∨ c.toNat = 95)
def digit (c : UInt8) : Bool := decide (48 ≤ c.toNat ∧ c.toNat ≤ 57)
def word (c : UInt8) : Bool := letter c || digit c
def blank (c : UInt8) : Bool := decide (c.toNat = 32 ∨ c.toNat = 9 ∨ c.toNat = 10 ∨ c.toNat = 13)

/-- where a row of bytes of a kind ends -/
def runEnd (p : UInt8 → Bool) (l : List UInt8) (i : Nat) : Nat :=
  if h : i < l.length then (if p l[i] then runEnd p l (i + 1) else i) else i
termination_by l.length - i

theorem runEnd_step {p : UInt8 → Bool} {l : List UInt8} {i : Nat} (h : i < l.length) (hp : p l[i] = true) : runEnd p l (i + 1) = runEnd p l i := by
  rw [runEnd.eq_def p l i, dif_pos h, if_pos hp]
theorem runEnd_stop {p : UInt8 → Bool} {l : List UInt8} {i : Nat} (h : i < l.length) (hp : p l[i] = false) : runEnd p l i = i := by
  rw [runEnd, dif_pos h, if_neg (by simp [hp])]
theorem runEnd_end {p : UInt8 → Bool} {l : List UInt8} {i : Nat} (h : l.length ≤ i) : runEnd p l i = i := by
  rw [runEnd, dif_neg (by omega)]


/-- where the next token begins, or the end -/
def skip (l : List UInt8) (i : Nat) : Nat :=
  if h : i < l.length then
    (if blank l[i] then skip l (i + 1)
     else if Lib.hasPrefix (l.drop i) [45, 45] then
       (if Lib.indexByte (l.drop i) 10 < 0 then l.length else skip l (i + ((Lib.indexByte (l.drop i) 10).toNat + 1)))
     else i)
  else i
termination_by l.length - i

theorem indexByte_lt (l : List UInt8) (c : UInt8) : Lib.indexByte l c < l.length := by
  induction l with
  | nil => simp [Lib.indexByte]
  | cons b l ih =>
    unfold Lib.indexByte
    simp only [List.length_cons]
    split
    · omega
    · split <;> omega


/-- the bytes of a text whose place i lies behind its first quote, where it ends, and whether it does -/
def quoted (l : List UInt8) (i : Nat) (acc : List UInt8) : List UInt8 × Nat × Bool :=
  if h : i < l.length then
    (if l[i].toNat = 39 then
       (if h1 : i + 1 < l.length then (if l[i + 1].toNat = 39 then quoted l (i + 2) (acc ++ [l[i + 1]]) else (acc, i + 1, true)) else (acc, i + 1, true))
     else quoted l (i + 1) (acc ++ [l[i]]))
  else ([], 0, false)
termination_by l.length - i

theorem quoted_byte {l : List UInt8} {i : Nat} {acc : List UInt8} (h : i < l.length) (hc : l[i].toNat ≠ 39) : quoted l (i + 1) (acc ++ [l[i]]) = quoted l i acc := by
  rw [quoted.eq_def l i, dif_pos h, if_neg hc]
theorem quoted_pair {l : List UInt8} {i : Nat} {acc : List UInt8} (h : i + 1 < l.length) (hc : l[i].toNat = 39) (hd : l[i + 1].toNat = 39) : quoted l (i + 2) (acc ++ [l[i + 1]]) = quoted l i acc := by
  rw [quoted.eq_def l i, dif_pos (by omega), if_pos hc, dif_pos h, if_pos hd]
theorem quoted_last {l : List UInt8} {i : Nat} {acc : List UInt8} (h : i < l.length) (hc : l[i].toNat = 39) (h1 : ¬ i + 1 < l.length) : quoted l i acc = (acc, i + 1, true) := by
  rw [quoted.eq_def l i, dif_pos h, if_pos hc, dif_neg h1]
theorem quoted_close {l : List UInt8} {i : Nat} {acc : List UInt8} (h : i + 1 < l.length) (hc : l[i].toNat = 39) (hd : l[i + 1].toNat ≠ 39) : quoted l i acc = (acc, i + 1, true) := by
  rw [quoted.eq_def l i, dif_pos (by omega), if_pos hc, dif_pos h, if_neg hd]
theorem quoted_open {l : List UInt8} {i : Nat} {acc : List UInt8} (h : l.length ≤ i) : quoted l i acc = ([], 0, false) := by
  rw [quoted.eq_def l i, dif_neg (by omega)]


/-- what a digit to the base 16 is worth; -1: it is none -/
def hex (c : UInt8) : Int :=
  if digit c = true then (c.toNat : Int) - 48 else if 97 ≤ c.toNat ∧ c.toNat ≤ 102 then (c.toNat : Int) - 87 else if 65 ≤ c.toNat ∧ c.toNat ≤ 70 then (c.toNat : Int) - 55 else -1
/-- the bytes between the places i and e, two digits each; nothing where one is none -/
def pairs (l : List UInt8) (i e : Nat) (acc : List UInt8) : Option (List UInt8) :=
  if i < e then
    (if hex (l.getD i 0) < 0 ∨ hex (l.getD (i + 1) 0) < 0 then none
     else pairs l (i + 2) e (acc ++ [UInt8.ofNat ((hex (l.getD i 0)).toNat * 16 + (hex (l.getD (i + 1) 0)).toNat)]))
  else some acc
termination_by e - i

/-- the bytes of a blob whose first quote stands at a place, where it ends, and whether it is one -/
def blob (l : List UInt8) (i : Nat) : List UInt8 × Nat × Bool :=
  let n := Lib.indexByte (l.drop (i + 1)) 39
  if n < 0 ∨ n % 2 = 1 then ([], 0, false)
  else match pairs l (i + 1) (i + 1 + n.toNat) [] with
    | none => ([], 0, false)
    | some b => (b, i + n.toNat + 2, true)
theorem blob_none {l : List UInt8} {i : Nat} (h : Lib.indexByte (l.drop (i + 1)) 39 < 0 ∨ Lib.indexByte (l.drop (i + 1)) 39 % 2 = 1) : blob l i = ([], 0, false) := by
  unfold blob; simp only; rw [if_pos h]
theorem blob_bad {l : List UInt8} {i : Nat} (h : ¬ (Lib.indexByte (l.drop (i + 1)) 39 < 0 ∨ Lib.indexByte (l.drop (i + 1)) 39 % 2 = 1))
    (hp : pairs l (i + 1) (i + 1 + (Lib.indexByte (l.drop (i + 1)) 39).toNat) [] = none) : blob l i = ([], 0, false) := by
  unfold blob; simp only; rw [if_neg h, hp]
theorem blob_some {l b : List UInt8} {i : Nat} (h : ¬ (Lib.indexByte (l.drop (i + 1)) 39 < 0 ∨ Lib.indexByte (l.drop (i + 1)) 39 % 2 = 1))
    (hp : pairs l (i + 1) (i + 1 + (Lib.indexByte (l.drop (i + 1)) 39).toNat) [] = some b) : blob l i = (b, i + (Lib.indexByte (l.drop (i + 1)) 39).toNat + 2, true) := by
  unfold blob; simp only; rw [if_neg h, hp]


/-- are two bytes a sign, is a byte one -/
def pair (a b : UInt8) : Bool := decide ([a, b] ∈ ([[124, 124], [61, 61], [60, 62], [33, 61], [60, 61], [62, 61]] : List (List UInt8)))
def single (c : UInt8) : Bool := decide (0 ≤ Lib.indexByte [40, 41, 44, 59, 46, 42, 43, 45, 47, 37, 61, 60, 62] c)
/-- how long a sign is that begins at a place; 0: there is none -/
def sign (l : List UInt8) (i : Nat) : Nat :=
  if i + 1 < l.length ∧ pair (l.getD i 0) (l.getD (i + 1) 0) = true then 2 else if single (l.getD i 0) = true then 1 else 0
theorem sign_le (l : List UInt8) (i : Nat) (h : i < l.length) : i + sign l i ≤ l.length := by
  unfold sign
  split
  · omega
  · split <;> omega

theorem runEnd_le (p : UInt8 → Bool) (l : List UInt8) (i : Nat) (h : i ≤ l.length) : i ≤ runEnd p l i ∧ runEnd p l i ≤ l.length := by
  induction hn : l.length - i generalizing i with
  | zero => rw [runEnd_end (by omega)]; omega
  | succ n ih =>
    have hlt : i < l.length := by omega
    by_cases hp : p l[i] = true
    · have := ih (i + 1) (by omega) (by omega)
      rw [runEnd_step hlt hp] at this
      omega
    · rw [runEnd_stop hlt (by simpa using hp)]; omega

/-- a piece of a text -/
def cut (l : List UInt8) (i e : Nat) : List UInt8 := (l.drop i).take (e - i)

/-- a token: its kind, its place, what it says -/
structure T where
  kind : Nat
  at_ : Nat
  text : List UInt8
deriving DecidableEq

/-- the token that begins at a place, where it ends, and whether there is one -/
def one (l : List UInt8) (i : Nat) : T × Nat × Bool :=
  if (l.getD i 0).toNat = 39 then (⟨3, i, (quoted l (i + 1) []).1⟩, (quoted l (i + 1) []).2.1, (quoted l (i + 1) []).2.2)
  else if ((l.getD i 0).toNat = 120 ∨ (l.getD i 0).toNat = 88) ∧ i + 1 < l.length ∧ (l.getD (i + 1) 0).toNat = 39 then (⟨4, i, (blob l (i + 1)).1⟩, (blob l (i + 1)).2.1, (blob l (i + 1)).2.2)
  else if (l.getD i 0).toNat = 63 then (⟨5, i, cut l (i + 1) (runEnd digit l (i + 1))⟩, runEnd digit l (i + 1), true)
  else if letter (l.getD i 0) = true then (⟨1, i, cut l i (runEnd word l i)⟩, runEnd word l i, decide (i < runEnd word l i))
  else if digit (l.getD i 0) = true then (⟨2, i, cut l i (runEnd digit l i)⟩, runEnd digit l i, decide (i < runEnd digit l i))
  else (⟨6, i, cut l i (i + sign l i)⟩, i + sign l i, decide (i < i + sign l i))


end Go.Proofs.YtmkgalcojoeniaaGreatDoor.Tok

/-! The tokens of a whole text, in plain Lean. -/
namespace Go.Proofs.YtmkgalcojoeniaaGreatDoor.Tok

theorem skip_ge (l : List UInt8) (i : Nat) : i ≤ skip l i := by
  induction hn : l.length - i using Nat.strongRecOn generalizing i with
  | _ n ih =>
    rw [skip]
    split
    · rename_i h
      split
      · have := ih (l.length - (i + 1)) (by omega) (i + 1) rfl; omega
      · split
        · split
          · omega
          · have := ih (l.length - (i + ((Lib.indexByte (l.drop i) 10).toNat + 1))) (by omega) _ rfl; omega
        · omega
    · omega
theorem quoted_end (l : List UInt8) (i : Nat) (acc : List UInt8) (h : (quoted l i acc).2.2 = true) : i < (quoted l i acc).2.1 ∧ (quoted l i acc).2.1 ≤ l.length := by
  induction hn : l.length - i using Nat.strongRecOn generalizing i acc with
  | _ n ih =>
    by_cases hi : i < l.length
    · by_cases hc : l[i].toNat = 39
      · by_cases h1 : i + 1 < l.length
        · by_cases hd : l[i + 1].toNat = 39
          · rw [← quoted_pair h1 hc hd] at h ⊢
            have := ih _ (by omega) (i + 2) _ h rfl
            omega
          · rw [quoted_close h1 hc hd]; simp; omega
        · rw [quoted_last hi hc h1]; simp; omega
      · rw [← quoted_byte hi hc] at h ⊢
        have := ih _ (by omega) (i + 1) _ h rfl
        omega
    · rw [quoted_open (by omega)] at h; simp at h

theorem blob_end (l : List UInt8) (i : Nat) (h : (blob l i).2.2 = true) : i < (blob l i).2.1 ∧ (blob l i).2.1 ≤ l.length := by
  have hj := indexByte_lt (l.drop (i + 1)) 39
  rw [List.length_drop] at hj
  by_cases hb : Lib.indexByte (l.drop (i + 1)) 39 < 0 ∨ Lib.indexByte (l.drop (i + 1)) 39 % 2 = 1
  · rw [blob_none hb] at h; simp at h
  · cases hp : pairs l (i + 1) (i + 1 + (Lib.indexByte (l.drop (i + 1)) 39).toNat) [] with
    | none => rw [blob_bad hb hp] at h; simp at h
    | some b => rw [blob_some hb hp]; simp; omega

theorem one_end (l : List UInt8) (i : Nat) (hi : i < l.length) (h : (one l i).2.2 = true) : i < (one l i).2.1 ∧ (one l i).2.1 ≤ l.length := by
  have r1 := runEnd_le digit l (i + 1) hi
  have r2 := runEnd_le word l i (by omega)
  have r3 := runEnd_le digit l i (by omega)
  have r4 := sign_le l i hi
  unfold one at h ⊢
  split
  · rename_i hc; rw [if_pos hc] at h; have := quoted_end _ _ _ h; simp only at this ⊢; omega
  · rename_i hc
    rw [if_neg hc] at h
    split
    · rename_i hc; rw [if_pos hc] at h; have := blob_end _ _ h; simp only at this ⊢; omega
    · rename_i hc
      rw [if_neg hc] at h
      split
      · simp only; omega
      · rename_i hc
        rw [if_neg hc] at h
        split
        · rename_i hc; rw [if_pos hc] at h; simp at h ⊢; omega
        · rename_i hc
          rw [if_neg hc] at h
          split
          · rename_i hc; rw [if_pos hc] at h; simp at h ⊢; omega
          · rename_i hc; rw [if_neg hc] at h; simp at h ⊢; omega

/-- the tokens from a place on, each with where it ends, and the first place that is wrong -/
def toks (l : List UInt8) (i : Nat) : List (T × Nat) × Option Nat :=
  if _h : skip l i < l.length then
    (if _h' : (one l (skip l i)).2.2 = true then
      (((one l (skip l i)).1, (one l (skip l i)).2.1) :: (toks l (one l (skip l i)).2.1).1, (toks l (one l (skip l i)).2.1).2)
     else ([], some (skip l i)))
  else ([], none)
termination_by l.length - i
decreasing_by
  all_goals
    have h1 := skip_ge l i
    have h2 := one_end l (skip l i) _h _h'
    omega

/-- Scan: the tokens, the place of a fault, the error's number -/
def scan (l : List UInt8) : List T × Nat × Nat :=
  if 2000 < l.length then ([], 0, 3)
  else match (toks l 0).2 with
    | none => ((toks l 0).1.map (·.1), 0, 0)
    | some b => ([], b, 250)
end Go.Proofs.YtmkgalcojoeniaaGreatDoor.Tok

/-! Texts folded, quotes and digits taken back, in plain Lean: what the reference of layer 2 does with the bytes of a text. -/
namespace Go.Proofs.YtmkgalcojoeniaaGreatDoor.Txt

/-- a byte, A to Z as a to z -/
def lower (c : UInt8) : UInt8 := if 65 ≤ c.toNat ∧ c.toNat ≤ 90 then UInt8.ofNat (c.toNat + 32) else c
theorem lower_up {c : UInt8} (h : 65 ≤ c.toNat ∧ c.toNat ≤ 90) : (lower c).toNat = c.toNat + 32 := by
  rw [lower, if_pos h, UInt8.toNat_ofNat']; omega
theorem lower_no {c : UInt8} (h : ¬ (65 ≤ c.toNat ∧ c.toNat ≤ 90)) : lower c = c := by rw [lower, if_neg h]

/-- what a small digit to the base 16 is worth; -1: it is none -/
def nib (c : UInt8) : Int := if 48 ≤ c.toNat ∧ c.toNat ≤ 57 then (c.toNat : Int) - 48 else if 97 ≤ c.toNat ∧ c.toNat ≤ 102 then (c.toNat : Int) - 87 else -1
theorem nib_le (c : UInt8) : -1 ≤ nib c ∧ nib c ≤ 15 := by
  unfold nib
  split
  · omega
  · split <;> omega

/-- without the blanks at its end -/
def rtrim (l : List UInt8) : List UInt8 := (l.reverse.dropWhile fun c => decide (c.toNat = 32)).reverse
theorem rtrim_nil : rtrim [] = [] := rfl
theorem rtrim_blank (l : List UInt8) (c : UInt8) (h : c.toNat = 32) : rtrim (l ++ [c]) = rtrim l := by simp [rtrim, h]
theorem rtrim_other (l : List UInt8) (c : UInt8) (h : c.toNat ≠ 32) : rtrim (l ++ [c]) = l ++ [c] := by simp [rtrim, h]

/-- a text as a collation takes it -/
def fold (l : List UInt8) (c : Int) : List UInt8 := if c = 2 then rtrim l else if c = 1 then l.map lower else l

/-- the bytes between the quotes of a text's literal; false: there are none -/
def unq : List UInt8 → List UInt8 → List UInt8 × Bool
  | [], acc => (acc, true)
  | [c], acc => if c.toNat = 39 then ([], false) else (acc ++ [c], true)
  | c :: d :: r, acc => if c.toNat = 39 then (if d.toNat = 39 then unq r (acc ++ [d]) else ([], false)) else unq (d :: r) (acc ++ [c])
/-- the bytes of a blob's digits; false: there are none -/
def unhex : List UInt8 → List UInt8 → List UInt8 × Bool
  | [], acc => (acc, true)
  | [_], _ => ([], false)
  | c :: d :: r, acc => if nib c < 0 ∨ nib d < 0 then ([], false) else unhex r (acc ++ [UInt8.ofNat ((nib c).toNat * 16 + (nib d).toNat)])
theorem unhex_pair {c d : UInt8} (r acc : List UInt8) (h : 0 ≤ nib c) (hd : 0 ≤ nib d) : unhex (c :: d :: r) acc = unhex r (acc ++ [UInt8.ofNat ((nib c).toNat * 16 + (nib d).toNat)]) := by
  rw [unhex, if_neg (by omega)]
theorem unhex_bad {c d : UInt8} (r acc : List UInt8) (h : nib c < 0 ∨ nib d < 0) : unhex (c :: d :: r) acc = ([], false) := by
  rw [unhex, if_pos h]

/-- the reference's Bytes -/
def bytes (l : List UInt8) (blob : Bool) : List UInt8 × Bool := if blob = true then unhex l [] else unq l []

end Go.Proofs.YtmkgalcojoeniaaGreatDoor.Txt

/-! The reference's way through the tokens, in plain Lean: the same places, the same texts. -/
namespace Go.Proofs.YtmkgalcojoeniaaGreatDoor.Tok
open Txt (lower nib unq unhex)

/-- a byte that is not d -/
def non (d c : UInt8) : Bool := decide (c.toNat ≠ d.toNat)

/-- a place, or -1 -/
def fin (q : Nat × Bool) : Int := if q.2 = true then (q.1 : Int) else -1

/-- the bytes that a token's text says -/
def rtext (k : Nat) (l : List UInt8) : List UInt8 :=
  if k = 3 then (unq (cut l 1 (l.length - 1)) []).1
  else if k = 4 then (unhex ((cut l 2 (l.length - 1)).map lower) []).1
  else if k = 5 then l.drop 1
  else l

end Go.Proofs.YtmkgalcojoeniaaGreatDoor.Tok

/-! The token that begins at a place, as the reference finds it, in plain Lean. -/
namespace Go.Proofs.YtmkgalcojoeniaaGreatDoor.Tok

/-- is it a blob's beginning -/
abbrev isBlob (l : List UInt8) (i : Nat) : Prop := ((l.getD i 0).toNat = 120 ∨ (l.getD i 0).toNat = 88) ∧ i + 1 < l.length ∧ (l.getD (i + 1) 0).toNat = 39

end Go.Proofs.YtmkgalcojoeniaaGreatDoor.Tok

/-! Tokens written, in plain Lean: what Print answers. -/
namespace Go.Proofs.YtmkgalcojoeniaaGreatDoor.Tok

/-- quotes twice -/
def dbl : List UInt8 → List UInt8
  | [] => []
  | c :: r => if c.toNat = 39 then 39 :: 39 :: dbl r else c :: dbl r
theorem dbl_quote {c : UInt8} (r : List UInt8) (h : c.toNat = 39) : dbl (c :: r) = 39 :: 39 :: dbl r := by rw [dbl, if_pos h]
theorem dbl_byte {c : UInt8} (r : List UInt8) (h : c.toNat ≠ 39) : dbl (c :: r) = c :: dbl r := by rw [dbl, if_neg h]
theorem dbl_len (l : List UInt8) : (dbl l).length ≤ 2 * l.length := by
  induction l with
  | nil => simp [dbl]
  | cons c r ih => rw [dbl]; split <;> simp only [List.length_cons] <;> omega
theorem dbl_append (a b : List UInt8) : dbl (a ++ b) = dbl a ++ dbl b := by
  induction a with
  | nil => rfl
  | cons c r ih => rw [List.cons_append, dbl, dbl, ih]; split <;> rfl

theorem replaceK_dbl (l : List UInt8) : Lib.replaceK [39] [39, 39] (Lib.count l [39]) l = dbl l := by
  induction l with
  | nil => rw [Lib.count_miss (by simp [Lib.index])]; rfl
  | cons b r ih =>
    by_cases hb : b = 39
    · subst hb
      rw [Lib.count_cons_eq, Nat.add_comm, Lib.replaceK_hit _ _ _ _ 0 (by rw [Lib.index]; simp [List.isPrefixOf])]
      simp [dbl, ih]
    · rw [Lib.count_cons_ne _ _ _ hb]
      have hd : dbl (b :: r) = b :: dbl r := dbl_byte r (fun h => hb (UInt8.toNat_inj.1 h))
      rw [hd, ← ih]
      cases hk : Lib.count r [39] with
      | zero => rfl
      | succ k =>
        obtain ⟨i, hi⟩ := Lib.index_of_count (s := r) (old := [39]) (by omega)
        have hi' : Lib.index (b :: r) [39] = ((i + 1 : Nat) : Int) := by
          have hp : ([39] : List UInt8).isPrefixOf (b :: r) = false := by simp [List.isPrefixOf]; exact fun h => hb h.symm
          rw [Lib.index, hp, hi]
          have : ¬ ((i : Int) = -1) := by omega
          simp [this]
        rw [Lib.replaceK_hit _ _ _ _ _ hi', Lib.replaceK_hit _ _ _ _ _ hi]
        simp
theorem replaceAll_dbl (l : List UInt8) : Lib.replaceAll l [39] [39, 39] = dbl l := by
  rw [Lib.replaceAll, Lib.replace, if_neg (by decide), Lib.replaceNum, if_pos (by omega)]
  exact replaceK_dbl l

/-- a small digit to the base 16 -/
def dig (n : Nat) : UInt8 := if n < 10 then UInt8.ofNat (48 + n) else UInt8.ofNat (87 + n)
/-- bytes as digits -/
def hexs : List UInt8 → List UInt8
  | [] => []
  | c :: r => dig (c.toNat / 16) :: dig (c.toNat % 16) :: hexs r
theorem hexs_len (l : List UInt8) : (hexs l).length = 2 * l.length := by
  induction l with
  | nil => rfl
  | cons c r ih => simp only [hexs, List.length_cons]; omega
theorem hexs_append (a b : List UInt8) : hexs (a ++ b) = hexs a ++ hexs b := by
  induction a with
  | nil => rfl
  | cons c r ih => rw [List.cons_append, hexs, hexs, ih]; rfl

/-- a token's text, or nothing -/
def written (k : Int) (t : List UInt8) : Option (List UInt8) :=
  if k = 3 then some (39 :: (dbl t ++ [39]))
  else if k = 4 then some (120 :: 39 :: (hexs t ++ [39]))
  else if k = 5 then (if runEnd digit t 0 = t.length then some (63 :: t) else none)
  else if k = 1 ∨ k = 2 ∨ k = 6 then (if t ≠ [] ∧ (one t 0).2.2 = true ∧ (one t 0).2.1 = t.length ∧ ((one t 0).1.kind : Int) = k then some t else none)
  else none
/-- a token that is given: of any kind, at any place -/
structure G where
  kind : Int
  at_ : Int
  text : List UInt8

/-- all texts, or nothing -/
def wall : List G → Option (List (List UInt8))
  | [] => some []
  | g :: r => match written g.kind g.text, wall r with
    | some w, some ws => some (w :: ws)
    | _, _ => none
/-- Print: the text and the error's number -/
def print (l : List G) : List UInt8 × Nat := match wall l with
  | some ws => (Lib.join ws [32], 0)
  | none => ([], 2)
end Go.Proofs.YtmkgalcojoeniaaGreatDoor.Tok

/-! Values written and read, in plain Lean. -/
namespace Go.Proofs.YtmkgalcojoeniaaGreatDoor.Val
open Tok (dbl hexs dig cut)

structure V where
  kind : Int
  int : Int
  text : List UInt8
deriving DecidableEq
def zero : V := ⟨0, 0, []⟩

/-- may a value be -/
def may (v : V) : Bool := decide (v.kind = 0 ∧ v.int = 0 ∧ v.text = [] ∨ v.kind = 1 ∧ v.text = [] ∨ (v.kind = 2 ∨ v.kind = 3) ∧ v.int = 0 ∧ v.text.length ≤ 400)
/-- a value's literal, and the error's number -/
def print (v : V) : List UInt8 × Nat :=
  if may v = true then
    (if v.kind = 0 then ([78, 85, 76, 76], 0) else if v.kind = 1 then (Lib.itoa v.int, 0)
     else if v.kind = 2 then (39 :: (dbl v.text ++ [39]), 0) else (120 :: 39 :: (hexs v.text ++ [39]), 0))
  else ([], 2)
theorem print_no {v : V} (h : may v = false) : print v = ([], 2) := by rw [print, if_neg (by rw [h]; decide)]
theorem print_null {v : V} (h : may v = true) (hk : v.kind = 0) : print v = ([78, 85, 76, 76], 0) := by rw [print, if_pos h, if_pos hk]
theorem print_int {v : V} (h : may v = true) (hk : v.kind = 1) : print v = (Lib.itoa v.int, 0) := by rw [print, if_pos h, if_neg (by omega), if_pos hk]
theorem print_text {v : V} (h : may v = true) (hk : v.kind = 2) : print v = (39 :: (dbl v.text ++ [39]), 0) := by rw [print, if_pos h, if_neg (by omega), if_neg (by omega), if_pos hk]
theorem print_blob {v : V} (h : may v = true) (hk : v.kind = 3) : print v = (120 :: 39 :: (hexs v.text ++ [39]), 0) := by rw [print, if_pos h, if_neg (by omega), if_neg (by omega), if_neg (by omega)]
theorem may_iff {v : V} : may v = true ↔ (v.kind = 0 ∧ v.int = 0 ∧ v.text = [] ∨ v.kind = 1 ∧ v.text = [] ∨ (v.kind = 2 ∨ v.kind = 3) ∧ v.int = 0 ∧ v.text.length ≤ 400) := decide_eq_true_iff
theorem itoa_len (n : Int) (h0 : -9223372036854775808 ≤ n) (h1 : n ≤ 9223372036854775807) : (Lib.itoa n).length ≤ 21 := by
  have key : ∀ u : Nat, u < 10 ^ 20 → (Lib.decDigits u).length ≤ 20 := by
    have step : ∀ (k u : Nat), u < 10 ^ (k + 1) → (Lib.decDigits u).length ≤ k + 1 := by
      intro k
      induction k with
      | zero => intro u hu; rw [Lib.decDigits, dif_pos (by simpa using hu)]; simp
      | succ k ih =>
        intro u hu
        by_cases h : u < 10
        · rw [Lib.decDigits, dif_pos h]; simp
        · rw [Lib.decDigits, dif_neg h]
          have := ih (u / 10) (by rw [Nat.pow_succ] at hu; omega)
          simp; omega
    exact fun u hu => step 19 u hu
  unfold Lib.itoa
  split
  · have := key n.natAbs (by omega)
    simp; omega
  · have := key n.toNat (by omega)
    omega

/-- the value that a text may be the literal of -/
def guess (s : List UInt8) : V :=
  match Lib.parseIntB 64 s with
  | .ok n => ⟨1, n, []⟩
  | _ =>
    if 2 ≤ s.length ∧ (s.getD 0 0).toNat = 39 then ⟨2, 0, Lib.replaceAll (cut s 1 (s.length - 1)) [39, 39] [39]⟩
    else if 3 ≤ s.length ∧ (s.getD 0 0).toNat = 120 ∧ (Txt.unhex (cut s 2 (s.length - 1)) []).2 = true then ⟨3, 0, (Txt.unhex (cut s 2 (s.length - 1)) []).1⟩
    else zero
theorem guess_ok {s : List UInt8} {n : Int} (h : Lib.parseIntB 64 s = .ok n) : guess s = ⟨1, n, []⟩ := by unfold guess; rw [h]
theorem guess_else {s : List UInt8} (h : ∀ n, Lib.parseIntB 64 s ≠ .ok n) : guess s = if 2 ≤ s.length ∧ (s.getD 0 0).toNat = 39 then ⟨2, 0, Lib.replaceAll (cut s 1 (s.length - 1)) [39, 39] [39]⟩
    else if 3 ≤ s.length ∧ (s.getD 0 0).toNat = 120 ∧ (Txt.unhex (cut s 2 (s.length - 1)) []).2 = true then ⟨3, 0, (Txt.unhex (cut s 2 (s.length - 1)) []).1⟩
    else zero := by
  unfold guess
  split
  · rename_i n hn; exact absurd hn (h n)
  · rfl
/-- the value of a literal, and the error's number -/
def read (s : List UInt8) : V × Nat :=
  if 1000 < s.length then (zero, 3)
  else if (print (guess s)).2 = 0 ∧ (print (guess s)).1 = s then (guess s, 0) else (zero, 120)

end Go.Proofs.YtmkgalcojoeniaaGreatDoor.Val

/-! What the guess of a text's value holds, in plain Lean. -/
namespace Go.Proofs.YtmkgalcojoeniaaGreatDoor.Val

theorem replaceK_len (old new : List UInt8) : ∀ (k : Nat) (s : List UInt8), (Lib.replaceK old new k s).length ≤ s.length + k * new.length
  | 0, s => by simp [Lib.replaceK]
  | k + 1, s => by
    rw [Lib.replaceK]
    split
    · omega
    · have := replaceK_len old new k (s.drop ((Lib.index s old).toNat + old.length))
      rw [List.length_append, List.length_append, List.length_take, Nat.add_mul, Nat.one_mul]
      rw [List.length_drop] at this
      omega
theorem replaceAll_len (s old new : List UInt8) : (Lib.replaceAll s old new).length ≤ s.length + (s.length + 1) * new.length := by
  rw [Lib.replaceAll, Lib.replace]
  split
  · omega
  · have h1 := replaceK_len old new (Lib.replaceNum s old (-1)) s
    have h2 : Lib.replaceNum s old (-1) ≤ s.length + 1 := by
      rw [Lib.replaceNum, if_pos (by omega)]; exact Lib.count_le s old
    have h3 : Lib.replaceNum s old (-1) * new.length ≤ (s.length + 1) * new.length := Nat.mul_le_mul_right _ h2
    omega
theorem unhex_len : ∀ (l acc : List UInt8), (Txt.unhex l acc).1.length ≤ acc.length + l.length
  | [], acc => by simp [Txt.unhex]
  | [_], acc => by simp [Txt.unhex]
  | c :: d :: r, acc => by
    rw [Txt.unhex]
    split
    · simp
    · have := unhex_len r (acc ++ [UInt8.ofNat ((Txt.nib c).toNat * 16 + (Txt.nib d).toNat)])
      simp at this ⊢; omega
theorem guess_fits (s : List UInt8) : (guess s).text.length ≤ 2 * s.length + 1 ∧ -9223372036854775808 ≤ (guess s).int ∧ (guess s).int ≤ 9223372036854775807 := by
  by_cases hok : ∃ n, Lib.parseIntB 64 s = .ok n
  · obtain ⟨n, hn⟩ := hok
    rw [guess_ok hn]
    refine ⟨by simp, ?_⟩
    simp only
    unfold Lib.parseIntB at hn
    split at hn
    · cases hn
    · simp only at hn
      split at hn
      · cases hn
      · cases hn
      · rename_i u _
        split at hn
        · cases hn
        · split at hn
          · cases hn
          · rename_i h1 h2
            cases hn
            split <;> simp_all <;> omega
  · have h : ∀ n, Lib.parseIntB 64 s ≠ .ok n := fun n hn => hok ⟨n, hn⟩
    rw [guess_else h]
    have hc : ∀ i e, (Tok.cut s i e).length ≤ s.length := fun i e => by simp [Tok.cut]; omega
    split
    · refine ⟨?_, by simp, by simp⟩
      have h1 := replaceAll_len (Tok.cut s 1 (s.length - 1)) [39, 39] [39]
      have h2 := hc 1 (s.length - 1)
      simp only [List.length_cons, List.length_nil] at h1 ⊢
      omega
    · split
      · refine ⟨?_, by simp, by simp⟩
        have h1 := unhex_len (Tok.cut s 2 (s.length - 1)) []
        have h2 := hc 2 (s.length - 1)
        simp only [List.length_nil] at h1 ⊢
        omega
      · simp [zero]

end Go.Proofs.YtmkgalcojoeniaaGreatDoor.Val

/-! A value that is written is read as itself, in plain Lean. -/
namespace Go.Proofs.YtmkgalcojoeniaaGreatDoor.Val
open Tok (dbl hexs dig cut)

theorem parse_first {c : UInt8} {r : List UInt8} (h : ¬ (48 ≤ c.toNat ∧ c.toNat ≤ 57)) (h1 : c.toNat ≠ 43) (h2 : c.toNat ≠ 45) : ∀ n, Lib.parseIntB 64 (c :: r) ≠ .ok n := by
  intro n hn
  unfold Lib.parseIntB at hn
  simp only [h1, h2, or_self, if_false] at hn
  unfold Lib.parseUintB at hn
  rw [if_neg (by simp), Lib.parseUintM, if_neg h] at hn
  simp at hn

theorem parseM_snoc (M : Nat) (c : UInt8) (hc : 48 ≤ c.toNat ∧ c.toNat ≤ 57) : ∀ (l : List UInt8) (acc a : Nat), Lib.parseUintM M acc l = .ok a → a < 1844674407370955162 → a * 10 + (c.toNat - 48) ≤ M → Lib.parseUintM M acc (l ++ [c]) = .ok (a * 10 + (c.toNat - 48))
  | [], acc, a, h, h1, h2 => by
    rw [Lib.parseUintM] at h
    cases h
    rw [List.nil_append, Lib.parseUintM, if_pos hc, if_neg (by omega), if_neg (by omega), Lib.parseUintM]
  | d :: l, acc, a, h, h1, h2 => by
    rw [Lib.parseUintM] at h
    rw [List.cons_append, Lib.parseUintM]
    split at h
    · rename_i hd
      rw [if_pos hd]
      split at h
      · cases h
      · rename_i h3
        rw [if_neg h3]
        split at h
        · cases h
        · rename_i h4
          rw [if_neg h4]
          exact parseM_snoc M c hc l _ a h h1 h2
    · cases h

theorem digit_nat {d : Nat} (h : d < 10) : (UInt8.ofNat (48 + d)).toNat = 48 + d := by rw [UInt8.toNat_ofNat']; omega
theorem parseM_digits (M : Nat) (hM : M ≤ 18446744073709551615) : ∀ u, u ≤ M → Lib.parseUintM M 0 (Lib.decDigits u) = .ok u := by
  intro u
  induction u using Nat.strongRecOn with
  | _ u ih =>
    intro hu
    by_cases h : u < 10
    · have hd := digit_nat h
      rw [Lib.decDigits, dif_pos h, Lib.parseUintM, if_pos (by omega), if_neg (by omega), if_neg (by omega), Lib.parseUintM, hd]
      congr 1; omega
    · have hd := digit_nat (show u % 10 < 10 by omega)
      rw [Lib.decDigits, dif_neg h]
      have := parseM_snoc M (UInt8.ofNat (48 + u % 10)) (by omega) (Lib.decDigits (u / 10)) 0 (u / 10) (ih (u / 10) (by omega) (by omega)) (by omega) (by omega)
      rw [this, hd]
      congr 1; omega
theorem dec_first (u : Nat) : ∃ c r, Lib.decDigits u = c :: r ∧ 48 ≤ c.toNat ∧ c.toNat ≤ 57 := by
  induction u using Nat.strongRecOn with
  | _ u ih =>
    by_cases h : u < 10
    · have hd := digit_nat h
      exact ⟨_, [], by rw [Lib.decDigits, dif_pos h], by omega, by omega⟩
    · obtain ⟨c, r, e, h1, h2⟩ := ih (u / 10) (by omega)
      exact ⟨c, r ++ [UInt8.ofNat (48 + u % 10)], by rw [Lib.decDigits, dif_neg h, e]; rfl, h1, h2⟩
theorem parse_itoa (n : Int) (h0 : -9223372036854775808 ≤ n) (h1 : n ≤ 9223372036854775807) : Lib.parseIntB 64 (Lib.itoa n) = .ok n := by
  unfold Lib.itoa
  by_cases hn : n < 0
  · rw [if_pos hn]
    obtain ⟨c, r, e, _⟩ := dec_first n.natAbs
    have hp := parseM_digits (2 ^ 64 - 1) (by decide) n.natAbs (by omega)
    unfold Lib.parseIntB Lib.parseUintB
    simp only [show (45 : UInt8).toNat = 45 from rfl, or_true, if_true]
    rw [if_neg (by rw [e]; simp), hp]
    simp only [not_true, false_and, if_false, true_and]
    rw [if_neg (by omega)]
    congr 1; omega
  · rw [if_neg hn]
    obtain ⟨c, r, e, h2, h3⟩ := dec_first n.toNat
    have hp := parseM_digits (2 ^ 64 - 1) (by decide) n.toNat (by omega)
    rw [e] at hp ⊢
    unfold Lib.parseIntB Lib.parseUintB
    have c2 : ¬ c.toNat = 45 := by omega
    have c3 : ¬ c.toNat = 43 := by omega
    simp only [c2, c3, or_self, if_false]
    rw [if_neg (by simp), hp]
    simp only [not_false_eq_true, true_and, false_and, if_false]
    rw [if_neg (by omega)]
    congr 1; omega

/-- quotes taken back -/
theorem index_two (l : List UInt8) (b : UInt8) : Lib.index (b :: l) [39, 39] = if ([39, 39] : List UInt8).isPrefixOf (b :: l) then 0 else if Lib.index l [39, 39] = -1 then -1 else Lib.index l [39, 39] + 1 := by
  rw [Lib.index]
  split
  · rfl
  · simp only [beq_iff_eq]
theorem replaceK_undbl (l : List UInt8) : Lib.replaceK [39, 39] [39] (Lib.count (dbl l) [39, 39]) (dbl l) = l := by
  induction l with
  | nil => rw [dbl, Lib.count_miss (by simp [Lib.index])]; rfl
  | cons c r ih =>
    by_cases hc : c.toNat = 39
    · have hcc : c = 39 := UInt8.toNat_inj.1 hc
      subst hcc
      rw [Tok.dbl_quote r hc]
      have hi : Lib.index (39 :: 39 :: dbl r) [39, 39] = ((0 : Nat) : Int) := by rw [index_two, if_pos (by simp [List.isPrefixOf])]; rfl
      rw [Lib.count_hit (by simp) hi, Nat.add_comm, Lib.replaceK_hit _ _ _ _ 0 hi]
      simp only [List.length_cons, List.length_nil, Nat.zero_add, List.drop_succ_cons, List.drop_zero, List.take_zero, List.nil_append]
      rw [ih]; rfl
    · rw [Tok.dbl_byte r hc]
      have hp : ([39, 39] : List UInt8).isPrefixOf (c :: dbl r) = false := by
        have : ¬ (39 : UInt8) = c := fun h => hc (by rw [← h]; rfl)
        simp [List.isPrefixOf, this]
      by_cases hm : Lib.index (dbl r) [39, 39] = -1
      · have hi : Lib.index (c :: dbl r) [39, 39] = -1 := by rw [index_two, hp, if_neg (by simp), if_pos hm]
        rw [Lib.count_miss hm] at ih
        rw [Lib.count_miss hi]
        rw [Lib.replaceK] at ih ⊢
        rw [ih]
      · have hge := Lib.index_ge (dbl r) [39, 39]
        obtain ⟨j, hj⟩ : ∃ j : Nat, Lib.index (dbl r) [39, 39] = j := ⟨(Lib.index (dbl r) [39, 39]).toNat, by omega⟩
        have hi : Lib.index (c :: dbl r) [39, 39] = ((j + 1 : Nat) : Int) := by rw [index_two, hp, if_neg (by simp), if_neg hm, hj]; rfl
        rw [Lib.count_hit (by simp) hj, Nat.add_comm, Lib.replaceK_hit _ _ _ _ j hj] at ih
        rw [Lib.count_hit (by simp) hi, Nat.add_comm, Lib.replaceK_hit _ _ _ _ (j + 1) hi]
        have e : (c :: dbl r).drop (j + 1 + ([39, 39] : List UInt8).length) = (dbl r).drop (j + ([39, 39] : List UInt8).length) := by
          simp only [List.length_cons, List.length_nil]
          rw [show j + 1 + (0 + 1 + 1) = (j + (0 + 1 + 1)) + 1 by omega, List.drop_succ_cons]
        rw [e, List.take_succ_cons, List.cons_append, List.cons_append, ih]
theorem undbl (l : List UInt8) : Lib.replaceAll (dbl l) [39, 39] [39] = l := by
  rw [Lib.replaceAll, Lib.replace, if_neg (by decide), Lib.replaceNum, if_pos (by omega)]
  exact replaceK_undbl l

theorem unhex_hexs (l acc : List UInt8) : Txt.unhex (hexs l) acc = (acc ++ l, true) := by
  induction l generalizing acc with
  | nil => simp [hexs, Txt.unhex]
  | cons c r ih =>
    have hd : ∀ m : Fin 16, Txt.nib (dig m.val) = (m.val : Int) := by decide
    have h1 := hd ⟨c.toNat / 16, by have := c.toNat_lt; omega⟩
    have h2 := hd ⟨c.toNat % 16, by omega⟩
    simp only at h1 h2
    rw [hexs, Txt.unhex_pair _ _ (by rw [h1]; omega) (by rw [h2]; omega), ih, h1, h2]
    have hx : UInt8.ofNat (((c.toNat / 16 : Nat) : Int).toNat * 16 + ((c.toNat % 16 : Nat) : Int).toNat) = c := by
      rw [Int.toNat_natCast, Int.toNat_natCast, show c.toNat / 16 * 16 + c.toNat % 16 = c.toNat by omega]
      exact UInt8.ofNat_toNat
    rw [hx]; simp

theorem cut_mid (a : List UInt8) (c : UInt8) (l : List UInt8) (i : Nat) (hi : a.length = i) : cut (a ++ (l ++ [c])) i ((a ++ (l ++ [c])).length - 1) = l := by
  subst hi
  rw [cut, List.drop_left]
  have : (a ++ (l ++ [c])).length - 1 - a.length = l.length := by simp only [List.length_append, List.length_cons, List.length_nil]; omega
  rw [this, List.take_left]

/-- the guess of a value's literal is the value -/
theorem guess_print {v : V} (h : may v = true) (h0 : -9223372036854775808 ≤ v.int) (h1 : v.int ≤ 9223372036854775807) : guess (print v).1 = v ∧ (print v).2 = 0 ∧ (print v).1.length ≤ 1000 := by
  have hm := may_iff.1 h
  obtain ⟨k, n, t⟩ := v
  simp only at hm h0 h1
  by_cases k0 : k = 0
  · subst k0
    rw [print_null h rfl]
    obtain ⟨rfl, rfl⟩ : n = 0 ∧ t = [] := by
      rcases hm with hh | hh | hh
      · exact ⟨hh.2.1, hh.2.2⟩
      · exact absurd hh.1 (by decide)
      · exact absurd hh.1 (by decide)
    have hg : guess [78, 85, 76, 76] = ⟨0, 0, []⟩ := by decide +kernel
    exact ⟨hg, rfl, by simp⟩
  by_cases k1 : k = 1
  · subst k1
    rw [print_int h rfl]
    obtain rfl : t = [] := by
      rcases hm with hh | hh | hh
      · exact absurd hh.1 (by decide)
      · exact hh.2
      · exact absurd hh.1 (by decide)
    have hl := itoa_len n h0 h1
    exact ⟨guess_ok (parse_itoa n h0 h1), rfl, by simp only; omega⟩
  obtain ⟨k23, rfl, ht⟩ : (k = 2 ∨ k = 3) ∧ n = 0 ∧ t.length ≤ 400 := by
    rcases hm with hh | hh | hh
    · exact absurd hh.1 k0
    · exact absurd hh.1 k1
    · exact hh
  by_cases k2 : k = 2
  · subst k2
    rw [print_text h rfl]
    have hl := Tok.dbl_len t
    refine ⟨?_, rfl, by simp; omega⟩
    simp only
    rw [guess_else (parse_first (by decide) (by decide) (by decide)), if_pos ⟨by simp, rfl⟩]
    have := cut_mid [39] 39 (dbl t) 1 rfl
    rw [show ([39] : List UInt8) ++ (dbl t ++ [39]) = 39 :: (dbl t ++ [39]) from rfl] at this
    rw [this, undbl]
  · obtain rfl : k = 3 := by omega
    rw [print_blob h rfl]
    have hl := Tok.hexs_len t
    refine ⟨?_, rfl, by simp; omega⟩
    simp only
    have := cut_mid [120, 39] 39 (hexs t) 2 rfl
    rw [show ([120, 39] : List UInt8) ++ (hexs t ++ [39]) = 120 :: 39 :: (hexs t ++ [39]) from rfl] at this
    rw [guess_else (parse_first (by decide) (by decide) (by decide)), if_neg (fun hh => absurd (show (120 : Nat) = 39 from hh.2) (by decide)), this, unhex_hexs, if_pos ⟨by simp, rfl, rfl⟩]
    rfl

/-- what is written is read as itself -/
theorem read_print {v : V} (h : may v = true) (h0 : -9223372036854775808 ≤ v.int) (h1 : v.int ≤ 9223372036854775807) : read (print v).1 = (v, 0) := by
  obtain ⟨e1, e2, e3⟩ := guess_print h h0 h1
  rw [read, if_neg (by omega), e1, if_pos ⟨e2, rfl⟩]
end Go.Proofs.YtmkgalcojoeniaaGreatDoor.Val

/-! How values and texts stand, in plain Lean. -/
namespace Go.Proofs.YtmkgalcojoeniaaGreatDoor.Val

/-- how two texts stand under a collation -/
def texts (a b : List UInt8) (c : Int) : Int := Lib.compareBytes (Txt.fold a c) (Txt.fold b c)
/-- how two values stand under a collation -/
def cmp (a b : V) (c : Int) : Int :=
  if may a = true ∧ may b = true then
    (if a.kind ≠ b.kind then Lib.compareInt a.kind b.kind
     else if a.kind = 2 then texts a.text b.text c
     else if a.int ≠ b.int then Lib.compareInt a.int b.int else Lib.compareBytes a.text b.text)
  else 0

theorem u8_lt {x y : UInt8} : x < y ↔ x.toNat < y.toNat := UInt8.lt_iff_toNat_lt
theorem u8_eq {x y : UInt8} : x = y ↔ x.toNat = y.toNat := UInt8.toNat_inj.symm

theorem cb_range (a b : List UInt8) : Lib.compareBytes a b = -1 ∨ Lib.compareBytes a b = 0 ∨ Lib.compareBytes a b = 1 := by
  induction a generalizing b with
  | nil => cases b <;> simp [Lib.compareBytes]
  | cons x a ih =>
    cases b with
    | nil => simp [Lib.compareBytes]
    | cons y b =>
      simp only [Lib.compareBytes]
      split
      · simp
      · split
        · simp
        · exact ih b
theorem cb_zero (a b : List UInt8) : Lib.compareBytes a b = 0 ↔ a = b := by
  induction a generalizing b with
  | nil => cases b <;> simp [Lib.compareBytes]
  | cons x a ih =>
    cases b with
    | nil => simp [Lib.compareBytes]
    | cons y b =>
      simp only [Lib.compareBytes, u8_lt, List.cons.injEq]
      split
      · simp [u8_eq]; omega
      · split
        · simp [u8_eq]; omega
        · rw [ih, u8_eq]
          constructor
          · intro h; exact ⟨by omega, h⟩
          · intro h; exact h.2
theorem less_cb (a b : List UInt8) : Op.bytesLess a b = decide (Lib.compareBytes a b = -1) := by
  induction a generalizing b with
  | nil => cases b <;> simp [Lib.compareBytes, Op.bytesLess]
  | cons x a ih =>
    cases b with
    | nil => simp [Lib.compareBytes, Op.bytesLess]
    | cons y b =>
      simp only [Lib.compareBytes, Op.bytesLess, u8_lt]
      by_cases h : x.toNat < y.toNat
      · simp [h]
      · by_cases h2 : y.toNat < x.toNat
        · have : ¬ x = y := by rw [u8_eq]; omega
          simp [h, h2, this]
        · have : x = y := by rw [u8_eq]; omega
          simp [this, ih]

end Go.Proofs.YtmkgalcojoeniaaGreatDoor.Val

/-! The reference's reading of a number is that of the number's text, in plain Lean. -/
namespace Go.Proofs.YtmkgalcojoeniaaGreatDoor.Val

/-- one digit more -/
def stepN (neg : Bool) (n : Int) (c : UInt8) : Option Int :=
  if 48 ≤ c.toNat ∧ c.toNat ≤ 57 then
    (if neg = true then (if n < Int.tdiv (-9223372036854775808 + ((c.toNat : Int) - 48)) 10 then none else some (n * 10 - ((c.toNat : Int) - 48)))
     else (if n > Int.tdiv (9223372036854775807 - ((c.toNat : Int) - 48)) 10 then none else some (n * 10 + ((c.toNat : Int) - 48))))
  else none
/-- the reference's number, from a place on -/
def numFrom (neg : Bool) (n : Int) (l : List UInt8) : Option Int := l.foldl (fun o c => o.bind fun m => stepN neg m c) (some n)
theorem fold_none (neg : Bool) (l : List UInt8) : l.foldl (fun o c => o.bind fun m => stepN neg m c) none = none := by
  induction l with
  | nil => rfl
  | cons c r ih => rw [List.foldl_cons]; exact ih
theorem numFrom_nil (neg : Bool) (n : Int) : numFrom neg n [] = some n := rfl
theorem numFrom_some {neg : Bool} {n m : Int} {c : UInt8} (r : List UInt8) (h : stepN neg n c = some m) : numFrom neg n (c :: r) = numFrom neg m r := by
  rw [numFrom, List.foldl_cons, Option.bind_some, h]; rfl
theorem numFrom_none {neg : Bool} {n : Int} {c : UInt8} (r : List UInt8) (h : stepN neg n c = none) : numFrom neg n (c :: r) = none := by
  rw [numFrom, List.foldl_cons, Option.bind_some, h, fold_none]
/-- the digits' worth -/
def valS (a : Nat) (c : UInt8) : Nat := a * 10 + (c.toNat - 48)
def valM (a : Nat) (l : List UInt8) : Nat := l.foldl valS a
theorem valM_nil (a : Nat) : valM a [] = a := rfl
theorem valM_cons (a : Nat) (c : UInt8) (r : List UInt8) : valM a (c :: r) = valM (a * 10 + (c.toNat - 48)) r := by rw [valM, List.foldl_cons, valS, ← valM]
def digs (l : List UInt8) : Prop := ∀ c ∈ l, 48 ≤ c.toNat ∧ c.toNat ≤ 57
theorem digs_cons (c : UInt8) (r : List UInt8) : digs (c :: r) ↔ (48 ≤ c.toNat ∧ c.toNat ≤ 57) ∧ digs r := by
  unfold digs
  rw [List.forall_mem_cons]
attribute [irreducible] valM
theorem valM_ge (l : List UInt8) (a : Nat) : a ≤ valM a l := by
  induction l generalizing a with
  | nil => rw [valM_nil]; exact Nat.le_refl _
  | cons c r ih =>
    have h := ih (a * 10 + (c.toNat - 48))
    rw [valM_cons]
    generalize valM (a * 10 + (c.toNat - 48)) r = v at h ⊢
    omega
theorem numFrom_pos (l : List UInt8) (a : Nat) (n : Int) (ha : a ≤ 9223372036854775807) :
    numFrom false (a : Int) l = some n ↔ digs l ∧ (valM a l : Int) = n ∧ n ≤ 9223372036854775807 := by
  induction l generalizing a with
  | nil =>
    rw [numFrom_nil, valM_nil]
    constructor
    · intro h; cases h; exact ⟨(by intro c hc; cases hc), rfl, by omega⟩
    · rintro ⟨_, h, _⟩; rw [h]
  | cons c r ih =>
    rw [valM_cons, digs_cons]
    by_cases hc : 48 ≤ c.toNat ∧ c.toNat ≤ 57
    · have ht : Int.tdiv (9223372036854775807 - ((c.toNat : Int) - 48)) 10 = (9223372036854775807 - ((c.toNat : Int) - 48)) / 10 := Int.tdiv_eq_ediv_of_nonneg (by omega)
      by_cases hb : (a : Int) > (9223372036854775807 - ((c.toNat : Int) - 48)) / 10
      · rw [numFrom_none r (by rw [stepN, if_pos hc, if_neg (by decide), ht, if_pos hb])]
        constructor
        · intro h; cases h
        · rintro ⟨_, h1, h2⟩
          have hg := valM_ge r (a * 10 + (c.toNat - 48))
          generalize valM (a * 10 + (c.toNat - 48)) r = v at h1 hg
          omega
      · have e : (a : Int) * 10 + ((c.toNat : Int) - 48) = ((a * 10 + (c.toNat - 48) : Nat) : Int) := by omega
        rw [numFrom_some r (m := ((a * 10 + (c.toNat - 48) : Nat) : Int)) (by rw [stepN, if_pos hc, if_neg (by decide), ht, if_neg hb, e]), ih _ (by omega)]
        exact ⟨fun ⟨x, y⟩ => ⟨⟨hc, x⟩, y⟩, fun ⟨x, y⟩ => ⟨x.2, y⟩⟩
    · rw [numFrom_none r (by rw [stepN, if_neg hc])]
      constructor
      · intro h; cases h
      · rintro ⟨h, _⟩
        exact absurd h.1 hc
theorem numFrom_neg (l : List UInt8) (a : Nat) (n : Int) (ha : a ≤ 9223372036854775808) :
    numFrom true (-(a : Int)) l = some n ↔ digs l ∧ -(valM a l : Int) = n ∧ -9223372036854775808 ≤ n := by
  induction l generalizing a with
  | nil =>
    rw [numFrom_nil, valM_nil]
    constructor
    · intro h; cases h; exact ⟨(by intro c hc; cases hc), rfl, by omega⟩
    · rintro ⟨_, h, _⟩; rw [h]
  | cons c r ih =>
    rw [valM_cons, digs_cons]
    by_cases hc : 48 ≤ c.toNat ∧ c.toNat ≤ 57
    · have ht : Int.tdiv (-9223372036854775808 + ((c.toNat : Int) - 48)) 10 = -((9223372036854775808 - ((c.toNat : Int) - 48)) / 10) := by
        have e : -9223372036854775808 + ((c.toNat : Int) - 48) = -(9223372036854775808 - ((c.toNat : Int) - 48)) := by omega
        rw [e, Int.neg_tdiv, Int.tdiv_eq_ediv_of_nonneg (by omega)]
      by_cases hb : -(a : Int) < -((9223372036854775808 - ((c.toNat : Int) - 48)) / 10)
      · rw [numFrom_none r (by rw [stepN, if_pos hc, if_pos rfl, ht, if_pos hb])]
        constructor
        · intro h; cases h
        · rintro ⟨_, h1, h2⟩
          have hg := valM_ge r (a * 10 + (c.toNat - 48))
          generalize valM (a * 10 + (c.toNat - 48)) r = v at h1 hg
          omega
      · have e : -(a : Int) * 10 - ((c.toNat : Int) - 48) = -((a * 10 + (c.toNat - 48) : Nat) : Int) := by omega
        rw [numFrom_some r (m := -((a * 10 + (c.toNat - 48) : Nat) : Int)) (by rw [stepN, if_pos hc, if_pos rfl, ht, if_neg hb, e]), ih _ (by omega)]
        exact ⟨fun ⟨x, y⟩ => ⟨⟨hc, x⟩, y⟩, fun ⟨x, y⟩ => ⟨x.2, y⟩⟩
    · rw [numFrom_none r (by rw [stepN, if_neg hc])]
      constructor
      · intro h; cases h
      · rintro ⟨h, _⟩
        exact absurd h.1 hc

/-- a row of digits that begins with no nought, or is one digit -/
def plainD (l : List UInt8) : Prop := l ≠ [] ∧ digs l ∧ ((l.getD 0 0).toNat ≠ 48 ∨ l.length = 1)
/-- the reference's number of a text -/
def number (s : List UInt8) : Option Int :=
  match s with
  | [] => none
  | c :: r =>
    if c.toNat = 45 then (if r = [] ∨ (r.getD 0 0).toNat = 48 then none else numFrom true 0 r)
    else (if c.toNat = 48 ∧ r ≠ [] then none else numFrom false 0 (c :: r))
end Go.Proofs.YtmkgalcojoeniaaGreatDoor.Val

/-! The reference's Read is the program's, in plain Lean. -/
namespace Go.Proofs.YtmkgalcojoeniaaGreatDoor.Val
open Tok (dbl hexs dig cut)

/-- the reference's Read -/
def rread (s : List UInt8) : V × Nat :=
  if 1000 < s.length then (zero, 3)
  else if s = [78, 85, 76, 76] then (zero, 0)
  else match number s with
    | some n => (⟨1, n, []⟩, 0)
    | none =>
      if (s.getD 0 0).toNat = 120 then
        (if s.length < 3 ∨ (s.getD 1 0).toNat ≠ 39 ∨ (s.getD (s.length - 1) 0).toNat ≠ 39 then (zero, 120)
         else if (Txt.unhex (cut s 2 (s.length - 1)) []).2 = true ∧ may ⟨3, 0, (Txt.unhex (cut s 2 (s.length - 1)) []).1⟩ = true then (⟨3, 0, (Txt.unhex (cut s 2 (s.length - 1)) []).1⟩, 0) else (zero, 120))
      else
        (if s.length < 2 ∨ (s.getD 0 0).toNat ≠ 39 ∨ (s.getD (s.length - 1) 0).toNat ≠ 39 then (zero, 120)
         else if (Txt.unq (cut s 1 (s.length - 1)) []).2 = true ∧ may ⟨2, 0, (Txt.unq (cut s 1 (s.length - 1)) []).1⟩ = true then (⟨2, 0, (Txt.unq (cut s 1 (s.length - 1)) []).1⟩, 0) else (zero, 120))

end Go.Proofs.YtmkgalcojoeniaaGreatDoor.Val

/-! What the operators make of values, in plain Lean. -/
namespace Go.Proofs.YtmkgalcojoeniaaGreatDoor.Val

def isBlank (c : UInt8) : Bool := ([32, 9, 10, 13] : List UInt8).contains c
def isDigit (c : UInt8) : Bool := decide (48 ≤ c.toNat ∧ c.toNat ≤ 57)
/-- how long the sign is -/
def sgn (s : List UInt8) : Nat :=
  match s with
  | [] => 0
  | c :: _ => if c.toNat = 43 ∨ c.toNat = 45 then 1 else 0
theorem sgn_le (s : List UInt8) : sgn s ≤ 1 ∧ sgn s ≤ s.length := by
  cases s with
  | nil => simp [sgn]
  | cons c r => simp only [sgn, List.length_cons]; split <;> omega
/-- where the digits end -/
def leadN (s : List UInt8) : Nat := sgn s + ((s.drop (sgn s)).takeWhile isDigit).length
/-- how long the number ahead is -/
def lead (s : List UInt8) : Nat := if leadN s = sgn s then 0 else leadN s
theorem leadN_ge (s : List UInt8) : sgn s ≤ leadN s := by unfold leadN; omega
theorem leadN_le (s : List UInt8) : leadN s ≤ s.length := by
  have h1 := (List.takeWhile_sublist isDigit (l := s.drop (sgn s))).length_le
  have h2 := (sgn_le s).2
  rw [List.length_drop] at h1
  unfold leadN; omega
theorem lead_le (s : List UInt8) : lead s ≤ s.length := by
  have := leadN_le s
  unfold lead; split <;> omega
theorem tw_len (l : List UInt8) (k : Nat) (hk : k ≤ l.length) (h1 : ∀ c ∈ l.take k, isDigit c = true) (h2 : ∀ c, l[k]? = some c → isDigit c = false) : (l.takeWhile isDigit).length = k := by
  induction l generalizing k with
  | nil => simp at hk; simp [hk]
  | cons c r ih =>
    cases k with
    | zero =>
      have := h2 c (by simp)
      simp [this]
    | succ k =>
      have hc := h1 c (by simp)
      rw [List.takeWhile_cons, if_pos hc, List.length_cons, ih k (by simpa using hk) (fun x hx => h1 x (by simp [hx])) (fun x hx => h2 x (by simpa using hx))]
/-- where the digits end, by what stands there -/
theorem leadN_is {s : List UInt8} {k : Nat} (h0 : sgn s ≤ k) (hk : k ≤ s.length) (h1 : ∀ c ∈ (s.drop (sgn s)).take (k - sgn s), isDigit c = true) (h2 : ∀ c, s[k]? = some c → isDigit c = false) : leadN s = k := by
  unfold leadN
  rw [tw_len (s.drop (sgn s)) (k - sgn s) (by rw [List.length_drop]; omega) h1 (by
    intro c hc
    rw [List.getElem?_drop] at hc
    rw [show sgn s + (k - sgn s) = k by omega] at hc
    exact h2 c hc)]
  omega

/-- the integer of a sign or none and digits -/
def pnum (s : List UInt8) : V := match Lib.parseIntB 64 s with | .ok n => ⟨1, n, []⟩ | _ => zero
theorem pnum_ok {s : List UInt8} {n : Int} (h : Lib.parseIntB 64 s = .ok n) : pnum s = ⟨1, n, []⟩ := by unfold pnum; rw [h]
theorem pnum_no {s : List UInt8} (h : ∀ n, Lib.parseIntB 64 s ≠ .ok n) : pnum s = zero := by
  unfold pnum
  split
  · rename_i n hn; exact absurd hn (h n)
  · rfl
theorem pnum_cases (s : List UInt8) : pnum s = zero ∨ ∃ n, pnum s = ⟨1, n, []⟩ ∧ -9223372036854775808 ≤ n ∧ n ≤ 9223372036854775807 := by
  cases h : Lib.parseIntB 64 s with
  | ok n =>
    right
    refine ⟨n, pnum_ok h, ?_⟩
    rcases s with _ | ⟨c, r⟩
    · simp [Lib.parseIntB] at h
    · simp only [Lib.parseIntB] at h
      split at h
      · cases h
      · cases h
      · split at h
        · cases h
        · split at h
          · cases h
          · rename_i u _ h1 h2
            injection h with h
            split at h <;> omega
  | _ => left; exact pnum_no (fun n hn => by rw [h] at hn; cases hn)

/-- behind the blanks ahead -/
def ltrim (s : List UInt8) : List UInt8 := s.dropWhile isBlank
/-- without the blanks at its end -/
def etrim (s : List UInt8) : List UInt8 := (s.reverse.dropWhile isBlank).reverse
/-- a value as a number -/
def num (v : V) : V :=
  if may v = true ∧ v.kind ≠ 0 then
    (if v.kind = 1 then v else if lead (ltrim v.text) = 0 then ⟨1, 0, []⟩ else pnum ((ltrim v.text).take (lead (ltrim v.text))))
  else zero
def fits (v : V) : Prop := -9223372036854775808 ≤ v.int ∧ v.int ≤ 9223372036854775807
theorem num_not {v : V} (h : may v = false ∨ v.kind = 0) : num v = zero := by
  rw [num, if_neg]
  rintro ⟨h1, h2⟩
  rcases h with h | h
  · rw [h] at h1; cases h1
  · exact h2 h
theorem num_int {v : V} (h : may v = true) (hk : v.kind = 1) : num v = v := by rw [num, if_pos ⟨h, by omega⟩, if_pos hk]
theorem num_none {v : V} (h : may v = true) (h0 : v.kind ≠ 0) (hk : v.kind ≠ 1) (hl : lead (ltrim v.text) = 0) : num v = ⟨1, 0, []⟩ := by rw [num, if_pos ⟨h, h0⟩, if_neg hk, if_pos hl]
theorem num_text {v : V} (h : may v = true) (h0 : v.kind ≠ 0) (hk : v.kind ≠ 1) (hl : lead (ltrim v.text) ≠ 0) : num v = pnum ((ltrim v.text).take (lead (ltrim v.text))) := by rw [num, if_pos ⟨h, h0⟩, if_neg hk, if_neg hl]
theorem num_cases {v : V} (h : fits v) : num v = zero ∨ ∃ n, num v = ⟨1, n, []⟩ ∧ -9223372036854775808 ≤ n ∧ n ≤ 9223372036854775807 := by
  unfold num
  split
  · rename_i hm
    split
    · rename_i h1
      right
      obtain ⟨k, n, t⟩ := v
      simp only at h1
      subst h1
      have := may_iff.1 hm.1
      simp only at this
      have ht : t = [] := by
        rcases this with h | h | h
        · exact absurd h.1 (by decide)
        · exact h.2
        · exact absurd h.1 (by decide)
      exact ⟨n, by rw [ht], h⟩
    · split
      · exact .inr ⟨0, rfl, by omega, by omega⟩
      · exact pnum_cases _
  · exact .inl rfl
/-- a text; NULL, if it is too long -/
def ptext (s : List UInt8) : V := if 400 < s.length then zero else ⟨2, 0, s⟩
/-- a value as a text -/
def pshow (v : V) : V := if may v = true ∧ v.kind ≠ 0 then (if v.kind = 1 then ⟨2, 0, Lib.itoa v.int⟩ else ⟨2, 0, v.text⟩) else zero
theorem pshow_not {v : V} (h : may v = false ∨ v.kind = 0) : pshow v = zero := by
  rw [pshow, if_neg]
  rintro ⟨h1, h2⟩
  rcases h with h | h
  · rw [h] at h1; cases h1
  · exact h2 h
theorem pshow_int {v : V} (h : may v = true) (hk : v.kind = 1) : pshow v = ⟨2, 0, Lib.itoa v.int⟩ := by rw [pshow, if_pos ⟨h, by omega⟩, if_pos hk]
theorem pshow_text {v : V} (h : may v = true) (h0 : v.kind ≠ 0) (hk : v.kind ≠ 1) : pshow v = ⟨2, 0, v.text⟩ := by rw [pshow, if_pos ⟨h, h0⟩, if_neg hk]
/-- 1 true, 0 false, -1 unknown -/
def tru (v : V) : Int := if (num v).kind = 0 then -1 else if (num v).int = 0 then 0 else 1
/-- a truth value, or NULL -/
def three (n : Int) : V := if n < 0 then zero else ⟨1, n, []⟩
def pbool (b : Bool) : V := ⟨1, if b = true then 1 else 0, []⟩
/-- a number, if it is an int64 -/
def fit (n : Int) : V := if -9223372036854775808 ≤ n ∧ n ≤ 9223372036854775807 then ⟨1, n, []⟩ else zero
theorem tru_cases (v : V) : tru v = -1 ∨ tru v = 0 ∨ tru v = 1 := by
  unfold tru
  split
  · exact .inl rfl
  · split
    · exact .inr (.inl rfl)
    · exact .inr (.inr rfl)

/-- an operator of one value, and the error's number -/
def unary (op : Int) (v : V) : V × Int :=
  if op = 4 ∨ op = 5 ∨ op = 6 then
    (if may v = true then
      (if op = 4 then (if (num v).kind = 0 then zero else fit (0 - (num v).int), 0)
       else if op = 5 then (v, 0)
       else (three (if tru v < 0 then -1 else 1 - tru v), 0))
     else (zero, 2))
  else (zero, 130)
/-- the arithmetic of two integers -/
def arith (op x y : Int) : V :=
  if op = 7 then fit (x + y) else if op = 8 then fit (x - y) else if op = 9 then fit (x * y)
  else if y = 0 then zero else if op = 10 then fit (Int.tdiv x y) else ⟨1, Int.tmod x y, []⟩
def compare (op n : Int) : Bool :=
  if op = 13 ∨ op = 19 then decide (n = 0) else if op = 14 ∨ op = 20 then decide (n ≠ 0) else if op = 15 then decide (n < 0) else if op = 16 then decide (n ≤ 0) else if op = 17 then decide (0 < n) else decide (0 ≤ n)
/-- AND (of deciding 0), OR (of deciding 1) -/
def logic (stop x y : Int) : V := if x = stop ∨ y = stop then three stop else if x < 0 ∨ y < 0 then zero else three (1 - stop)
/-- what an operator makes of two values that may be -/
def makes (op : Int) (a b : V) (c : Int) : V :=
  if op ≤ 11 then (if (num a).kind = 0 ∨ (num b).kind = 0 then zero else arith op (num a).int (num b).int)
  else if op = 12 then (if a.kind = 0 ∨ b.kind = 0 then zero else ptext ((pshow a).text ++ (pshow b).text))
  else if op = 21 then logic 0 (tru a) (tru b)
  else if op = 22 then logic 1 (tru a) (tru b)
  else if op ≤ 18 ∧ (a.kind = 0 ∨ b.kind = 0) then zero
  else pbool (compare op (cmp a b c))
/-- an operator of two values, and the error's number -/
def binary (op : Int) (a b : V) (c : Int) : V × Int :=
  if 7 ≤ op ∧ op ≤ 22 then (if may a = true ∧ may b = true then (makes op a b c, 0) else (zero, 2)) else (zero, 130)
/-- whether a value is one of a list -/
def isIn (x : V) (l : List V) (c : Int) : V :=
  if may x = true ∧ l.all may = true then
    (if l = [] then pbool false else if x.kind = 0 then zero
     else if l.any (fun v => decide (v.kind ≠ 0) && decide (cmp x v c = 0)) = true then pbool true
     else if l.any (fun v => decide (v.kind = 0)) = true then zero else pbool false)
  else zero

/-- a type's affinity -/
def affOf (name : List UInt8) : Int × Bool :=
  if Txt.fold name 1 = [105, 110, 116, 101, 103, 101, 114] ∨ Txt.fold name 1 = [105, 110, 116] then (1, true)
  else if Txt.fold name 1 = [116, 101, 120, 116] then (2, true)
  else (0, decide (Txt.fold name 1 = [98, 108, 111, 98] ∨ name = []))
/-- a value with an affinity -/
def apply (f : Int) (v : V) : V :=
  if may v = true then
    (if f = 2 ∧ v.kind = 1 then pshow v
     else if f = 1 ∧ v.kind = 2 ∧ etrim (ltrim v.text) ≠ [] ∧ lead (etrim (ltrim v.text)) = (etrim (ltrim v.text)).length ∧ (pnum (etrim (ltrim v.text))).kind = 1 then pnum (etrim (ltrim v.text))
     else v)
  else v
/-- the two sides of a comparison -/
def pair (a b : V) (x y : Int) : V × V :=
  if x = 1 ∧ y ≠ 1 then (a, apply 1 b) else if y = 1 ∧ x ≠ 1 then (apply 1 a, b)
  else if x = 2 ∧ y = 0 then (a, apply 2 b) else if y = 2 ∧ x = 0 then (apply 2 a, b) else (a, b)
/-- a value as one of a type, and the error's number -/
def cast (v : V) (name : List UInt8) : V × Int :=
  if (affOf name).2 = true then
    (if may v = true then
      (if v.kind = 0 ∨ name = [] then (v, 0) else if (affOf name).1 = 1 then (num v, 0) else if (affOf name).1 = 2 then (pshow v, 0) else (⟨3, 0, (pshow v).text⟩, 0))
     else (zero, 2))
  else (zero, 131)

/-! the reference's number is the program's -/
/-- without the noughts ahead, but for one -/
def strip0 : List UInt8 → List UInt8
  | [] => []
  | [c] => [c]
  | c :: d :: r => if c.toNat = 48 then strip0 (d :: r) else c :: d :: r
theorem strip0_step {c d : UInt8} (r : List UInt8) (h : c.toNat = 48) : strip0 (c :: d :: r) = strip0 (d :: r) := by rw [strip0, if_pos h]
theorem strip0_other {c : UInt8} (r : List UInt8) (h : c.toNat ≠ 48) : strip0 (c :: r) = c :: r := by
  cases r with
  | nil => rfl
  | cons d r => rw [strip0, if_neg h]
theorem strip0_short {s : List UInt8} (h : s.length ≤ 1) : strip0 s = s := by
  match s, h with
  | [], _ => rfl
  | [c], _ => rfl
theorem strip0_len (s : List UInt8) : (strip0 s).length ≤ s.length := by
  induction s with
  | nil => simp [strip0]
  | cons c r ih =>
    cases r with
    | nil => simp [strip0]
    | cons d r =>
      rw [strip0]
      split
      · simp only [List.length_cons] at ih ⊢; omega
      · exact Nat.le_refl _
/-- behind the sign -/
def unsign (s : List UInt8) : List UInt8 :=
  match s with
  | [] => []
  | c :: r => if isDigit c = true then c :: r else r
def rtext (s : List UInt8) : List UInt8 := if (s.getD 0 0).toNat = 45 ∧ strip0 (unsign s) ≠ [48] then 45 :: strip0 (unsign s) else strip0 (unsign s)
def rnum (s : List UInt8) : V := match number (rtext s) with | some n => ⟨1, n, []⟩ | none => zero

theorem strip0_digs (l : List UInt8) (h : digs l) (hl : l ≠ []) : plainD (strip0 l) ∧ valM 0 (strip0 l) = valM 0 l := by
  induction l with
  | nil => exact absurd rfl hl
  | cons c r ih =>
    have hd := (digs_cons c r).1 h
    cases r with
    | nil => exact ⟨⟨by simp [strip0], by simpa [strip0] using h, .inr rfl⟩, rfl⟩
    | cons d r =>
      by_cases hc : c.toNat = 48
      · rw [strip0_step r hc]
        obtain ⟨h1, h2⟩ := ih hd.2 (by simp)
        refine ⟨h1, ?_⟩
        rw [h2, valM_cons 0 c, show 0 * 10 + (c.toNat - 48) = 0 by omega]
      · rw [strip0_other _ hc]
        exact ⟨⟨by simp, h, .inl (by simpa using hc)⟩, rfl⟩
theorem parseM_val (l : List UInt8) (acc : Nat) (h : digs l) (ha : acc ≤ 18446744073709551615) : Lib.parseUintM 18446744073709551615 acc l = if valM acc l ≤ 18446744073709551615 then .ok (valM acc l) else .range := by
  induction l generalizing acc with
  | nil => rw [valM_nil, if_pos ha]; rfl
  | cons c r ih =>
    have hd := (digs_cons c r).1 h
    rw [valM_cons, Lib.parseUintM, if_pos hd.1]
    have hg := valM_ge r (acc * 10 + (c.toNat - 48))
    by_cases h1 : 1844674407370955162 ≤ acc
    · rw [if_pos h1, if_neg]
      generalize valM (acc * 10 + (c.toNat - 48)) r = v at hg ⊢; omega
    · rw [if_neg h1]
      by_cases h2 : 18446744073709551615 < acc * 10 + (c.toNat - 48)
      · rw [if_pos h2, if_neg]
        generalize valM (acc * 10 + (c.toNat - 48)) r = v at hg ⊢; omega
      · rw [if_neg h2, ih _ hd.2 (by omega)]
theorem parse_val (l : List UInt8) (h : digs l) (hl : l ≠ []) : Lib.parseUintB 64 l = if valM 0 l ≤ 18446744073709551615 then .ok (valM 0 l) else .range := by
  rw [Lib.parseUintB, if_neg hl]
  exact parseM_val l 0 h (by omega)
theorem pnum_minus (l : List UInt8) (h : digs l) (hl : l ≠ []) : pnum (45 :: l) = if valM 0 l ≤ 9223372036854775808 then ⟨1, -(valM 0 l : Int), []⟩ else zero := by
  have e := Lib.parseIntB_minus 64 l
  rw [parse_val l h hl] at e
  generalize valM 0 l = v at e ⊢
  by_cases h1 : v ≤ 9223372036854775808
  · rw [if_pos h1]
    rw [if_pos (by omega)] at e
    exact pnum_ok (by rw [e, Lib.signedC, if_neg (by omega)])
  · rw [if_neg h1]
    refine pnum_no (fun n hn => ?_)
    rw [hn] at e
    split at e
    · rw [Lib.signedC, if_pos (by omega)] at e; cases e
    · cases e
theorem signless_val (l : List UInt8) (h : digs l) (hl : l ≠ []) (s : List UInt8) (e : Lib.parseIntB 64 s = Lib.signlessC (2 ^ (64 - 1)) (Lib.parseUintB 64 l)) : pnum s = if valM 0 l ≤ 9223372036854775807 then ⟨1, (valM 0 l : Int), []⟩ else zero := by
  rw [parse_val l h hl] at e
  generalize valM 0 l = v at e ⊢
  by_cases h1 : v ≤ 9223372036854775807
  · rw [if_pos h1]
    rw [if_pos (by omega)] at e
    exact pnum_ok (by rw [e, Lib.signlessC, if_neg (by omega)])
  · rw [if_neg h1]
    refine pnum_no (fun n hn => ?_)
    rw [hn] at e
    split at e
    · rw [Lib.signlessC, if_pos (by omega)] at e; cases e
    · cases e
theorem number_pos {l : List UInt8} (h : plainD l) : number l = if valM 0 l ≤ 9223372036854775807 then some (valM 0 l : Int) else none := by
  obtain ⟨h1, h2, h3⟩ := h
  rcases l with _ | ⟨c, r⟩
  · exact absurd rfl h1
  · have hc := h2 c (by simp)
    have hz : ¬ (c.toNat = 48 ∧ r ≠ []) := by
      rintro ⟨h, hr⟩
      rcases h3 with h3 | h3
      · exact h3 (by simpa using h)
      · exact hr (List.eq_nil_of_length_eq_zero (by simpa using h3))
    rw [number, if_neg (by omega), if_neg hz]
    have hk := numFrom_pos (c :: r) 0
    split
    · rename_i hv
      exact (hk _ (by omega)).2 ⟨h2, rfl, by omega⟩
    · rename_i hv
      cases hq : numFrom false 0 (c :: r) with
      | none => rfl
      | some n =>
        obtain ⟨_, h5, h6⟩ := (hk n (by omega)).1 (by simpa using hq)
        omega
theorem number_minus {l : List UInt8} (h : plainD l) (h0 : l ≠ [48]) : number (45 :: l) = if valM 0 l ≤ 9223372036854775808 then some (-(valM 0 l : Int)) else none := by
  obtain ⟨h1, h2, h3⟩ := h
  have hz : ¬ (l = [] ∨ (l.getD 0 0).toNat = 48) := by
    rintro (h | h)
    · exact h1 h
    · rcases h3 with h3 | h3
      · exact h3 h
      · rcases l with _ | ⟨c, r⟩
        · exact h1 rfl
        · have : r = [] := List.eq_nil_of_length_eq_zero (by simpa using h3)
          subst this
          have hc : c = 48 := UInt8.toNat_inj.1 (by simpa using h)
          exact h0 (by rw [hc])
  rw [number, if_pos (by rfl), if_neg hz]
  have hk := numFrom_neg l 0
  have e0 : -((0 : Nat) : Int) = 0 := rfl
  rw [e0] at hk
  split
  · rename_i hv
    exact (hk _ (by omega)).2 ⟨h2, rfl, by omega⟩
  · rename_i hv
    cases hq : numFrom true 0 l with
    | none => rfl
    | some n =>
      obtain ⟨_, h5, h6⟩ := (hk n (by omega)).1 hq
      omega

/-- a sign or none, and digits -/
def signed (s : List UInt8) : Prop := digs (s.drop (sgn s)) ∧ s.drop (sgn s) ≠ []
theorem rnum_is {s : List UInt8} (h : signed s) : rnum s = pnum s := by
  rcases s with _ | ⟨c, r⟩
  · exact absurd rfl h.2
  · by_cases hs : c.toNat = 43 ∨ c.toNat = 45
    · have e1 : sgn (c :: r) = 1 := by rw [sgn, if_pos hs]
      have hd : digs r ∧ r ≠ [] := by
        have := h
        unfold signed at this
        rw [e1] at this
        simpa using this
      have hu : unsign (c :: r) = r := by
        have : isDigit c = false := by simp [isDigit]; omega
        rw [unsign, if_neg (by rw [this]; decide)]
      obtain ⟨hp, hv⟩ := strip0_digs r hd.1 hd.2
      by_cases h45 : c.toNat = 45
      · have hc : c = 45 := UInt8.toNat_inj.1 h45
        subst hc
        rw [pnum_minus r hd.1 hd.2, ← hv]
        by_cases hz : strip0 r = [48]
        · have et : rtext (45 :: r) = [48] := by rw [rtext, hu, if_neg (by simp [hz]), hz]
          have e48 : valM 0 [48] = 0 := by rw [valM_cons, valM_nil]; rfl
          rw [rnum, et, hz, e48, number_pos ⟨by simp, by simp [digs], .inr rfl⟩, e48]
          rfl
        · have et : rtext (45 :: r) = 45 :: strip0 r := by rw [rtext, hu, if_pos ⟨rfl, hz⟩]
          rw [rnum, et, number_minus hp hz]
          by_cases hq : valM 0 (strip0 r) ≤ 9223372036854775808
          · simp only [hq, if_true]
          · simp only [hq, if_false]
      · have h43 : c = 43 := UInt8.toNat_inj.1 (show c.toNat = 43 by omega)
        subst h43
        rw [signless_val r hd.1 hd.2 _ (Lib.parseIntB_plus 64 r), ← hv]
        have et : rtext (43 :: r) = strip0 r := by rw [rtext, hu, if_neg (by simp)]
        rw [rnum, et, number_pos hp]
        by_cases hq : valM 0 (strip0 r) ≤ 9223372036854775807
        · simp only [hq, if_true]
        · simp only [hq, if_false]
    · have e1 : sgn (c :: r) = 0 := by rw [sgn, if_neg hs]
      have hd : digs (c :: r) := by
        have := h.1
        rw [e1] at this
        simpa using this
      have hc := hd c (by simp)
      have hu : unsign (c :: r) = c :: r := by rw [unsign, if_pos (by simp [isDigit]; omega)]
      obtain ⟨hp, hv⟩ := strip0_digs (c :: r) hd (by simp)
      rw [signless_val (c :: r) hd (by simp) _ (Lib.parseIntB_plain 64 c r (by omega) (by omega)), ← hv]
      have et : rtext (c :: r) = strip0 (c :: r) := by
        rw [rtext, hu, if_neg]
        rintro ⟨h, _⟩
        simp at h; omega
      rw [rnum, et, number_pos hp]
      by_cases hq : valM 0 (strip0 (c :: r)) ≤ 9223372036854775807
      · simp only [hq, if_true]
      · simp only [hq, if_false]
theorem tw_all (l : List UInt8) : digs (l.takeWhile isDigit) := by
  intro c hc
  have := List.all_takeWhile (p := isDigit) (l := l)
  have := List.all_eq_true.1 this c hc
  simpa [isDigit] using this
theorem lead_signed {s : List UInt8} (h : lead s ≠ 0) : signed (s.take (lead s)) := by
  have hl : lead s = leadN s ∧ sgn s < leadN s := by
    have := leadN_ge s
    unfold lead at h ⊢
    split at h
    · exact absurd rfl h
    · rename_i hh; exact ⟨by rw [if_neg hh], by omega⟩
  rw [hl.1]
  have he : sgn (s.take (leadN s)) = sgn s := by
    rcases s with _ | ⟨c, r⟩
    · rfl
    · have : leadN (c :: r) = (leadN (c :: r) - 1) + 1 := by omega
      rw [this, List.take_succ_cons]; rfl
  have e2 : (s.take (leadN s)).drop (sgn s) = (s.drop (sgn s)).takeWhile isDigit := by
    rw [List.drop_take]
    have hlen : leadN s - sgn s = ((s.drop (sgn s)).takeWhile isDigit).length := by unfold leadN; omega
    rw [hlen]
    generalize s.drop (sgn s) = l
    induction l with
    | nil => rfl
    | cons c r ih =>
      rw [List.takeWhile_cons]
      split
      · rw [List.length_cons, List.take_succ_cons, ih]
      · rfl
  unfold signed
  rw [he, e2]
  refine ⟨tw_all _, ?_⟩
  intro hn
  have : leadN s = sgn s := by unfold leadN; rw [hn]; rfl
  omega

/-! blanks -/
theorem ltrim_blank {c : UInt8} (r : List UInt8) (h : isBlank c = true) : ltrim (c :: r) = ltrim r := by simp [ltrim, h]
theorem ltrim_other {c : UInt8} (r : List UInt8) (h : isBlank c = false) : ltrim (c :: r) = c :: r := by simp [ltrim, h]
theorem trimL_is (s : List UInt8) : Lib.trimLeftS s [32, 9, 10, 13] = ltrim s := rfl

end Go.Proofs.YtmkgalcojoeniaaGreatDoor.Val

/-! Sums, products, quotients of int64s, in plain Lean. -/
namespace Go.Proofs.YtmkgalcojoeniaaGreatDoor.Val
open Go.RowKit

abbrev inr (n : Int) : Prop := -9223372036854775808 ≤ n ∧ n ≤ 9223372036854775807
theorem fit_in {n : Int} (h : inr n) : fit n = ⟨1, n, []⟩ := by rw [fit, if_pos h]
theorem fit_out {n : Int} (h : ¬ inr n) : fit n = zero := by rw [fit, if_neg h]
theorem sub_in {x y : Int} (hx : inr x) (hy : inr y) : (decide (wrap64 (x - y) < x) == decide (y > 0)) = decide (inr (x - y)) := by
  unfold inr at *
  rw [Bool.eq_iff_iff]
  simp only [beq_iff_eq, decide_eq_decide, decide_eq_true_eq]
  unfold wrap64
  omega
theorem wrap_in {n : Int} (h : inr n) : wrap64 n = n := by unfold inr at h; unfold wrap64; omega
end Go.Proofs.YtmkgalcojoeniaaGreatDoor.Val

/-! The laws that the operators keep among themselves, in plain Lean. -/
namespace Go.Proofs.YtmkgalcojoeniaaGreatDoor.Val

def two (op : Int) (a b : V) (c : Int) : V := (binary op a b c).1
def nott (v : V) : V := (unary 6 v).1
theorem may_zero : may zero = true := by decide
theorem num_mk (n : Int) : num ⟨1, n, []⟩ = ⟨1, n, []⟩ := num_int (by simp [may]) rfl
def flip3 (n : Int) : Int := if n < 0 then -1 else 1 - n
/-! sums undone -/
def mk (n : Int) : V := ⟨1, n, []⟩
/-! numbers as texts -/
end Go.Proofs.YtmkgalcojoeniaaGreatDoor.Val

/-! Whether a value is one of a list, taken up one by one, in plain Lean. -/
namespace Go.Proofs.YtmkgalcojoeniaaGreatDoor.Val

/-- is a value one of a list, as far as it goes: some are, some are unknown -/
def someIs (x : V) (l : List V) (c : Int) : Bool := l.any fun v => decide (v.kind ≠ 0) && decide (cmp x v c = 0)
def someNull (l : List V) : Bool := l.any fun v => decide (v.kind = 0)
def inF (x : V) (l : List V) (c : Int) : V :=
  if l = [] then pbool false else if x.kind = 0 then zero else if someIs x l c = true then pbool true else if someNull l = true then zero else pbool false
end Go.Proofs.YtmkgalcojoeniaaGreatDoor.Val
