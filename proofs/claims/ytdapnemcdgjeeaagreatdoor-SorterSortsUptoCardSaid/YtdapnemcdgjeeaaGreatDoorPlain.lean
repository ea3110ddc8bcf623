/- What the tokens, the values and the operators are, in plain Lean. -/
import Derived.Lib.Bytealg
import Derived.Lib.Strings
import Derived.Lib.Replace
import Derived.Lib.Join
import Derived.Lib.ItoaNum
import Derived.Lib.ParseIntB
import Derived.Lib.Small
import Derived.Lib.TrimByte
import GoSem.Op.String
import Derived.Lib.ParseIntBCases
import Derived.Lib.SlTrimSet
import Derived.RowKit
import Derived.IntWalk

/-! The tokens of a text as plain Lean functions over lists of bytes: what the program's package token computes, with no program in sight. -/
set_option maxRecDepth 100000
set_option linter.unusedVariables false
set_option linter.unusedSimpArgs false
namespace Go.Proofs.YtdapnemcdgjeeaaGreatDoor.Tok

def letter (c : UInt8) : Bool := decide (97 ≤ c.toNat ∧ c.toNat ≤ 122 ∨ 65 ≤ c.toNat ∧ c.toNat ≤ 90 ∨ c.toNat = 95)
def digit (c : UInt8) : Bool := decide (48 ≤ c.toNat ∧ c.toNat ≤ 57)
def word (c : UInt8) : Bool := letter c || digit c
def blank (c : UInt8) : Bool := decide (c.toNat = 32 ∨ c.toNat = 9 ∨ c.toNat = 10 ∨ c.toNat = 13)

/-- where a row of bytes of a kind ends -/
def runEnd (p : UInt8 → Bool) (l : List UInt8) (i : Nat) : Nat :=
  if h : i < l.length then (if p l[i] then runEnd p l (i + 1) else i) else i
termination_by l.length - i

theorem runEnd_step {p : UInt8 → Bool} {l : List UInt8} {i : Nat} (h : i < l.length) (hp : p l[i] = true) : runEnd p l (i + 1) = runEnd p l i := by
  rw [runEnd.eq_def p l i, dif_pos h, if_pos hp]
theorem runEnd_stop {p : UInt8 → Bool} {l : List UInt8} {i : Nat} (h : i < l.length) (hp : p l[i] = false) : runEnd p l i = i := by
  rw [runEnd, dif_pos h, if_neg (by simp [hp])]
theorem runEnd_end {p : UInt8 → Bool} {l : List UInt8} {i : Nat} (h : l.length ≤ i) : runEnd p l i = i := by
  rw [runEnd, dif_neg (by omega)]


/-- where the next token begins, or the end -/
def skip (l : List UInt8) (i : Nat) : Nat :=
  if h : i < l.length then
    (if blank l[i] then skip l (i + 1)
     else if Lib.hasPrefix (l.drop i) [45, 45] then
       (if Lib.indexByte (l.drop i) 10 < 0 then l.length else skip l (i + ((Lib.indexByte (l.drop i) 10).toNat + 1)))
     else i)
  else i
termination_by l.length - i

theorem skip_blank {l : List UInt8} {i : Nat} (h : i < l.length) (hb : blank l[i] = true) : skip l (i + 1) = skip l i := by
  rw [skip.eq_def l i, dif_pos h, if_pos hb]
theorem skip_none {l : List UInt8} {i : Nat} (h : i < l.length) (hb : blank l[i] = false) (hp : Lib.hasPrefix (l.drop i) [45, 45] = true) (hn : Lib.indexByte (l.drop i) 10 < 0) : skip l i = l.length := by
  rw [skip.eq_def l i, dif_pos h, if_neg (by simp [hb]), if_pos hp, if_pos hn]
theorem skip_line {l : List UInt8} {i : Nat} (h : i < l.length) (hb : blank l[i] = false) (hp : Lib.hasPrefix (l.drop i) [45, 45] = true) (hn : 0 ≤ Lib.indexByte (l.drop i) 10) : skip l (i + ((Lib.indexByte (l.drop i) 10).toNat + 1)) = skip l i := by
  rw [skip.eq_def l i, dif_pos h, if_neg (by simp [hb]), if_pos hp, if_neg (by omega)]
theorem skip_here {l : List UInt8} {i : Nat} (h : i < l.length) (hb : blank l[i] = false) (hp : Lib.hasPrefix (l.drop i) [45, 45] = false) : skip l i = i := by
  rw [skip.eq_def l i, dif_pos h, if_neg (by simp [hb]), if_neg (by simp [hp])]
theorem skip_end {l : List UInt8} {i : Nat} (h : l.length ≤ i) : skip l i = i := by
  rw [skip.eq_def l i, dif_neg (by omega)]

theorem indexByte_lt (l : List UInt8) (c : UInt8) : Lib.indexByte l c < l.length := by
  induction l with
  | nil => simp [Lib.indexByte]
  | cons b l ih =>
    unfold Lib.indexByte
    simp only [List.length_cons]
    split
    · omega
    · split <;> omega


/-- the bytes of a text whose place i lies behind its first quote, where it ends, and whether it does -/
def quoted (l : List UInt8) (i : Nat) (acc : List UInt8) : List UInt8 × Nat × Bool :=
  if h : i < l.length then
    (if l[i].toNat = 39 then
       (if h1 : i + 1 < l.length then (if l[i + 1].toNat = 39 then quoted l (i + 2) (acc ++ [l[i + 1]]) else (acc, i + 1, true)) else (acc, i + 1, true))
     else quoted l (i + 1) (acc ++ [l[i]]))
  else ([], 0, false)
termination_by l.length - i

theorem quoted_byte {l : List UInt8} {i : Nat} {acc : List UInt8} (h : i < l.length) (hc : l[i].toNat ≠ 39) : quoted l (i + 1) (acc ++ [l[i]]) = quoted l i acc := by
  rw [quoted.eq_def l i, dif_pos h, if_neg hc]
theorem quoted_pair {l : List UInt8} {i : Nat} {acc : List UInt8} (h : i + 1 < l.length) (hc : l[i].toNat = 39) (hd : l[i + 1].toNat = 39) : quoted l (i + 2) (acc ++ [l[i + 1]]) = quoted l i acc := by
  rw [quoted.eq_def l i, dif_pos (by omega), if_pos hc, dif_pos h, if_pos hd]
theorem quoted_last {l : List UInt8} {i : Nat} {acc : List UInt8} (h : i < l.length) (hc : l[i].toNat = 39) (h1 : ¬ i + 1 < l.length) : quoted l i acc = (acc, i + 1, true) := by
  rw [quoted.eq_def l i, dif_pos h, if_pos hc, dif_neg h1]
theorem quoted_close {l : List UInt8} {i : Nat} {acc : List UInt8} (h : i + 1 < l.length) (hc : l[i].toNat = 39) (hd : l[i + 1].toNat ≠ 39) : quoted l i acc = (acc, i + 1, true) := by
  rw [quoted.eq_def l i, dif_pos (by omega), if_pos hc, dif_pos h, if_neg hd]
theorem quoted_open {l : List UInt8} {i : Nat} {acc : List UInt8} (h : l.length ≤ i) : quoted l i acc = ([], 0, false) := by
  rw [quoted.eq_def l i, dif_neg (by omega)]


/-- what a digit to the base 16 is worth; -1: it is none -/
def hex (c : UInt8) : Int :=
  if digit c = true then (c.toNat : Int) - 48 else if 97 ≤ c.toNat ∧ c.toNat ≤ 102 then (c.toNat : Int) - 87 else if 65 ≤ c.toNat ∧ c.toNat ≤ 70 then (c.toNat : Int) - 55 else -1
theorem hex_le (c : UInt8) : -1 ≤ hex c ∧ hex c ≤ 15 := by
  unfold hex digit
  split
  · rename_i h; simp at h; omega
  · split
    · omega
    · split <;> omega

/-- the bytes between the places i and e, two digits each; nothing where one is none -/
def pairs (l : List UInt8) (i e : Nat) (acc : List UInt8) : Option (List UInt8) :=
  if i < e then
    (if hex (l.getD i 0) < 0 ∨ hex (l.getD (i + 1) 0) < 0 then none
     else pairs l (i + 2) e (acc ++ [UInt8.ofNat ((hex (l.getD i 0)).toNat * 16 + (hex (l.getD (i + 1) 0)).toNat)]))
  else some acc
termination_by e - i

theorem pairs_step {l : List UInt8} {i e : Nat} {acc : List UInt8} (h : i < e) (ha : 0 ≤ hex (l.getD i 0)) (hb : 0 ≤ hex (l.getD (i + 1) 0)) :
    pairs l (i + 2) e (acc ++ [UInt8.ofNat ((hex (l.getD i 0)).toNat * 16 + (hex (l.getD (i + 1) 0)).toNat)]) = pairs l i e acc := by
  rw [pairs.eq_def l i, if_pos h, if_neg (by omega)]
theorem pairs_bad {l : List UInt8} {i e : Nat} {acc : List UInt8} (h : i < e) (ha : hex (l.getD i 0) < 0 ∨ hex (l.getD (i + 1) 0) < 0) : pairs l i e acc = none := by
  rw [pairs.eq_def l i, if_pos h, if_pos ha]
theorem pairs_end {l : List UInt8} {i e : Nat} {acc : List UInt8} (h : e ≤ i) : pairs l i e acc = some acc := by
  rw [pairs.eq_def l i, if_neg (by omega)]

/-- the bytes of a blob whose first quote stands at a place, where it ends, and whether it is one -/
def blob (l : List UInt8) (i : Nat) : List UInt8 × Nat × Bool :=
  let n := Lib.indexByte (l.drop (i + 1)) 39
  if n < 0 ∨ n % 2 = 1 then ([], 0, false)
  else match pairs l (i + 1) (i + 1 + n.toNat) [] with
    | none => ([], 0, false)
    | some b => (b, i + n.toNat + 2, true)
theorem blob_none {l : List UInt8} {i : Nat} (h : Lib.indexByte (l.drop (i + 1)) 39 < 0 ∨ Lib.indexByte (l.drop (i + 1)) 39 % 2 = 1) : blob l i = ([], 0, false) := by
  unfold blob; simp only; rw [if_pos h]
theorem blob_bad {l : List UInt8} {i : Nat} (h : ¬ (Lib.indexByte (l.drop (i + 1)) 39 < 0 ∨ Lib.indexByte (l.drop (i + 1)) 39 % 2 = 1))
    (hp : pairs l (i + 1) (i + 1 + (Lib.indexByte (l.drop (i + 1)) 39).toNat) [] = none) : blob l i = ([], 0, false) := by
  unfold blob; simp only; rw [if_neg h, hp]
theorem blob_some {l b : List UInt8} {i : Nat} (h : ¬ (Lib.indexByte (l.drop (i + 1)) 39 < 0 ∨ Lib.indexByte (l.drop (i + 1)) 39 % 2 = 1))
    (hp : pairs l (i + 1) (i + 1 + (Lib.indexByte (l.drop (i + 1)) 39).toNat) [] = some b) : blob l i = (b, i + (Lib.indexByte (l.drop (i + 1)) 39).toNat + 2, true) := by
  unfold blob; simp only; rw [if_neg h, hp]


/-- are two bytes a sign, is a byte one -/
def pair (a b : UInt8) : Bool := decide ([a, b] ∈ ([[124, 124], [61, 61], [60, 62], [33, 61], [60, 61], [62, 61]] : List (List UInt8)))
def single (c : UInt8) : Bool := decide (0 ≤ Lib.indexByte [40, 41, 44, 59, 46, 42, 43, 45, 47, 37, 61, 60, 62] c)
/-- how long a sign is that begins at a place; 0: there is none -/
def sign (l : List UInt8) (i : Nat) : Nat :=
  if i + 1 < l.length ∧ pair (l.getD i 0) (l.getD (i + 1) 0) = true then 2 else if single (l.getD i 0) = true then 1 else 0
theorem sign_two {l : List UInt8} {i : Nat} (h : i + 1 < l.length) (hp : pair (l.getD i 0) (l.getD (i + 1) 0) = true) : sign l i = 2 := by
  rw [sign, if_pos ⟨h, hp⟩]
theorem sign_one {l : List UInt8} {i : Nat} (h : ¬ (i + 1 < l.length ∧ pair (l.getD i 0) (l.getD (i + 1) 0) = true)) (hs : single (l.getD i 0) = true) : sign l i = 1 := by
  rw [sign, if_neg h, if_pos hs]
theorem sign_none {l : List UInt8} {i : Nat} (h : ¬ (i + 1 < l.length ∧ pair (l.getD i 0) (l.getD (i + 1) 0) = true)) (hs : single (l.getD i 0) = false) : sign l i = 0 := by
  rw [sign, if_neg h, if_neg (by rw [hs]; decide)]
theorem sign_le (l : List UInt8) (i : Nat) (h : i < l.length) : i + sign l i ≤ l.length := by
  unfold sign
  split
  · omega
  · split <;> omega

theorem runEnd_le (p : UInt8 → Bool) (l : List UInt8) (i : Nat) (h : i ≤ l.length) : i ≤ runEnd p l i ∧ runEnd p l i ≤ l.length := by
  induction hn : l.length - i generalizing i with
  | zero => rw [runEnd_end (by omega)]; omega
  | succ n ih =>
    have hlt : i < l.length := by omega
    by_cases hp : p l[i] = true
    · have := ih (i + 1) (by omega) (by omega)
      rw [runEnd_step hlt hp] at this
      omega
    · rw [runEnd_stop hlt (by simpa using hp)]; omega

/-- a piece of a text -/
def cut (l : List UInt8) (i e : Nat) : List UInt8 := (l.drop i).take (e - i)

/-- a token: its kind, its place, what it says -/
structure T where
  kind : Nat
  at_ : Nat
  text : List UInt8
deriving DecidableEq

/-- the token that begins at a place, where it ends, and whether there is one -/
def one (l : List UInt8) (i : Nat) : T × Nat × Bool :=
  if (l.getD i 0).toNat = 39 then (⟨3, i, (quoted l (i + 1) []).1⟩, (quoted l (i + 1) []).2.1, (quoted l (i + 1) []).2.2)
  else if ((l.getD i 0).toNat = 120 ∨ (l.getD i 0).toNat = 88) ∧ i + 1 < l.length ∧ (l.getD (i + 1) 0).toNat = 39 then (⟨4, i, (blob l (i + 1)).1⟩, (blob l (i + 1)).2.1, (blob l (i + 1)).2.2)
  else if (l.getD i 0).toNat = 63 then (⟨5, i, cut l (i + 1) (runEnd digit l (i + 1))⟩, runEnd digit l (i + 1), true)
  else if letter (l.getD i 0) = true then (⟨1, i, cut l i (runEnd word l i)⟩, runEnd word l i, decide (i < runEnd word l i))
  else if digit (l.getD i 0) = true then (⟨2, i, cut l i (runEnd digit l i)⟩, runEnd digit l i, decide (i < runEnd digit l i))
  else (⟨6, i, cut l i (i + sign l i)⟩, i + sign l i, decide (i < i + sign l i))


end Go.Proofs.YtdapnemcdgjeeaaGreatDoor.Tok

/-! The tokens of a whole text, in plain Lean. -/
namespace Go.Proofs.YtdapnemcdgjeeaaGreatDoor.Tok

theorem skip_ge (l : List UInt8) (i : Nat) : i ≤ skip l i := by
  induction hn : l.length - i using Nat.strongRecOn generalizing i with
  | _ n ih =>
    rw [skip]
    split
    · rename_i h
      split
      · have := ih (l.length - (i + 1)) (by omega) (i + 1) rfl; omega
      · split
        · split
          · omega
          · have := ih (l.length - (i + ((Lib.indexByte (l.drop i) 10).toNat + 1))) (by omega) _ rfl; omega
        · omega
    · omega
theorem skip_le (l : List UInt8) (i : Nat) (hi : i ≤ l.length) : skip l i ≤ l.length := by
  induction hn : l.length - i using Nat.strongRecOn generalizing i with
  | _ n ih =>
    rw [skip]
    split
    · rename_i h
      split
      · exact ih (l.length - (i + 1)) (by omega) (i + 1) (by omega) rfl
      · split
        · split
          · omega
          · have hj := indexByte_lt (l.drop i) 10
            rw [List.length_drop] at hj
            exact ih (l.length - (i + ((Lib.indexByte (l.drop i) 10).toNat + 1))) (by omega) _ (by omega) rfl
        · omega
    · omega

theorem quoted_end (l : List UInt8) (i : Nat) (acc : List UInt8) (h : (quoted l i acc).2.2 = true) : i < (quoted l i acc).2.1 ∧ (quoted l i acc).2.1 ≤ l.length := by
  induction hn : l.length - i using Nat.strongRecOn generalizing i acc with
  | _ n ih =>
    by_cases hi : i < l.length
    · by_cases hc : l[i].toNat = 39
      · by_cases h1 : i + 1 < l.length
        · by_cases hd : l[i + 1].toNat = 39
          · rw [← quoted_pair h1 hc hd] at h ⊢
            have := ih _ (by omega) (i + 2) _ h rfl
            omega
          · rw [quoted_close h1 hc hd]; simp; omega
        · rw [quoted_last hi hc h1]; simp; omega
      · rw [← quoted_byte hi hc] at h ⊢
        have := ih _ (by omega) (i + 1) _ h rfl
        omega
    · rw [quoted_open (by omega)] at h; simp at h

theorem blob_end (l : List UInt8) (i : Nat) (h : (blob l i).2.2 = true) : i < (blob l i).2.1 ∧ (blob l i).2.1 ≤ l.length := by
  have hj := indexByte_lt (l.drop (i + 1)) 39
  rw [List.length_drop] at hj
  by_cases hb : Lib.indexByte (l.drop (i + 1)) 39 < 0 ∨ Lib.indexByte (l.drop (i + 1)) 39 % 2 = 1
  · rw [blob_none hb] at h; simp at h
  · cases hp : pairs l (i + 1) (i + 1 + (Lib.indexByte (l.drop (i + 1)) 39).toNat) [] with
    | none => rw [blob_bad hb hp] at h; simp at h
    | some b => rw [blob_some hb hp]; simp; omega

theorem one_end (l : List UInt8) (i : Nat) (hi : i < l.length) (h : (one l i).2.2 = true) : i < (one l i).2.1 ∧ (one l i).2.1 ≤ l.length := by
  have r1 := runEnd_le digit l (i + 1) hi
  have r2 := runEnd_le word l i (by omega)
  have r3 := runEnd_le digit l i (by omega)
  have r4 := sign_le l i hi
  unfold one at h ⊢
  split
  · rename_i hc; rw [if_pos hc] at h; have := quoted_end _ _ _ h; simp only at this ⊢; omega
  · rename_i hc
    rw [if_neg hc] at h
    split
    · rename_i hc; rw [if_pos hc] at h; have := blob_end _ _ h; simp only at this ⊢; omega
    · rename_i hc
      rw [if_neg hc] at h
      split
      · simp only; omega
      · rename_i hc
        rw [if_neg hc] at h
        split
        · rename_i hc; rw [if_pos hc] at h; simp at h ⊢; omega
        · rename_i hc
          rw [if_neg hc] at h
          split
          · rename_i hc; rw [if_pos hc] at h; simp at h ⊢; omega
          · rename_i hc; rw [if_neg hc] at h; simp at h ⊢; omega

/-- the tokens from a place on, each with where it ends, and the first place that is wrong -/
def toks (l : List UInt8) (i : Nat) : List (T × Nat) × Option Nat :=
  if _h : skip l i < l.length then
    (if _h' : (one l (skip l i)).2.2 = true then
      (((one l (skip l i)).1, (one l (skip l i)).2.1) :: (toks l (one l (skip l i)).2.1).1, (toks l (one l (skip l i)).2.1).2)
     else ([], some (skip l i)))
  else ([], none)
termination_by l.length - i
decreasing_by
  all_goals
    have h1 := skip_ge l i
    have h2 := one_end l (skip l i) _h _h'
    omega

theorem toks_end {l : List UInt8} {i : Nat} (h : l.length ≤ skip l i) : toks l i = ([], none) := by
  rw [toks, dif_neg (by omega)]
theorem toks_bad {l : List UInt8} {i : Nat} (h : skip l i < l.length) (ho : (one l (skip l i)).2.2 = false) : toks l i = ([], some (skip l i)) := by
  rw [toks, dif_pos h, dif_neg (by rw [ho]; decide)]
theorem toks_step {l : List UInt8} {i : Nat} (h : skip l i < l.length) (ho : (one l (skip l i)).2.2 = true) :
    toks l i = (((one l (skip l i)).1, (one l (skip l i)).2.1) :: (toks l (one l (skip l i)).2.1).1, (toks l (one l (skip l i)).2.1).2) := by
  rw [toks.eq_def l i, dif_pos h, dif_pos ho]


/-- Scan: the tokens, the place of a fault, the error's number -/
def scan (l : List UInt8) : List T × Nat × Nat :=
  if 2000 < l.length then ([], 0, 3)
  else match (toks l 0).2 with
    | none => ((toks l 0).1.map (·.1), 0, 0)
    | some b => ([], b, 250)
theorem scan_long {l : List UInt8} (h : 2000 < l.length) : scan l = ([], 0, 3) := by rw [scan, if_pos h]
theorem scan_ok {l : List UInt8} {ys : List (T × Nat)} (h : ¬ 2000 < l.length) (ht : toks l 0 = (ys, none)) : scan l = (ys.map (·.1), 0, 0) := by rw [scan, if_neg h, ht]
theorem scan_bad {l : List UInt8} {ys : List (T × Nat)} {b : Nat} (h : ¬ 2000 < l.length) (ht : toks l 0 = (ys, some b)) : scan l = ([], b, 250) := by rw [scan, if_neg h, ht]

theorem toks_len (l : List UInt8) (i : Nat) : (toks l i).1.length ≤ l.length - i := by
  induction hn : l.length - i using Nat.strongRecOn generalizing i with
  | _ n ih =>
    by_cases h : skip l i < l.length
    · cases ho : (one l (skip l i)).2.2 with
      | false => rw [toks_bad h ho]; simp
      | true =>
        have h1 := skip_ge l i
        have h2 := one_end l (skip l i) h ho
        rw [toks_step h ho]
        have := ih (l.length - (one l (skip l i)).2.1) (by omega) _ rfl
        simp only [List.length_cons]
        omega
    · rw [toks_end (by omega)]; simp

end Go.Proofs.YtdapnemcdgjeeaaGreatDoor.Tok

/-! Texts folded, quotes and digits taken back, in plain Lean: what the reference of layer 2 does with the bytes of a text. -/
namespace Go.Proofs.YtdapnemcdgjeeaaGreatDoor.Txt

/-- a byte, A to Z as a to z -/
def lower (c : UInt8) : UInt8 := if 65 ≤ c.toNat ∧ c.toNat ≤ 90 then UInt8.ofNat (c.toNat + 32) else c
theorem lower_up {c : UInt8} (h : 65 ≤ c.toNat ∧ c.toNat ≤ 90) : (lower c).toNat = c.toNat + 32 := by
  rw [lower, if_pos h, UInt8.toNat_ofNat']; omega
theorem lower_no {c : UInt8} (h : ¬ (65 ≤ c.toNat ∧ c.toNat ≤ 90)) : lower c = c := by rw [lower, if_neg h]

/-- what a small digit to the base 16 is worth; -1: it is none -/
def nib (c : UInt8) : Int := if 48 ≤ c.toNat ∧ c.toNat ≤ 57 then (c.toNat : Int) - 48 else if 97 ≤ c.toNat ∧ c.toNat ≤ 102 then (c.toNat : Int) - 87 else -1
theorem nib_le (c : UInt8) : -1 ≤ nib c ∧ nib c ≤ 15 := by
  unfold nib
  split
  · omega
  · split <;> omega

/-- without the blanks at its end -/
def rtrim (l : List UInt8) : List UInt8 := (l.reverse.dropWhile fun c => decide (c.toNat = 32)).reverse
theorem rtrim_nil : rtrim [] = [] := rfl
theorem rtrim_blank (l : List UInt8) (c : UInt8) (h : c.toNat = 32) : rtrim (l ++ [c]) = rtrim l := by simp [rtrim, h]
theorem rtrim_other (l : List UInt8) (c : UInt8) (h : c.toNat ≠ 32) : rtrim (l ++ [c]) = l ++ [c] := by simp [rtrim, h]

/-- a text as a collation takes it -/
def fold (l : List UInt8) (c : Int) : List UInt8 := if c = 2 then rtrim l else if c = 1 then l.map lower else l

/-- the bytes between the quotes of a text's literal; false: there are none -/
def unq : List UInt8 → List UInt8 → List UInt8 × Bool
  | [], acc => (acc, true)
  | [c], acc => if c.toNat = 39 then ([], false) else (acc ++ [c], true)
  | c :: d :: r, acc => if c.toNat = 39 then (if d.toNat = 39 then unq r (acc ++ [d]) else ([], false)) else unq (d :: r) (acc ++ [c])
theorem unq_byte {c : UInt8} (r acc : List UInt8) (h : c.toNat ≠ 39) : unq (c :: r) acc = unq r (acc ++ [c]) := by
  cases r with
  | nil => simp [unq, h]
  | cons d r => rw [unq, if_neg h]
theorem unq_pair {c d : UInt8} (r acc : List UInt8) (h : c.toNat = 39) (hd : d.toNat = 39) : unq (c :: d :: r) acc = unq r (acc ++ [d]) := by
  rw [unq, if_pos h, if_pos hd]
theorem unq_bad {c d : UInt8} (r acc : List UInt8) (h : c.toNat = 39) (hd : d.toNat ≠ 39) : unq (c :: d :: r) acc = ([], false) := by
  rw [unq, if_pos h, if_neg hd]
theorem unq_last {c : UInt8} (acc : List UInt8) (h : c.toNat = 39) : unq [c] acc = ([], false) := by
  rw [unq, if_pos h]

/-- the bytes of a blob's digits; false: there are none -/
def unhex : List UInt8 → List UInt8 → List UInt8 × Bool
  | [], acc => (acc, true)
  | [_], _ => ([], false)
  | c :: d :: r, acc => if nib c < 0 ∨ nib d < 0 then ([], false) else unhex r (acc ++ [UInt8.ofNat ((nib c).toNat * 16 + (nib d).toNat)])
theorem unhex_pair {c d : UInt8} (r acc : List UInt8) (h : 0 ≤ nib c) (hd : 0 ≤ nib d) : unhex (c :: d :: r) acc = unhex r (acc ++ [UInt8.ofNat ((nib c).toNat * 16 + (nib d).toNat)]) := by
  rw [unhex, if_neg (by omega)]
theorem unhex_bad {c d : UInt8} (r acc : List UInt8) (h : nib c < 0 ∨ nib d < 0) : unhex (c :: d :: r) acc = ([], false) := by
  rw [unhex, if_pos h]

/-- the reference's Bytes -/
def bytes (l : List UInt8) (blob : Bool) : List UInt8 × Bool := if blob = true then unhex l [] else unq l []

end Go.Proofs.YtdapnemcdgjeeaaGreatDoor.Txt

/-! The reference's way through the tokens, in plain Lean: the same places, the same texts. -/
namespace Go.Proofs.YtdapnemcdgjeeaaGreatDoor.Tok
open Txt (lower nib unq unhex)

/-- a byte that is not d -/
def non (d c : UInt8) : Bool := decide (c.toNat ≠ d.toNat)

theorem drop_at {l : List UInt8} {i : Nat} (h : i < l.length) : l.drop i = l[i] :: l.drop (i + 1) := List.drop_eq_getElem_cons h
theorem getD_at {l : List UInt8} {i : Nat} (h : i < l.length) : l.getD i 0 = l[i] := by
  rw [List.getD_eq_getElem?_getD, List.getElem?_eq_getElem h]; rfl

theorem indexByte_ge' (l : List UInt8) (c : UInt8) : -1 ≤ Lib.indexByte l c := by
  induction l with
  | nil => simp [Lib.indexByte]
  | cons b l ih => unfold Lib.indexByte; split <;> (first | omega | (split <;> omega))

theorem runEnd_index (d : UInt8) (l : List UInt8) (i : Nat) (h : i ≤ l.length) :
    (Lib.indexByte (l.drop i) d < 0 ∧ runEnd (non d) l i = l.length) ∨ (0 ≤ Lib.indexByte (l.drop i) d ∧ runEnd (non d) l i = i + (Lib.indexByte (l.drop i) d).toNat) := by
  induction hn : l.length - i generalizing i with
  | zero =>
    have : i = l.length := by omega
    subst this
    rw [runEnd_end (Nat.le_refl _), List.drop_length]
    left; simp [Lib.indexByte]
  | succ n ih =>
    have hlt : i < l.length := by omega
    have hg := indexByte_ge' (l.drop (i + 1)) d
    rw [drop_at hlt]
    by_cases hd : l[i] = d
    · rw [runEnd_stop hlt (by simp [non, hd])]
      right; simp [Lib.indexByte, hd]
    · have hd' : ¬ l[i].toNat = d.toNat := fun h => hd (UInt8.toNat_inj.1 h)
      rw [← runEnd_step hlt (by simp [non, hd'])]
      rcases ih (i + 1) (by omega) (by omega) with ⟨h1, h2⟩ | ⟨h1, h2⟩
      · left
        refine ⟨?_, h2⟩
        have : Lib.indexByte (l.drop (i + 1)) d = -1 := by omega
        simp [Lib.indexByte, hd, this]
      · right
        have hne : ¬ Lib.indexByte (l.drop (i + 1)) d = -1 := by omega
        simp only [Lib.indexByte, beq_iff_eq, hd, if_false, hne]
        rw [h2]
        first | omega | (simp [hne]; omega)

theorem runEnd_not {p : UInt8 → Bool} {l : List UInt8} {i : Nat} (h : runEnd p l i < l.length) : p l[runEnd p l i] = false := by
  induction hn : l.length - i using Nat.strongRecOn generalizing i with
  | _ n ih =>
    by_cases hi : i < l.length
    · cases hp : p l[i] with
      | false => have e := runEnd_stop hi hp; simp only [e]; exact hp
      | true =>
        have e := runEnd_step hi hp
        have h' : runEnd p l (i + 1) < l.length := by rw [e]; exact h
        have := ih (l.length - (i + 1)) (by omega) h' rfl
        simp only [e] at this; exact this
    · have e := runEnd_end (p := p) (l := l) (i := i) (by omega)
      omega

theorem dash {l : List UInt8} {i : Nat} (h : i < l.length) : Lib.hasPrefix (l.drop i) [45, 45] = decide (l[i].toNat = 45 ∧ i + 1 < l.length ∧ (l.getD (i + 1) 0).toNat = 45) := by
  have e (c : UInt8) : ((45 : UInt8) == c) = decide (c.toNat = 45) := by
    rw [Bool.eq_iff_iff]; simp only [beq_iff_eq, decide_eq_true_eq, ← UInt8.toNat_inj, show (45 : UInt8).toNat = 45 from rfl]; omega
  rw [drop_at h]
  by_cases h1 : i + 1 < l.length
  · rw [drop_at h1, getD_at h1]
    simp only [Lib.hasPrefix, List.isPrefixOf, e, Bool.and_true, h1, true_and, Bool.decide_and]
  · rw [List.drop_of_length_le (by omega)]
    simp only [Lib.hasPrefix, List.isPrefixOf, h1, false_and, and_false, decide_false, Bool.and_false]

/-- over a remark: to its line's end -/
theorem skip_remark {l : List UInt8} {i : Nat} (h : i < l.length) (hb : blank l[i] = false) (hp : l[i].toNat = 45 ∧ i + 1 < l.length ∧ (l.getD (i + 1) 0).toNat = 45) : skip l (runEnd (non 10) l i) = skip l i := by
  have hpre : Lib.hasPrefix (l.drop i) [45, 45] = true := by rw [dash h]; exact decide_eq_true hp
  rcases runEnd_index 10 l i (by omega) with ⟨h1, h2⟩ | ⟨h1, h2⟩
  · rw [h2, skip_none h hb hpre h1, skip_end (Nat.le_refl _)]
  · have hj := indexByte_lt (l.drop i) 10
    rw [List.length_drop] at hj
    have hlt : runEnd (non 10) l i < l.length := by omega
    have hn := runEnd_not hlt
    have hbl : blank l[runEnd (non 10) l i] = true := by
      simp [non] at hn
      simp [blank, hn]
    rw [← skip_blank hlt hbl, h2, Nat.add_assoc, skip_line h hb hpre h1]

/-- a place, or -1 -/
def fin (q : Nat × Bool) : Int := if q.2 = true then (q.1 : Int) else -1

theorem hex_lower (c : UInt8) : nib (lower c) = hex c := by
  have hc := c.toNat_lt
  by_cases hu : 65 ≤ c.toNat ∧ c.toNat ≤ 90
  · have hl := Txt.lower_up hu
    simp only [nib, hex, digit, hl, decide_eq_true_eq]
    repeat' split
    all_goals omega
  · rw [Txt.lower_no hu]
    simp only [nib, hex, digit, decide_eq_true_eq]
    repeat' split
    all_goals omega
theorem hex_quote {c : UInt8} (h : c.toNat = 39) : hex c = -1 := by unfold hex digit; rw [if_neg (by simp; omega), if_neg (by omega), if_neg (by omega)]

theorem pairs_some (l : List UInt8) (i e : Nat) (acc b : List UInt8) (h : pairs l i e acc = some b) : (e - i) % 2 = 0 → ∀ m, i ≤ m → m < e → 0 ≤ hex (l.getD m 0) := by
  induction hn : e - i using Nat.strongRecOn generalizing i acc with
  | _ n ih =>
    intro hev m hm hme
    have hlt : i < e := by omega
    by_cases hb : hex (l.getD i 0) < 0 ∨ hex (l.getD (i + 1) 0) < 0
    · rw [pairs_bad hlt hb] at h; simp at h
    · rw [← pairs_step hlt (by omega) (by omega)] at h
      have := ih (e - (i + 2)) (by omega) (i + 2) _ h rfl (by omega)
      by_cases h1 : m = i
      · subst h1; omega
      · by_cases h2 : m = i + 1
        · subst h2; omega
        · exact this m (by omega) hme

theorem cut_nil {l : List UInt8} {i e : Nat} (h : e ≤ i) : cut l i e = [] := by simp [cut, show e - i = 0 by omega]
theorem cut_cons {l : List UInt8} {i e : Nat} (h : i < e) (hi : i < l.length) : cut l i e = l[i] :: cut l (i + 1) e := by
  rw [cut, drop_at hi, show e - i = (e - (i + 1)) + 1 by omega, List.take_succ_cons]; rfl

theorem pairs_unhex (l : List UInt8) (i e : Nat) (acc : List UInt8) (he : e ≤ l.length) (hev : (e - i) % 2 = 0) (hh : ∀ m, i ≤ m → m < e → 0 ≤ hex (l.getD m 0)) :
    pairs l i e acc = some (unhex ((cut l i e).map lower) acc).1 := by
  induction hn : e - i using Nat.strongRecOn generalizing i acc with
  | _ n ih =>
    by_cases hlt : i < e
    · have ha := hh i (by omega) hlt
      have hb := hh (i + 1) (by omega) (by omega)
      rw [← pairs_step hlt ha hb, ih (e - (i + 2)) (by omega) (i + 2) _ (by omega) (fun m h1 h2 => hh m (by omega) h2) rfl]
      rw [cut_cons hlt (by omega), cut_cons (show i + 1 < e by omega) (by omega), List.map_cons, List.map_cons, Txt.unhex_pair]
      · rw [hex_lower, hex_lower, getD_at (by omega), getD_at (show i + 1 < l.length by omega)]
      · rw [hex_lower, ← getD_at]; exact ha
      · rw [hex_lower, ← getD_at (show i + 1 < l.length by omega)]; exact hb
    · rw [pairs_end (by omega), cut_nil (by omega)]; rfl

theorem index_at {l : List UInt8} {i j : Nat} (hij : i ≤ j) (hj : j < l.length) (hh : ∀ m, i ≤ m → m < j → 0 ≤ hex (l.getD m 0)) : runEnd (non 39) l i = runEnd (non 39) l j := by
  induction hn : j - i generalizing i with
  | zero => rw [show i = j by omega]
  | succ n ih =>
    have h0 := hh i (by omega) (by omega)
    rw [getD_at (by omega)] at h0
    have hne : l[i].toNat ≠ 39 := fun h => by rw [hex_quote h] at h0; omega
    rw [← runEnd_step (i := i) (by omega) (by simp [non]; exact hne)]
    exact ih (by omega) (fun m h1 h2 => hh m (by omega) h2) (by omega)

theorem blob_quote {l : List UInt8} {i j : Nat} (hij : i + 1 ≤ j) (hj : j < l.length) (hh : ∀ m, i + 1 ≤ m → m < j → 0 ≤ hex (l.getD m 0)) (hq : l[j].toNat = 39) :
    fin (blob l i).2 = if (j - (i + 1)) % 2 = 1 then -1 else (j : Int) + 1 := by
  have hr := index_at hij hj hh
  rw [runEnd_stop hj (by simp [non]; exact hq)] at hr
  rcases runEnd_index 39 l (i + 1) (by omega) with ⟨h1, h2⟩ | ⟨h1, h2⟩
  · omega
  · split
    · rw [blob_none (by omega)]; rfl
    · rw [blob_some (by omega) (pairs_unhex l (i + 1) _ [] (by omega) (by omega) (fun m h3 h4 => hh m h3 (by omega)))]
      simp [fin]; omega

theorem blob_not {l : List UInt8} {i j : Nat} (hij : i + 1 ≤ j) (hj : j < l.length) (hh : ∀ m, i + 1 ≤ m → m < j → 0 ≤ hex (l.getD m 0)) (hq : l[j].toNat ≠ 39) (hx : hex l[j] < 0) :
    fin (blob l i).2 = -1 := by
  have hr := index_at hij hj hh
  have hj1 := runEnd_le (non 39) l (j + 1) (by omega)
  rw [← runEnd_step hj (by simp [non]; exact hq)] at hr
  by_cases hb : Lib.indexByte (l.drop (i + 1)) 39 < 0 ∨ Lib.indexByte (l.drop (i + 1)) 39 % 2 = 1
  · rw [blob_none hb]; rfl
  · rcases runEnd_index 39 l (i + 1) (by omega) with ⟨h1, h2⟩ | ⟨h1, h2⟩
    · omega
    · cases hp : pairs l (i + 1) (i + 1 + (Lib.indexByte (l.drop (i + 1)) 39).toNat) [] with
      | none => rw [blob_bad hb hp]; rfl
      | some b =>
        have := pairs_some _ _ _ _ _ hp (by omega) j (by omega) (by omega)
        rw [getD_at hj] at this
        omega

theorem blob_open {l : List UInt8} {i : Nat} (hi : i + 1 ≤ l.length) (hh : ∀ m, i + 1 ≤ m → m < l.length → 0 ≤ hex (l.getD m 0)) : fin (blob l i).2 = -1 := by
  have hr : runEnd (non 39) l (i + 1) = l.length := by
    rcases Nat.lt_or_ge (i + 1) l.length with h | h
    · have := index_at (l := l) (i := i + 1) (j := l.length - 1) (by omega) (by omega) (fun m h1 h2 => hh m h1 (by omega))
      have hl := hh (l.length - 1) (by omega) (by omega)
      rw [getD_at (by omega)] at hl
      rw [this, ← runEnd_step (by omega) (by simp [non]; exact fun h => by rw [hex_quote h] at hl; omega), runEnd_end (by omega)]; omega
    · rw [runEnd_end h]; omega
  have hj := indexByte_lt (l.drop (i + 1)) 39
  rw [List.length_drop] at hj
  rcases runEnd_index 39 l (i + 1) hi with ⟨h1, _⟩ | ⟨h1, h2⟩
  · rw [blob_none (.inl h1)]; rfl
  · omega

theorem quoted_unq (l : List UInt8) (i : Nat) (acc : List UInt8) (h : (quoted l i acc).2.2 = true) : (unq (cut l i ((quoted l i acc).2.1 - 1)) acc).1 = (quoted l i acc).1 := by
  induction hn : l.length - i using Nat.strongRecOn generalizing i acc with
  | _ n ih =>
    by_cases hi : i < l.length
    · by_cases hc : l[i].toNat = 39
      · by_cases h1 : i + 1 < l.length
        · by_cases hd : l[i + 1].toNat = 39
          · rw [← quoted_pair h1 hc hd] at h ⊢
            have he := quoted_end _ _ _ h
            rw [cut_cons (by omega) hi, cut_cons (by omega) h1, Txt.unq_pair _ _ hc hd]
            exact ih _ (by omega) (i + 2) _ h rfl
          · rw [quoted_close h1 hc hd, cut_nil (by simp)]; rfl
        · rw [quoted_last hi hc h1, cut_nil (by simp)]; rfl
      · rw [← quoted_byte hi hc] at h ⊢
        have he := quoted_end _ _ _ h
        rw [cut_cons (by omega) hi, Txt.unq_byte _ _ hc]
        exact ih _ (by omega) (i + 1) _ h rfl
    · rw [quoted_open (by omega)] at h; simp at h

/-- the bytes that a token's text says -/
def rtext (k : Nat) (l : List UInt8) : List UInt8 :=
  if k = 3 then (unq (cut l 1 (l.length - 1)) []).1
  else if k = 4 then (unhex ((cut l 2 (l.length - 1)).map lower) []).1
  else if k = 5 then l.drop 1
  else l

theorem cut_len {l : List UInt8} {i e : Nat} (h : e ≤ l.length) : (cut l i e).length = e - i := by simp [cut]; omega
theorem cut_cut (l : List UInt8) (i e a b : Nat) (h : e ≤ l.length) (hb : b ≤ e - i) : cut (cut l i e) a b = cut l (i + a) (i + b) := by
  apply List.ext_getElem?
  intro m
  simp only [cut, List.getElem?_take, List.getElem?_drop]
  by_cases hm : m < b - a
  · rw [if_pos hm, if_pos (by omega), if_pos (by omega), Nat.add_assoc]
  · rw [if_neg hm, if_neg (by omega)]

end Go.Proofs.YtdapnemcdgjeeaaGreatDoor.Tok

/-! The token that begins at a place, as the reference finds it, in plain Lean. -/
namespace Go.Proofs.YtdapnemcdgjeeaaGreatDoor.Tok

theorem letter_not {c : UInt8} (h : letter c = true) : c.toNat ≠ 39 ∧ c.toNat ≠ 63 ∧ digit c = false := by
  simp [letter] at h; simp [digit]; omega
theorem digit_not {c : UInt8} (h : digit c = true) : c.toNat ≠ 39 ∧ c.toNat ≠ 63 ∧ c.toNat ≠ 120 ∧ c.toNat ≠ 88 := by
  simp [digit] at h; omega

/-- is it a blob's beginning -/
abbrev isBlob (l : List UInt8) (i : Nat) : Prop := ((l.getD i 0).toNat = 120 ∨ (l.getD i 0).toNat = 88) ∧ i + 1 < l.length ∧ (l.getD (i + 1) 0).toNat = 39

theorem one_quote {l : List UInt8} {i : Nat} (h : (l.getD i 0).toNat = 39) : (fin (one l i).2, (one l i).1.kind) = (fin (quoted l (i + 1) []).2, 3) := by
  rw [one, if_pos h]
theorem one_blob {l : List UInt8} {i : Nat} (h : (l.getD i 0).toNat ≠ 39) (hb : isBlob l i) : (fin (one l i).2, (one l i).1.kind) = (fin (blob l (i + 1)).2, 4) := by
  rw [one, if_neg h, if_pos hb]
theorem one_letter {l : List UInt8} {i : Nat} (hi : i < l.length) (hb : ¬ isBlob l i) (hl : letter (l.getD i 0) = true) : (fin (one l i).2, (one l i).1.kind) = ((runEnd word l (i + 1) : Int), 1) := by
  have hn := letter_not hl
  have hw : word l[i] = true := by rw [← getD_at hi, word, hl]; rfl
  have hle := runEnd_le word l (i + 1) hi
  rw [one, if_neg hn.1, if_neg hb, if_neg hn.2.1, if_pos hl]
  rw [← runEnd_step hi hw]
  simp only [fin]
  rw [if_pos (decide_eq_true (by omega))]
theorem one_mark {l : List UInt8} {i : Nat} (h : (l.getD i 0).toNat = 63) : (fin (one l i).2, (one l i).1.kind) = ((runEnd digit l (i + 1) : Int), 5) := by
  rw [one, if_neg (by omega), if_neg (fun hb => by have := hb.1; omega), if_pos h]
  rfl
theorem one_digit {l : List UInt8} {i : Nat} (hi : i < l.length) (hl : digit (l.getD i 0) = true) : (fin (one l i).2, (one l i).1.kind) = ((runEnd digit l (i + 1) : Int), 2) := by
  have hn := digit_not hl
  have hw : digit l[i] = true := by rw [← getD_at hi, hl]
  have hle := runEnd_le digit l (i + 1) hi
  have hlet : letter (l.getD i 0) = false := by
    cases hq : letter (l.getD i 0) with
    | false => rfl
    | true => have := (letter_not hq).2.2; rw [hl] at this; cases this
  rw [one, if_neg hn.1, if_neg (fun hb => by have := hb.1; omega), if_neg hn.2.1, if_neg (by rw [hlet]; decide), if_pos hl]
  rw [← runEnd_step hi hw]
  simp only [fin]
  rw [if_pos (decide_eq_true (by omega))]
theorem one_other {l : List UInt8} {i : Nat} (h : (l.getD i 0).toNat ≠ 39) (hb : ¬ isBlob l i) (h63 : (l.getD i 0).toNat ≠ 63) (hl : letter (l.getD i 0) = false) (hd : digit (l.getD i 0) = false) :
    one l i = (⟨6, i, cut l i (i + sign l i)⟩, i + sign l i, decide (i < i + sign l i)) := by
  rw [one, if_neg h, if_neg hb, if_neg h63, if_neg (by rw [hl]; decide), if_neg (by rw [hd]; decide)]
theorem one_two {l : List UInt8} {i : Nat} (h : (l.getD i 0).toNat ≠ 39) (hb : ¬ isBlob l i) (h63 : (l.getD i 0).toNat ≠ 63) (hl : letter (l.getD i 0) = false) (hd : digit (l.getD i 0) = false)
    (h2 : i + 1 < l.length) (hp : pair (l.getD i 0) (l.getD (i + 1) 0) = true) : (fin (one l i).2, (one l i).1.kind) = ((i : Int) + 2, 6) := by
  rw [one_other h hb h63 hl hd, sign_two h2 hp]; simp [fin]
theorem one_single {l : List UInt8} {i : Nat} (h : (l.getD i 0).toNat ≠ 39) (hb : ¬ isBlob l i) (h63 : (l.getD i 0).toNat ≠ 63) (hl : letter (l.getD i 0) = false) (hd : digit (l.getD i 0) = false)
    (hp : ¬ (i + 1 < l.length ∧ pair (l.getD i 0) (l.getD (i + 1) 0) = true)) (hs : single (l.getD i 0) = true) : (fin (one l i).2, (one l i).1.kind) = ((i : Int) + 1, 6) := by
  rw [one_other h hb h63 hl hd, sign_one hp hs]; simp [fin]
theorem one_none {l : List UInt8} {i : Nat} (h : (l.getD i 0).toNat ≠ 39) (hb : ¬ isBlob l i) (h63 : (l.getD i 0).toNat ≠ 63) (hl : letter (l.getD i 0) = false) (hd : digit (l.getD i 0) = false)
    (hp : ¬ (i + 1 < l.length ∧ pair (l.getD i 0) (l.getD (i + 1) 0) = true)) (hs : single (l.getD i 0) = false) : (fin (one l i).2, (one l i).1.kind) = (-1, 6) := by
  rw [one_other h hb h63 hl hd, sign_none hp hs]; simp [fin]

theorem fin_neg {q : Nat × Bool} : fin q < 0 ↔ q.2 = false := by
  unfold fin; cases q.2 <;> simp
theorem fin_pos {q : Nat × Bool} (h : q.2 = true) : fin q = (q.1 : Int) := by rw [fin, if_pos h]

theorem blob_text (l : List UInt8) (i : Nat) (h : (blob l i).2.2 = true) : (Txt.unhex ((cut l (i + 1) ((blob l i).2.1 - 1)).map Txt.lower) []).1 = (blob l i).1 ∧ i + 2 ≤ (blob l i).2.1 ∧ (blob l i).2.1 ≤ l.length := by
  have hj := indexByte_lt (l.drop (i + 1)) 39
  rw [List.length_drop] at hj
  by_cases hb : Lib.indexByte (l.drop (i + 1)) 39 < 0 ∨ Lib.indexByte (l.drop (i + 1)) 39 % 2 = 1
  · rw [blob_none hb] at h; simp at h
  · cases hp : pairs l (i + 1) (i + 1 + (Lib.indexByte (l.drop (i + 1)) 39).toNat) [] with
    | none => rw [blob_bad hb hp] at h; simp at h
    | some b =>
      have hh := pairs_some _ _ _ _ _ hp (by omega)
      have hu := pairs_unhex l (i + 1) _ [] (by omega) (by omega) hh
      rw [hp] at hu
      rw [blob_some hb hp]
      simp only
      rw [show i + (Lib.indexByte (l.drop (i + 1)) 39).toNat + 2 - 1 = i + 1 + (Lib.indexByte (l.drop (i + 1)) 39).toNat by omega]
      exact ⟨(Option.some.inj hu).symm, by omega, by omega⟩

/-- the reference's text of a token is the token's -/
theorem one_rtext {l : List UInt8} {i : Nat} (hi : i < l.length) (ho : (one l i).2.2 = true) :
    rtext (one l i).1.kind (cut l i (one l i).2.1) = (one l i).1.text ∧ ((one l i).1.kind = 3 → 2 ≤ (one l i).2.1 - i) ∧ ((one l i).1.kind = 4 → 3 ≤ (one l i).2.1 - i) ∧ (one l i).1.at_ = i := by
  have hend := one_end l i hi ho
  by_cases h1 : (l.getD i 0).toNat = 39
  · have e : one l i = (⟨3, i, (quoted l (i + 1) []).1⟩, (quoted l (i + 1) []).2.1, (quoted l (i + 1) []).2.2) := by rw [one, if_pos h1]
    rw [e] at ho hend ⊢
    simp only at ho hend ⊢
    have hq := quoted_end _ _ _ ho
    refine ⟨?_, fun _ => by omega, fun h => by omega, trivial⟩
    rw [rtext, if_pos rfl, cut_len hend.2, cut_cut _ _ _ _ _ hend.2 (by omega), show i + ((quoted l (i + 1) []).2.1 - i - 1) = (quoted l (i + 1) []).2.1 - 1 by omega]
    exact quoted_unq l (i + 1) [] ho
  · by_cases h2 : isBlob l i
    · have e : one l i = (⟨4, i, (blob l (i + 1)).1⟩, (blob l (i + 1)).2.1, (blob l (i + 1)).2.2) := by rw [one, if_neg h1, if_pos h2]
      rw [e] at ho hend ⊢
      simp only at ho hend ⊢
      have hb := blob_text l (i + 1) ho
      refine ⟨?_, fun h => by omega, fun _ => by omega, trivial⟩
      rw [rtext, if_neg (by decide), if_pos rfl, cut_len hend.2, cut_cut _ _ _ _ _ hend.2 (by omega), show i + ((blob l (i + 1)).2.1 - i - 1) = (blob l (i + 1)).2.1 - 1 by omega]
      exact hb.1
    · by_cases h3 : (l.getD i 0).toNat = 63
      · have e : one l i = (⟨5, i, cut l (i + 1) (runEnd digit l (i + 1))⟩, runEnd digit l (i + 1), true) := by rw [one, if_neg h1, if_neg h2, if_pos h3]
        rw [e] at ho hend ⊢
        simp only at ho hend ⊢
        refine ⟨?_, fun h => by omega, fun h => by omega, trivial⟩
        rw [rtext, if_neg (by decide), if_neg (by decide), if_pos rfl, cut_cons hend.1 hi]
        rfl
      · by_cases h4 : letter (l.getD i 0) = true
        · have e : one l i = (⟨1, i, cut l i (runEnd word l i)⟩, runEnd word l i, decide (i < runEnd word l i)) := by rw [one, if_neg h1, if_neg h2, if_neg h3, if_pos h4]
          rw [e]
          exact ⟨by simp [rtext], fun h => by simp at h, fun h => by simp at h, rfl⟩
        · by_cases h5 : digit (l.getD i 0) = true
          · have e : one l i = (⟨2, i, cut l i (runEnd digit l i)⟩, runEnd digit l i, decide (i < runEnd digit l i)) := by rw [one, if_neg h1, if_neg h2, if_neg h3, if_neg h4, if_pos h5]
            rw [e]
            exact ⟨by simp [rtext], fun h => by simp at h, fun h => by simp at h, rfl⟩
          · have e : one l i = (⟨6, i, cut l i (i + sign l i)⟩, i + sign l i, decide (i < i + sign l i)) := by rw [one, if_neg h1, if_neg h2, if_neg h3, if_neg h4, if_neg h5]
            rw [e]
            exact ⟨by simp [rtext], fun h => by simp at h, fun h => by simp at h, rfl⟩

end Go.Proofs.YtdapnemcdgjeeaaGreatDoor.Tok

/-! Tokens written, in plain Lean: what Print answers. -/
namespace Go.Proofs.YtdapnemcdgjeeaaGreatDoor.Tok

/-- quotes twice -/
def dbl : List UInt8 → List UInt8
  | [] => []
  | c :: r => if c.toNat = 39 then 39 :: 39 :: dbl r else c :: dbl r
theorem dbl_quote {c : UInt8} (r : List UInt8) (h : c.toNat = 39) : dbl (c :: r) = 39 :: 39 :: dbl r := by rw [dbl, if_pos h]
theorem dbl_byte {c : UInt8} (r : List UInt8) (h : c.toNat ≠ 39) : dbl (c :: r) = c :: dbl r := by rw [dbl, if_neg h]
theorem dbl_len (l : List UInt8) : (dbl l).length ≤ 2 * l.length := by
  induction l with
  | nil => simp [dbl]
  | cons c r ih => rw [dbl]; split <;> simp only [List.length_cons] <;> omega
theorem dbl_append (a b : List UInt8) : dbl (a ++ b) = dbl a ++ dbl b := by
  induction a with
  | nil => rfl
  | cons c r ih => rw [List.cons_append, dbl, dbl, ih]; split <;> rfl

theorem replaceK_dbl (l : List UInt8) : Lib.replaceK [39] [39, 39] (Lib.count l [39]) l = dbl l := by
  induction l with
  | nil => rw [Lib.count_miss (by simp [Lib.index])]; rfl
  | cons b r ih =>
    by_cases hb : b = 39
    · subst hb
      rw [Lib.count_cons_eq, Nat.add_comm, Lib.replaceK_hit _ _ _ _ 0 (by rw [Lib.index]; simp [List.isPrefixOf])]
      simp [dbl, ih]
    · rw [Lib.count_cons_ne _ _ _ hb]
      have hd : dbl (b :: r) = b :: dbl r := dbl_byte r (fun h => hb (UInt8.toNat_inj.1 h))
      rw [hd, ← ih]
      cases hk : Lib.count r [39] with
      | zero => rfl
      | succ k =>
        obtain ⟨i, hi⟩ := Lib.index_of_count (s := r) (old := [39]) (by omega)
        have hi' : Lib.index (b :: r) [39] = ((i + 1 : Nat) : Int) := by
          have hp : ([39] : List UInt8).isPrefixOf (b :: r) = false := by simp [List.isPrefixOf]; exact fun h => hb h.symm
          rw [Lib.index, hp, hi]
          have : ¬ ((i : Int) = -1) := by omega
          simp [this]
        rw [Lib.replaceK_hit _ _ _ _ _ hi', Lib.replaceK_hit _ _ _ _ _ hi]
        simp
theorem replaceAll_dbl (l : List UInt8) : Lib.replaceAll l [39] [39, 39] = dbl l := by
  rw [Lib.replaceAll, Lib.replace, if_neg (by decide), Lib.replaceNum, if_pos (by omega)]
  exact replaceK_dbl l

/-- a small digit to the base 16 -/
def dig (n : Nat) : UInt8 := if n < 10 then UInt8.ofNat (48 + n) else UInt8.ofNat (87 + n)
theorem dig_hex {n : Nat} (h : n < 16) : hex (dig n) = (n : Int) ∧ (dig n).toNat ≠ 39 := by
  have all : ∀ m : Fin 16, hex (dig m.val) = (m.val : Int) ∧ (dig m.val).toNat ≠ 39 := by decide
  exact all ⟨n, h⟩
/-- bytes as digits -/
def hexs : List UInt8 → List UInt8
  | [] => []
  | c :: r => dig (c.toNat / 16) :: dig (c.toNat % 16) :: hexs r
theorem hexs_len (l : List UInt8) : (hexs l).length = 2 * l.length := by
  induction l with
  | nil => rfl
  | cons c r ih => simp only [hexs, List.length_cons]; omega
theorem hexs_append (a b : List UInt8) : hexs (a ++ b) = hexs a ++ hexs b := by
  induction a with
  | nil => rfl
  | cons c r ih => rw [List.cons_append, hexs, hexs, ih]; rfl

theorem one_at (l : List UInt8) (i : Nat) : (one l i).1.at_ = i := by
  unfold one
  repeat' split
  all_goals rfl

/-- a token's text, or nothing -/
def written (k : Int) (t : List UInt8) : Option (List UInt8) :=
  if k = 3 then some (39 :: (dbl t ++ [39]))
  else if k = 4 then some (120 :: 39 :: (hexs t ++ [39]))
  else if k = 5 then (if runEnd digit t 0 = t.length then some (63 :: t) else none)
  else if k = 1 ∨ k = 2 ∨ k = 6 then (if t ≠ [] ∧ (one t 0).2.2 = true ∧ (one t 0).2.1 = t.length ∧ ((one t 0).1.kind : Int) = k then some t else none)
  else none
theorem written_text (t : List UInt8) : written 3 t = some (39 :: (dbl t ++ [39])) := by rw [written, if_pos rfl]
theorem written_blob (t : List UInt8) : written 4 t = some (120 :: 39 :: (hexs t ++ [39])) := by rw [written, if_neg (by decide), if_pos rfl]
theorem written_param (t : List UInt8) : written 5 t = if runEnd digit t 0 = t.length then some (63 :: t) else none := by rw [written, if_neg (by decide), if_neg (by decide), if_pos rfl]
theorem written_as {k : Int} (t : List UInt8) (h : k = 1 ∨ k = 2 ∨ k = 6) : written k t = if t ≠ [] ∧ (one t 0).2.2 = true ∧ (one t 0).2.1 = t.length ∧ ((one t 0).1.kind : Int) = k then some t else none := by
  rw [written, if_neg (by omega), if_neg (by omega), if_neg (by omega), if_pos h]
theorem written_no {k : Int} (t : List UInt8) (h : k < 1 ∨ 6 < k) : written k t = none := by
  rw [written, if_neg (by omega), if_neg (by omega), if_neg (by omega), if_neg (by omega)]
theorem written_len {k : Int} {t x : List UInt8} (h : written k t = some x) : x.length ≤ 2 * t.length + 3 := by
  have h1 := dbl_len t
  have h2 := hexs_len t
  unfold written at h
  split at h
  · cases h; simp only [List.length_cons, List.length_append, List.length_nil]; omega
  · split at h
    · cases h; simp only [List.length_cons, List.length_append, List.length_nil]; omega
    · split at h
      · split at h
        · cases h; simp only [List.length_cons]; omega
        · cases h
      · split at h
        · split at h
          · cases h; omega
          · cases h
        · cases h

/-- a token that is given: of any kind, at any place -/
structure G where
  kind : Int
  at_ : Int
  text : List UInt8

/-- all texts, or nothing -/
def wall : List G → Option (List (List UInt8))
  | [] => some []
  | g :: r => match written g.kind g.text, wall r with
    | some w, some ws => some (w :: ws)
    | _, _ => none
theorem wall_nil : wall [] = some [] := rfl
theorem wall_cons {g : G} {r : List G} {w : List UInt8} {ws : List (List UInt8)} (h : written g.kind g.text = some w) (hr : wall r = some ws) : wall (g :: r) = some (w :: ws) := by
  simp only [wall, h, hr]
theorem wall_cons_inv {g : G} {r : List G} {ws : List (List UInt8)} (h : wall (g :: r) = some ws) : ∃ w ws', written g.kind g.text = some w ∧ wall r = some ws' ∧ ws = w :: ws' := by
  simp only [wall] at h
  cases h1 : written g.kind g.text with
  | none => rw [h1] at h; cases h
  | some w =>
    cases h2 : wall r with
    | none => rw [h1, h2] at h; cases h
    | some ws' => rw [h1, h2] at h; cases h; exact ⟨w, ws', rfl, rfl, rfl⟩
theorem wall_snoc {l : List G} {g : G} {w : List UInt8} {ws : List (List UInt8)} (h : wall l = some ws) (hg : written g.kind g.text = some w) : wall (l ++ [g]) = some (ws ++ [w]) := by
  induction l generalizing ws with
  | nil => cases h; exact wall_cons hg rfl
  | cons a r ih =>
    obtain ⟨w', ws', h1, h2, rfl⟩ := wall_cons_inv h
    exact wall_cons h1 (ih h2)
theorem wall_none {l : List G} {g : G} {i : Nat} (hi : l[i]? = some g) (hg : written g.kind g.text = none) : wall l = none := by
  induction l generalizing i with
  | nil => simp at hi
  | cons a r ih =>
    cases i with
    | zero => simp at hi; subst hi; simp only [wall, hg]
    | succ i =>
      simp at hi
      simp only [wall, ih hi]
      split <;> simp_all
theorem wall_len {l : List G} {ws : List (List UInt8)} (h : wall l = some ws) : ws.length = l.length := by
  induction l generalizing ws with
  | nil => cases h; rfl
  | cons a r ih =>
    obtain ⟨w', ws', h1, h2, rfl⟩ := wall_cons_inv h
    simp [ih h2]

/-- Print: the text and the error's number -/
def print (l : List G) : List UInt8 × Nat := match wall l with
  | some ws => (Lib.join ws [32], 0)
  | none => ([], 2)
theorem print_ok {l : List G} {ws : List (List UInt8)} (h : wall l = some ws) : print l = (Lib.join ws [32], 0) := by rw [print, h]
theorem print_bad {l : List G} (h : wall l = none) : print l = ([], 2) := by rw [print, h]

theorem join_snoc {ws : List (List UInt8)} (w sep : List UInt8) (h : ws ≠ []) : Lib.join (ws ++ [w]) sep = Lib.join ws sep ++ sep ++ w := by
  cases ws with
  | nil => exact absurd rfl h
  | cons x r => rw [List.cons_append, Lib.join_cons, Lib.join_cons, Lib.joinTail, Lib.joinTail]; simp
theorem join_len (ws : List (List UInt8)) (B : Nat) (h : ∀ w ∈ ws, w.length ≤ B) : (Lib.join ws [32]).length ≤ ws.length * (B + 1) := by
  cases ws with
  | nil => simp [Lib.join_nil]
  | cons x r =>
    rw [Lib.join_cons, List.length_append]
    have hx := h x (by simp)
    have hr : (Lib.joinTail [32] r).length ≤ r.length * (B + 1) := by
      have hr' : ∀ w ∈ r, w.length ≤ B := fun w hw => h w (by simp [hw])
      clear h hx
      induction r with
      | nil => simp [Lib.joinTail]
      | cons y r ih =>
        have hy := hr' y (by simp)
        have := ih (fun w hw => hr' w (by simp [hw]))
        have e : Lib.joinTail [32] (y :: r) = 32 :: (y ++ Lib.joinTail [32] r) := rfl
        rw [e, List.length_cons, List.length_append, List.length_cons, Nat.add_mul, Nat.one_mul]
        omega
    rw [List.length_cons, Nat.add_mul, Nat.one_mul]
    omega

theorem runEnd_cons (p : UInt8 → Bool) (c : UInt8) (t : List UInt8) (i : Nat) : runEnd p (c :: t) (i + 1) = runEnd p t i + 1 := by
  induction hn : t.length - i generalizing i with
  | zero => rw [runEnd_end (by simp; omega), runEnd_end (by omega)]
  | succ n ih =>
    have hi : i < t.length := by omega
    have hi' : i + 1 < (c :: t).length := by simp; omega
    cases hp : p t[i] with
    | false => rw [runEnd_stop hi hp, runEnd_stop hi' (by simpa using hp)]
    | true => rw [← runEnd_step hi hp, ← runEnd_step hi' (by simpa using hp)]; exact ih (i + 1) (by omega)

end Go.Proofs.YtdapnemcdgjeeaaGreatDoor.Tok

/-! Values written and read, in plain Lean. -/
namespace Go.Proofs.YtdapnemcdgjeeaaGreatDoor.Val
open Tok (dbl hexs dig cut)

structure V where
  kind : Int
  int : Int
  text : List UInt8
deriving DecidableEq
def zero : V := ⟨0, 0, []⟩

/-- may a value be -/
def may (v : V) : Bool := decide (v.kind = 0 ∧ v.int = 0 ∧ v.text = [] ∨ v.kind = 1 ∧ v.text = [] ∨ (v.kind = 2 ∨ v.kind = 3) ∧ v.int = 0 ∧ v.text.length ≤ 400)
/-- a value's literal, and the error's number -/
def print (v : V) : List UInt8 × Nat :=
  if may v = true then
    (if v.kind = 0 then ([78, 85, 76, 76], 0) else if v.kind = 1 then (Lib.itoa v.int, 0)
     else if v.kind = 2 then (39 :: (dbl v.text ++ [39]), 0) else (120 :: 39 :: (hexs v.text ++ [39]), 0))
  else ([], 2)
theorem print_no {v : V} (h : may v = false) : print v = ([], 2) := by rw [print, if_neg (by rw [h]; decide)]
theorem print_null {v : V} (h : may v = true) (hk : v.kind = 0) : print v = ([78, 85, 76, 76], 0) := by rw [print, if_pos h, if_pos hk]
theorem print_int {v : V} (h : may v = true) (hk : v.kind = 1) : print v = (Lib.itoa v.int, 0) := by rw [print, if_pos h, if_neg (by omega), if_pos hk]
theorem print_text {v : V} (h : may v = true) (hk : v.kind = 2) : print v = (39 :: (dbl v.text ++ [39]), 0) := by rw [print, if_pos h, if_neg (by omega), if_neg (by omega), if_pos hk]
theorem print_blob {v : V} (h : may v = true) (hk : v.kind = 3) : print v = (120 :: 39 :: (hexs v.text ++ [39]), 0) := by rw [print, if_pos h, if_neg (by omega), if_neg (by omega), if_neg (by omega)]
theorem may_iff {v : V} : may v = true ↔ (v.kind = 0 ∧ v.int = 0 ∧ v.text = [] ∨ v.kind = 1 ∧ v.text = [] ∨ (v.kind = 2 ∨ v.kind = 3) ∧ v.int = 0 ∧ v.text.length ≤ 400) := decide_eq_true_iff
theorem itoa_len (n : Int) (h0 : -9223372036854775808 ≤ n) (h1 : n ≤ 9223372036854775807) : (Lib.itoa n).length ≤ 21 := by
  have key : ∀ u : Nat, u < 10 ^ 20 → (Lib.decDigits u).length ≤ 20 := by
    have step : ∀ (k u : Nat), u < 10 ^ (k + 1) → (Lib.decDigits u).length ≤ k + 1 := by
      intro k
      induction k with
      | zero => intro u hu; rw [Lib.decDigits, dif_pos (by simpa using hu)]; simp
      | succ k ih =>
        intro u hu
        by_cases h : u < 10
        · rw [Lib.decDigits, dif_pos h]; simp
        · rw [Lib.decDigits, dif_neg h]
          have := ih (u / 10) (by rw [Nat.pow_succ] at hu; omega)
          simp; omega
    exact fun u hu => step 19 u hu
  unfold Lib.itoa
  split
  · have := key n.natAbs (by omega)
    simp; omega
  · have := key n.toNat (by omega)
    omega

/-- the value that a text may be the literal of -/
def guess (s : List UInt8) : V :=
  match Lib.parseIntB 64 s with
  | .ok n => ⟨1, n, []⟩
  | _ =>
    if 2 ≤ s.length ∧ (s.getD 0 0).toNat = 39 then ⟨2, 0, Lib.replaceAll (cut s 1 (s.length - 1)) [39, 39] [39]⟩
    else if 3 ≤ s.length ∧ (s.getD 0 0).toNat = 120 ∧ (Txt.unhex (cut s 2 (s.length - 1)) []).2 = true then ⟨3, 0, (Txt.unhex (cut s 2 (s.length - 1)) []).1⟩
    else zero
theorem guess_ok {s : List UInt8} {n : Int} (h : Lib.parseIntB 64 s = .ok n) : guess s = ⟨1, n, []⟩ := by unfold guess; rw [h]
theorem guess_else {s : List UInt8} (h : ∀ n, Lib.parseIntB 64 s ≠ .ok n) : guess s = if 2 ≤ s.length ∧ (s.getD 0 0).toNat = 39 then ⟨2, 0, Lib.replaceAll (cut s 1 (s.length - 1)) [39, 39] [39]⟩
    else if 3 ≤ s.length ∧ (s.getD 0 0).toNat = 120 ∧ (Txt.unhex (cut s 2 (s.length - 1)) []).2 = true then ⟨3, 0, (Txt.unhex (cut s 2 (s.length - 1)) []).1⟩
    else zero := by
  unfold guess
  split
  · rename_i n hn; exact absurd hn (h n)
  · rfl
/-- the value of a literal, and the error's number -/
def read (s : List UInt8) : V × Nat :=
  if 1000 < s.length then (zero, 3)
  else if (print (guess s)).2 = 0 ∧ (print (guess s)).1 = s then (guess s, 0) else (zero, 120)

end Go.Proofs.YtdapnemcdgjeeaaGreatDoor.Val

/-! What the guess of a text's value holds, in plain Lean. -/
namespace Go.Proofs.YtdapnemcdgjeeaaGreatDoor.Val

theorem replaceK_len (old new : List UInt8) : ∀ (k : Nat) (s : List UInt8), (Lib.replaceK old new k s).length ≤ s.length + k * new.length
  | 0, s => by simp [Lib.replaceK]
  | k + 1, s => by
    rw [Lib.replaceK]
    split
    · omega
    · have := replaceK_len old new k (s.drop ((Lib.index s old).toNat + old.length))
      rw [List.length_append, List.length_append, List.length_take, Nat.add_mul, Nat.one_mul]
      rw [List.length_drop] at this
      omega
theorem replaceAll_len (s old new : List UInt8) : (Lib.replaceAll s old new).length ≤ s.length + (s.length + 1) * new.length := by
  rw [Lib.replaceAll, Lib.replace]
  split
  · omega
  · have h1 := replaceK_len old new (Lib.replaceNum s old (-1)) s
    have h2 : Lib.replaceNum s old (-1) ≤ s.length + 1 := by
      rw [Lib.replaceNum, if_pos (by omega)]; exact Lib.count_le s old
    have h3 : Lib.replaceNum s old (-1) * new.length ≤ (s.length + 1) * new.length := Nat.mul_le_mul_right _ h2
    omega
theorem unhex_len : ∀ (l acc : List UInt8), (Txt.unhex l acc).1.length ≤ acc.length + l.length
  | [], acc => by simp [Txt.unhex]
  | [_], acc => by simp [Txt.unhex]
  | c :: d :: r, acc => by
    rw [Txt.unhex]
    split
    · simp
    · have := unhex_len r (acc ++ [UInt8.ofNat ((Txt.nib c).toNat * 16 + (Txt.nib d).toNat)])
      simp at this ⊢; omega
theorem guess_fits (s : List UInt8) : (guess s).text.length ≤ 2 * s.length + 1 ∧ -9223372036854775808 ≤ (guess s).int ∧ (guess s).int ≤ 9223372036854775807 := by
  by_cases hok : ∃ n, Lib.parseIntB 64 s = .ok n
  · obtain ⟨n, hn⟩ := hok
    rw [guess_ok hn]
    refine ⟨by simp, ?_⟩
    simp only
    unfold Lib.parseIntB at hn
    split at hn
    · cases hn
    · simp only at hn
      split at hn
      · cases hn
      · cases hn
      · rename_i u _
        split at hn
        · cases hn
        · split at hn
          · cases hn
          · rename_i h1 h2
            cases hn
            split <;> simp_all <;> omega
  · have h : ∀ n, Lib.parseIntB 64 s ≠ .ok n := fun n hn => hok ⟨n, hn⟩
    rw [guess_else h]
    have hc : ∀ i e, (Tok.cut s i e).length ≤ s.length := fun i e => by simp [Tok.cut]; omega
    split
    · refine ⟨?_, by simp, by simp⟩
      have h1 := replaceAll_len (Tok.cut s 1 (s.length - 1)) [39, 39] [39]
      have h2 := hc 1 (s.length - 1)
      simp only [List.length_cons, List.length_nil] at h1 ⊢
      omega
    · split
      · refine ⟨?_, by simp, by simp⟩
        have h1 := unhex_len (Tok.cut s 2 (s.length - 1)) []
        have h2 := hc 2 (s.length - 1)
        simp only [List.length_nil] at h1 ⊢
        omega
      · simp [zero]

end Go.Proofs.YtdapnemcdgjeeaaGreatDoor.Val

/-! A value that is written is read as itself, in plain Lean. -/
namespace Go.Proofs.YtdapnemcdgjeeaaGreatDoor.Val
open Tok (dbl hexs dig cut)

theorem parse_first {c : UInt8} {r : List UInt8} (h : ¬ (48 ≤ c.toNat ∧ c.toNat ≤ 57)) (h1 : c.toNat ≠ 43) (h2 : c.toNat ≠ 45) : ∀ n, Lib.parseIntB 64 (c :: r) ≠ .ok n := by
  intro n hn
  unfold Lib.parseIntB at hn
  simp only [h1, h2, or_self, if_false] at hn
  unfold Lib.parseUintB at hn
  rw [if_neg (by simp), Lib.parseUintM, if_neg h] at hn
  simp at hn

theorem parseM_snoc (M : Nat) (c : UInt8) (hc : 48 ≤ c.toNat ∧ c.toNat ≤ 57) : ∀ (l : List UInt8) (acc a : Nat), Lib.parseUintM M acc l = .ok a → a < 1844674407370955162 → a * 10 + (c.toNat - 48) ≤ M → Lib.parseUintM M acc (l ++ [c]) = .ok (a * 10 + (c.toNat - 48))
  | [], acc, a, h, h1, h2 => by
    rw [Lib.parseUintM] at h
    cases h
    rw [List.nil_append, Lib.parseUintM, if_pos hc, if_neg (by omega), if_neg (by omega), Lib.parseUintM]
  | d :: l, acc, a, h, h1, h2 => by
    rw [Lib.parseUintM] at h
    rw [List.cons_append, Lib.parseUintM]
    split at h
    · rename_i hd
      rw [if_pos hd]
      split at h
      · cases h
      · rename_i h3
        rw [if_neg h3]
        split at h
        · cases h
        · rename_i h4
          rw [if_neg h4]
          exact parseM_snoc M c hc l _ a h h1 h2
    · cases h

theorem digit_nat {d : Nat} (h : d < 10) : (UInt8.ofNat (48 + d)).toNat = 48 + d := by rw [UInt8.toNat_ofNat']; omega
theorem parseM_digits (M : Nat) (hM : M ≤ 18446744073709551615) : ∀ u, u ≤ M → Lib.parseUintM M 0 (Lib.decDigits u) = .ok u := by
  intro u
  induction u using Nat.strongRecOn with
  | _ u ih =>
    intro hu
    by_cases h : u < 10
    · have hd := digit_nat h
      rw [Lib.decDigits, dif_pos h, Lib.parseUintM, if_pos (by omega), if_neg (by omega), if_neg (by omega), Lib.parseUintM, hd]
      congr 1; omega
    · have hd := digit_nat (show u % 10 < 10 by omega)
      rw [Lib.decDigits, dif_neg h]
      have := parseM_snoc M (UInt8.ofNat (48 + u % 10)) (by omega) (Lib.decDigits (u / 10)) 0 (u / 10) (ih (u / 10) (by omega) (by omega)) (by omega) (by omega)
      rw [this, hd]
      congr 1; omega
theorem dec_first (u : Nat) : ∃ c r, Lib.decDigits u = c :: r ∧ 48 ≤ c.toNat ∧ c.toNat ≤ 57 := by
  induction u using Nat.strongRecOn with
  | _ u ih =>
    by_cases h : u < 10
    · have hd := digit_nat h
      exact ⟨_, [], by rw [Lib.decDigits, dif_pos h], by omega, by omega⟩
    · obtain ⟨c, r, e, h1, h2⟩ := ih (u / 10) (by omega)
      exact ⟨c, r ++ [UInt8.ofNat (48 + u % 10)], by rw [Lib.decDigits, dif_neg h, e]; rfl, h1, h2⟩
theorem parse_itoa (n : Int) (h0 : -9223372036854775808 ≤ n) (h1 : n ≤ 9223372036854775807) : Lib.parseIntB 64 (Lib.itoa n) = .ok n := by
  unfold Lib.itoa
  by_cases hn : n < 0
  · rw [if_pos hn]
    obtain ⟨c, r, e, _⟩ := dec_first n.natAbs
    have hp := parseM_digits (2 ^ 64 - 1) (by decide) n.natAbs (by omega)
    unfold Lib.parseIntB Lib.parseUintB
    simp only [show (45 : UInt8).toNat = 45 from rfl, or_true, if_true]
    rw [if_neg (by rw [e]; simp), hp]
    simp only [not_true, false_and, if_false, true_and]
    rw [if_neg (by omega)]
    congr 1; omega
  · rw [if_neg hn]
    obtain ⟨c, r, e, h2, h3⟩ := dec_first n.toNat
    have hp := parseM_digits (2 ^ 64 - 1) (by decide) n.toNat (by omega)
    rw [e] at hp ⊢
    unfold Lib.parseIntB Lib.parseUintB
    have c2 : ¬ c.toNat = 45 := by omega
    have c3 : ¬ c.toNat = 43 := by omega
    simp only [c2, c3, or_self, if_false]
    rw [if_neg (by simp), hp]
    simp only [not_false_eq_true, true_and, false_and, if_false]
    rw [if_neg (by omega)]
    congr 1; omega

/-- quotes taken back -/
theorem index_two (l : List UInt8) (b : UInt8) : Lib.index (b :: l) [39, 39] = if ([39, 39] : List UInt8).isPrefixOf (b :: l) then 0 else if Lib.index l [39, 39] = -1 then -1 else Lib.index l [39, 39] + 1 := by
  rw [Lib.index]
  split
  · rfl
  · simp only [beq_iff_eq]
theorem replaceK_undbl (l : List UInt8) : Lib.replaceK [39, 39] [39] (Lib.count (dbl l) [39, 39]) (dbl l) = l := by
  induction l with
  | nil => rw [dbl, Lib.count_miss (by simp [Lib.index])]; rfl
  | cons c r ih =>
    by_cases hc : c.toNat = 39
    · have hcc : c = 39 := UInt8.toNat_inj.1 hc
      subst hcc
      rw [Tok.dbl_quote r hc]
      have hi : Lib.index (39 :: 39 :: dbl r) [39, 39] = ((0 : Nat) : Int) := by rw [index_two, if_pos (by simp [List.isPrefixOf])]; rfl
      rw [Lib.count_hit (by simp) hi, Nat.add_comm, Lib.replaceK_hit _ _ _ _ 0 hi]
      simp only [List.length_cons, List.length_nil, Nat.zero_add, List.drop_succ_cons, List.drop_zero, List.take_zero, List.nil_append]
      rw [ih]; rfl
    · rw [Tok.dbl_byte r hc]
      have hp : ([39, 39] : List UInt8).isPrefixOf (c :: dbl r) = false := by
        have : ¬ (39 : UInt8) = c := fun h => hc (by rw [← h]; rfl)
        simp [List.isPrefixOf, this]
      by_cases hm : Lib.index (dbl r) [39, 39] = -1
      · have hi : Lib.index (c :: dbl r) [39, 39] = -1 := by rw [index_two, hp, if_neg (by simp), if_pos hm]
        rw [Lib.count_miss hm] at ih
        rw [Lib.count_miss hi]
        rw [Lib.replaceK] at ih ⊢
        rw [ih]
      · have hge := Lib.index_ge (dbl r) [39, 39]
        obtain ⟨j, hj⟩ : ∃ j : Nat, Lib.index (dbl r) [39, 39] = j := ⟨(Lib.index (dbl r) [39, 39]).toNat, by omega⟩
        have hi : Lib.index (c :: dbl r) [39, 39] = ((j + 1 : Nat) : Int) := by rw [index_two, hp, if_neg (by simp), if_neg hm, hj]; rfl
        rw [Lib.count_hit (by simp) hj, Nat.add_comm, Lib.replaceK_hit _ _ _ _ j hj] at ih
        rw [Lib.count_hit (by simp) hi, Nat.add_comm, Lib.replaceK_hit _ _ _ _ (j + 1) hi]
        have e : (c :: dbl r).drop (j + 1 + ([39, 39] : List UInt8).length) = (dbl r).drop (j + ([39, 39] : List UInt8).length) := by
          simp only [List.length_cons, List.length_nil]
          rw [show j + 1 + (0 + 1 + 1) = (j + (0 + 1 + 1)) + 1 by omega, List.drop_succ_cons]
        rw [e, List.take_succ_cons, List.cons_append, List.cons_append, ih]
theorem undbl (l : List UInt8) : Lib.replaceAll (dbl l) [39, 39] [39] = l := by
  rw [Lib.replaceAll, Lib.replace, if_neg (by decide), Lib.replaceNum, if_pos (by omega)]
  exact replaceK_undbl l

theorem unhex_hexs (l acc : List UInt8) : Txt.unhex (hexs l) acc = (acc ++ l, true) := by
  induction l generalizing acc with
  | nil => simp [hexs, Txt.unhex]
  | cons c r ih =>
    have hd : ∀ m : Fin 16, Txt.nib (dig m.val) = (m.val : Int) := by decide
    have h1 := hd ⟨c.toNat / 16, by have := c.toNat_lt; omega⟩
    have h2 := hd ⟨c.toNat % 16, by omega⟩
    simp only at h1 h2
    rw [hexs, Txt.unhex_pair _ _ (by rw [h1]; omega) (by rw [h2]; omega), ih, h1, h2]
    have hx : UInt8.ofNat (((c.toNat / 16 : Nat) : Int).toNat * 16 + ((c.toNat % 16 : Nat) : Int).toNat) = c := by
      rw [Int.toNat_natCast, Int.toNat_natCast, show c.toNat / 16 * 16 + c.toNat % 16 = c.toNat by omega]
      exact UInt8.ofNat_toNat
    rw [hx]; simp

theorem cut_mid (a : List UInt8) (c : UInt8) (l : List UInt8) (i : Nat) (hi : a.length = i) : cut (a ++ (l ++ [c])) i ((a ++ (l ++ [c])).length - 1) = l := by
  subst hi
  rw [cut, List.drop_left]
  have : (a ++ (l ++ [c])).length - 1 - a.length = l.length := by simp only [List.length_append, List.length_cons, List.length_nil]; omega
  rw [this, List.take_left]

/-- the guess of a value's literal is the value -/
theorem guess_print {v : V} (h : may v = true) (h0 : -9223372036854775808 ≤ v.int) (h1 : v.int ≤ 9223372036854775807) : guess (print v).1 = v ∧ (print v).2 = 0 ∧ (print v).1.length ≤ 1000 := by
  have hm := may_iff.1 h
  obtain ⟨k, n, t⟩ := v
  simp only at hm h0 h1
  by_cases k0 : k = 0
  · subst k0
    rw [print_null h rfl]
    obtain ⟨rfl, rfl⟩ : n = 0 ∧ t = [] := by
      rcases hm with hh | hh | hh
      · exact ⟨hh.2.1, hh.2.2⟩
      · exact absurd hh.1 (by decide)
      · exact absurd hh.1 (by decide)
    have hg : guess [78, 85, 76, 76] = ⟨0, 0, []⟩ := by decide +kernel
    exact ⟨hg, rfl, by simp⟩
  by_cases k1 : k = 1
  · subst k1
    rw [print_int h rfl]
    obtain rfl : t = [] := by
      rcases hm with hh | hh | hh
      · exact absurd hh.1 (by decide)
      · exact hh.2
      · exact absurd hh.1 (by decide)
    have hl := itoa_len n h0 h1
    exact ⟨guess_ok (parse_itoa n h0 h1), rfl, by simp only; omega⟩
  obtain ⟨k23, rfl, ht⟩ : (k = 2 ∨ k = 3) ∧ n = 0 ∧ t.length ≤ 400 := by
    rcases hm with hh | hh | hh
    · exact absurd hh.1 k0
    · exact absurd hh.1 k1
    · exact hh
  by_cases k2 : k = 2
  · subst k2
    rw [print_text h rfl]
    have hl := Tok.dbl_len t
    refine ⟨?_, rfl, by simp; omega⟩
    simp only
    rw [guess_else (parse_first (by decide) (by decide) (by decide)), if_pos ⟨by simp, rfl⟩]
    have := cut_mid [39] 39 (dbl t) 1 rfl
    rw [show ([39] : List UInt8) ++ (dbl t ++ [39]) = 39 :: (dbl t ++ [39]) from rfl] at this
    rw [this, undbl]
  · obtain rfl : k = 3 := by omega
    rw [print_blob h rfl]
    have hl := Tok.hexs_len t
    refine ⟨?_, rfl, by simp; omega⟩
    simp only
    have := cut_mid [120, 39] 39 (hexs t) 2 rfl
    rw [show ([120, 39] : List UInt8) ++ (hexs t ++ [39]) = 120 :: 39 :: (hexs t ++ [39]) from rfl] at this
    rw [guess_else (parse_first (by decide) (by decide) (by decide)), if_neg (fun hh => absurd (show (120 : Nat) = 39 from hh.2) (by decide)), this, unhex_hexs, if_pos ⟨by simp, rfl, rfl⟩]
    rfl

/-- what is written is read as itself -/
theorem read_print {v : V} (h : may v = true) (h0 : -9223372036854775808 ≤ v.int) (h1 : v.int ≤ 9223372036854775807) : read (print v).1 = (v, 0) := by
  obtain ⟨e1, e2, e3⟩ := guess_print h h0 h1
  rw [read, if_neg (by omega), e1, if_pos ⟨e2, rfl⟩]
/-- what is read is written as it was -/
theorem print_read {s : List UInt8} (h : (read s).2 = 0) : print (read s).1 = (s, 0) ∧ may (read s).1 = true := by
  unfold read at h ⊢
  split at h
  · cases h
  · rename_i hl
    rw [if_neg hl]
    split at h
    · rename_i hp
      rw [if_pos hp]
      simp only
      refine ⟨Prod.ext hp.2 hp.1, ?_⟩
      cases hm : may (guess s) with
      | true => rfl
      | false =>
        rw [print_no hm] at hp
        exact absurd hp.1 (by decide)
    · cases h
theorem read_errs (s : List UInt8) : (read s).2 = 0 ∨ (read s).2 = 120 ∨ (read s).2 = 3 := by
  unfold read
  split
  · exact .inr (.inr rfl)
  · split
    · exact .inl rfl
    · exact .inr (.inl rfl)
theorem print_errs (v : V) : (print v).2 = 0 ∧ may v = true ∨ (print v).2 = 2 ∧ may v = false := by
  cases h : may v with
  | false => rw [print_no h]; exact .inr ⟨rfl, rfl⟩
  | true =>
    left
    unfold print
    rw [if_pos h]
    refine ⟨?_, rfl⟩
    repeat' split
    all_goals rfl

end Go.Proofs.YtdapnemcdgjeeaaGreatDoor.Val

/-! How values and texts stand, in plain Lean. -/
namespace Go.Proofs.YtdapnemcdgjeeaaGreatDoor.Val

/-- how two texts stand under a collation -/
def texts (a b : List UInt8) (c : Int) : Int := Lib.compareBytes (Txt.fold a c) (Txt.fold b c)
/-- how two values stand under a collation -/
def cmp (a b : V) (c : Int) : Int :=
  if may a = true ∧ may b = true then
    (if a.kind ≠ b.kind then Lib.compareInt a.kind b.kind
     else if a.kind = 2 then texts a.text b.text c
     else if a.int ≠ b.int then Lib.compareInt a.int b.int else Lib.compareBytes a.text b.text)
  else 0

theorem u8_lt {x y : UInt8} : x < y ↔ x.toNat < y.toNat := UInt8.lt_iff_toNat_lt
theorem u8_eq {x y : UInt8} : x = y ↔ x.toNat = y.toNat := UInt8.toNat_inj.symm

theorem cb_refl (a : List UInt8) : Lib.compareBytes a a = 0 := by
  induction a with
  | nil => rfl
  | cons x a ih => simp [Lib.compareBytes, ih]
theorem cb_range (a b : List UInt8) : Lib.compareBytes a b = -1 ∨ Lib.compareBytes a b = 0 ∨ Lib.compareBytes a b = 1 := by
  induction a generalizing b with
  | nil => cases b <;> simp [Lib.compareBytes]
  | cons x a ih =>
    cases b with
    | nil => simp [Lib.compareBytes]
    | cons y b =>
      simp only [Lib.compareBytes]
      split
      · simp
      · split
        · simp
        · exact ih b
theorem cb_zero (a b : List UInt8) : Lib.compareBytes a b = 0 ↔ a = b := by
  induction a generalizing b with
  | nil => cases b <;> simp [Lib.compareBytes]
  | cons x a ih =>
    cases b with
    | nil => simp [Lib.compareBytes]
    | cons y b =>
      simp only [Lib.compareBytes, u8_lt, List.cons.injEq]
      split
      · simp [u8_eq]; omega
      · split
        · simp [u8_eq]; omega
        · rw [ih, u8_eq]
          constructor
          · intro h; exact ⟨by omega, h⟩
          · intro h; exact h.2
theorem cb_neg (a b : List UInt8) : Lib.compareBytes b a = - Lib.compareBytes a b := by
  induction a generalizing b with
  | nil => cases b <;> simp [Lib.compareBytes]
  | cons x a ih =>
    cases b with
    | nil => simp [Lib.compareBytes]
    | cons y b =>
      simp only [Lib.compareBytes, u8_lt]
      rw [ih]
      split
      · rw [if_neg (by omega)]
      · split
        · rfl
        · rfl
theorem cb_trans (a b c : List UInt8) (h1 : Lib.compareBytes a b ≤ 0) (h2 : Lib.compareBytes b c ≤ 0) : Lib.compareBytes a c ≤ 0 := by
  induction a generalizing b c with
  | nil => cases c <;> simp [Lib.compareBytes]
  | cons x a ih =>
    cases b with
    | nil => simp [Lib.compareBytes] at h1
    | cons y b =>
      cases c with
      | nil => simp [Lib.compareBytes] at h2
      | cons z c =>
        simp only [Lib.compareBytes, u8_lt] at h1 h2 ⊢
        by_cases h3 : x.toNat < z.toNat
        · rw [if_pos h3]; omega
        · rw [if_neg h3]
          by_cases hxy : x.toNat < y.toNat
          · by_cases hyz : y.toNat < z.toNat
            · omega
            · rw [if_neg hyz] at h2
              by_cases hzy : z.toNat < y.toNat
              · rw [if_pos hzy] at h2; omega
              · omega
          · rw [if_neg hxy] at h1
            by_cases hyx : y.toNat < x.toNat
            · rw [if_pos hyx] at h1; omega
            · rw [if_neg hyx] at h1
              by_cases hyz : y.toNat < z.toNat
              · omega
              · rw [if_neg hyz] at h2
                by_cases hzy : z.toNat < y.toNat
                · rw [if_pos hzy] at h2; omega
                · rw [if_neg hzy] at h2
                  rw [if_neg (by omega)]
                  exact ih b c h1 h2
theorem less_cb (a b : List UInt8) : Op.bytesLess a b = decide (Lib.compareBytes a b = -1) := by
  induction a generalizing b with
  | nil => cases b <;> simp [Lib.compareBytes, Op.bytesLess]
  | cons x a ih =>
    cases b with
    | nil => simp [Lib.compareBytes, Op.bytesLess]
    | cons y b =>
      simp only [Lib.compareBytes, Op.bytesLess, u8_lt]
      by_cases h : x.toNat < y.toNat
      · simp [h]
      · by_cases h2 : y.toNat < x.toNat
        · have : ¬ x = y := by rw [u8_eq]; omega
          simp [h, h2, this]
        · have : x = y := by rw [u8_eq]; omega
          simp [this, ih]

theorem ci_neg (x y : Int) : Lib.compareInt y x = - Lib.compareInt x y := by
  unfold Lib.compareInt
  split <;> split <;> (first | omega | (split <;> omega) | skip)

/-- the order is total -/
theorem cmp_range (a b : V) (c : Int) : cmp a b c = -1 ∨ cmp a b c = 0 ∨ cmp a b c = 1 := by
  have hci : ∀ x y : Int, Lib.compareInt x y = -1 ∨ Lib.compareInt x y = 0 ∨ Lib.compareInt x y = 1 := by
    intro x y; unfold Lib.compareInt; split
    · simp
    · split <;> simp
  unfold cmp texts
  split
  · split
    · exact hci _ _
    · split
      · exact cb_range _ _
      · split
        · exact hci _ _
        · exact cb_range _ _
  · simp
theorem cmp_neg (a b : V) (c : Int) : cmp b a c = - cmp a b c := by
  unfold cmp texts
  by_cases hm : may a = true ∧ may b = true
  · have hm2 : may b = true ∧ may a = true := ⟨hm.2, hm.1⟩
    simp only [hm, hm2, and_self, if_true, ne_eq]
    by_cases hk : a.kind = b.kind
    · have hk2 : b.kind = a.kind := hk.symm
      simp only [hk, not_true_eq_false, if_false]
      by_cases h2 : b.kind = 2
      · simp only [h2, if_true]; exact cb_neg _ _
      · simp only [h2, if_false]
        by_cases hi : a.int = b.int
        · simp only [hi, not_true_eq_false, if_false]; exact cb_neg _ _
        · have hi2 : ¬ b.int = a.int := fun h => hi h.symm
          simp only [hi, hi2, not_false_eq_true, if_true]; exact ci_neg _ _
    · have hk2 : ¬ b.kind = a.kind := fun h => hk h.symm
      simp only [hk, hk2, not_false_eq_true, if_true]; exact ci_neg _ _
  · have hm2 : ¬ (may b = true ∧ may a = true) := fun h => hm ⟨h.2, h.1⟩
    simp only [hm, hm2, if_false]; rfl
theorem cmp_self (a : V) (c : Int) : cmp a a c = 0 := by
  unfold cmp texts
  simp [cb_refl]
theorem ci_le {x y : Int} : Lib.compareInt x y ≤ 0 ↔ x ≤ y := by
  unfold Lib.compareInt
  split
  · omega
  · split <;> omega
theorem cmp_trans (a b d : V) (c : Int) (ha : may a = true) (hb : may b = true) (hd : may d = true) (h1 : cmp a b c ≤ 0) (h2 : cmp b d c ≤ 0) : cmp a d c ≤ 0 := by
  unfold cmp texts at h1 h2 ⊢
  rw [if_pos ⟨ha, hb⟩] at h1
  rw [if_pos ⟨hb, hd⟩] at h2
  rw [if_pos ⟨ha, hd⟩]
  by_cases k1 : a.kind = b.kind
  · rw [if_neg (by simp [k1])] at h1
    by_cases k2 : b.kind = d.kind
    · rw [if_neg (by simp [k2])] at h2
      rw [if_neg (by simp [k1, k2])]
      by_cases t : a.kind = 2
      · rw [if_pos t] at h1 ⊢
        rw [if_pos (by omega)] at h2
        exact cb_trans _ _ _ h1 h2
      · rw [if_neg t] at h1 ⊢
        rw [if_neg (by omega)] at h2
        by_cases i1 : a.int = b.int
        · rw [if_neg (by simp [i1])] at h1
          by_cases i2 : b.int = d.int
          · rw [if_neg (by simp [i2])] at h2
            rw [if_neg (by simp [i1, i2])]
            exact cb_trans _ _ _ h1 h2
          · rw [if_pos i2, ci_le] at h2
            rw [if_pos (by omega), ci_le]; omega
        · rw [if_pos i1, ci_le] at h1
          by_cases i2 : b.int = d.int
          · rw [if_pos (by omega), ci_le]; omega
          · rw [if_pos i2, ci_le] at h2
            rw [if_pos (by omega), ci_le]; omega
    · rw [if_pos k2, ci_le] at h2
      rw [if_pos (by omega), ci_le]; omega
  · rw [if_pos k1, ci_le] at h1
    by_cases k2 : b.kind = d.kind
    · rw [if_pos (by omega), ci_le]; omega
    · rw [if_pos k2, ci_le] at h2
      rw [if_pos (by omega), ci_le]; omega
theorem cmp_one (a b : V) (ha : may a = true) (hb : may b = true) (h : cmp a b 0 = 0) : a = b := by
  have hci : ∀ {x y : Int}, Lib.compareInt x y = 0 → x = y := by
    intro x y h
    unfold Lib.compareInt at h
    split at h
    · omega
    · split at h <;> omega
  unfold cmp texts at h
  rw [if_pos ⟨ha, hb⟩] at h
  obtain ⟨ka, ia, ta⟩ := a
  obtain ⟨kb, ib, tb⟩ := b
  simp only [may_iff] at ha hb
  simp only at h ha hb
  by_cases hk : ka = kb
  · rw [if_neg (by simp [hk])] at h
    by_cases t : ka = 2
    · rw [if_pos t] at h
      simp only [Txt.fold] at h
      rw [if_neg (by decide), if_neg (by decide), if_neg (by decide), if_neg (by decide), cb_zero] at h
      have : ia = ib := by omega
      subst hk h this; rfl
    · rw [if_neg t] at h
      by_cases hi : ia = ib
      · rw [if_neg (by simp [hi]), cb_zero] at h
        subst hk h hi; rfl
      · rw [if_pos hi] at h
        exact absurd (hci h) hi
  · rw [if_pos hk] at h
    exact absurd (hci h) hk

end Go.Proofs.YtdapnemcdgjeeaaGreatDoor.Val

/-! The reference's reading of a number is that of the number's text, in plain Lean. -/
namespace Go.Proofs.YtdapnemcdgjeeaaGreatDoor.Val

/-- one digit more -/
def stepN (neg : Bool) (n : Int) (c : UInt8) : Option Int :=
  if 48 ≤ c.toNat ∧ c.toNat ≤ 57 then
    (if neg = true then (if n < Int.tdiv (-9223372036854775808 + ((c.toNat : Int) - 48)) 10 then none else some (n * 10 - ((c.toNat : Int) - 48)))
     else (if n > Int.tdiv (9223372036854775807 - ((c.toNat : Int) - 48)) 10 then none else some (n * 10 + ((c.toNat : Int) - 48))))
  else none
/-- the reference's number, from a place on -/
def numFrom (neg : Bool) (n : Int) (l : List UInt8) : Option Int := l.foldl (fun o c => o.bind fun m => stepN neg m c) (some n)
theorem fold_none (neg : Bool) (l : List UInt8) : l.foldl (fun o c => o.bind fun m => stepN neg m c) none = none := by
  induction l with
  | nil => rfl
  | cons c r ih => rw [List.foldl_cons]; exact ih
theorem numFrom_nil (neg : Bool) (n : Int) : numFrom neg n [] = some n := rfl
theorem numFrom_some {neg : Bool} {n m : Int} {c : UInt8} (r : List UInt8) (h : stepN neg n c = some m) : numFrom neg n (c :: r) = numFrom neg m r := by
  rw [numFrom, List.foldl_cons, Option.bind_some, h]; rfl
theorem numFrom_none {neg : Bool} {n : Int} {c : UInt8} (r : List UInt8) (h : stepN neg n c = none) : numFrom neg n (c :: r) = none := by
  rw [numFrom, List.foldl_cons, Option.bind_some, h, fold_none]
/-- the digits' worth -/
def valS (a : Nat) (c : UInt8) : Nat := a * 10 + (c.toNat - 48)
def valM (a : Nat) (l : List UInt8) : Nat := l.foldl valS a
theorem valM_nil (a : Nat) : valM a [] = a := rfl
theorem valM_cons (a : Nat) (c : UInt8) (r : List UInt8) : valM a (c :: r) = valM (a * 10 + (c.toNat - 48)) r := by rw [valM, List.foldl_cons, valS, ← valM]
def digs (l : List UInt8) : Prop := ∀ c ∈ l, 48 ≤ c.toNat ∧ c.toNat ≤ 57
theorem digs_cons (c : UInt8) (r : List UInt8) : digs (c :: r) ↔ (48 ≤ c.toNat ∧ c.toNat ≤ 57) ∧ digs r := by
  unfold digs
  rw [List.forall_mem_cons]
attribute [irreducible] valM
theorem valM_ge (l : List UInt8) (a : Nat) : a ≤ valM a l := by
  induction l generalizing a with
  | nil => rw [valM_nil]; exact Nat.le_refl _
  | cons c r ih =>
    have h := ih (a * 10 + (c.toNat - 48))
    rw [valM_cons]
    generalize valM (a * 10 + (c.toNat - 48)) r = v at h ⊢
    omega
theorem valM_append (l r : List UInt8) (a : Nat) : valM a (l ++ r) = valM (valM a l) r := by
  induction l generalizing a with
  | nil => rw [List.nil_append, valM_nil]
  | cons c l ih => rw [List.cons_append, valM_cons, valM_cons, ih]

theorem numFrom_pos (l : List UInt8) (a : Nat) (n : Int) (ha : a ≤ 9223372036854775807) :
    numFrom false (a : Int) l = some n ↔ digs l ∧ (valM a l : Int) = n ∧ n ≤ 9223372036854775807 := by
  induction l generalizing a with
  | nil =>
    rw [numFrom_nil, valM_nil]
    constructor
    · intro h; cases h; exact ⟨(by intro c hc; cases hc), rfl, by omega⟩
    · rintro ⟨_, h, _⟩; rw [h]
  | cons c r ih =>
    rw [valM_cons, digs_cons]
    by_cases hc : 48 ≤ c.toNat ∧ c.toNat ≤ 57
    · have ht : Int.tdiv (9223372036854775807 - ((c.toNat : Int) - 48)) 10 = (9223372036854775807 - ((c.toNat : Int) - 48)) / 10 := Int.tdiv_eq_ediv_of_nonneg (by omega)
      by_cases hb : (a : Int) > (9223372036854775807 - ((c.toNat : Int) - 48)) / 10
      · rw [numFrom_none r (by rw [stepN, if_pos hc, if_neg (by decide), ht, if_pos hb])]
        constructor
        · intro h; cases h
        · rintro ⟨_, h1, h2⟩
          have hg := valM_ge r (a * 10 + (c.toNat - 48))
          generalize valM (a * 10 + (c.toNat - 48)) r = v at h1 hg
          omega
      · have e : (a : Int) * 10 + ((c.toNat : Int) - 48) = ((a * 10 + (c.toNat - 48) : Nat) : Int) := by omega
        rw [numFrom_some r (m := ((a * 10 + (c.toNat - 48) : Nat) : Int)) (by rw [stepN, if_pos hc, if_neg (by decide), ht, if_neg hb, e]), ih _ (by omega)]
        exact ⟨fun ⟨x, y⟩ => ⟨⟨hc, x⟩, y⟩, fun ⟨x, y⟩ => ⟨x.2, y⟩⟩
    · rw [numFrom_none r (by rw [stepN, if_neg hc])]
      constructor
      · intro h; cases h
      · rintro ⟨h, _⟩
        exact absurd h.1 hc
theorem numFrom_neg (l : List UInt8) (a : Nat) (n : Int) (ha : a ≤ 9223372036854775808) :
    numFrom true (-(a : Int)) l = some n ↔ digs l ∧ -(valM a l : Int) = n ∧ -9223372036854775808 ≤ n := by
  induction l generalizing a with
  | nil =>
    rw [numFrom_nil, valM_nil]
    constructor
    · intro h; cases h; exact ⟨(by intro c hc; cases hc), rfl, by omega⟩
    · rintro ⟨_, h, _⟩; rw [h]
  | cons c r ih =>
    rw [valM_cons, digs_cons]
    by_cases hc : 48 ≤ c.toNat ∧ c.toNat ≤ 57
    · have ht : Int.tdiv (-9223372036854775808 + ((c.toNat : Int) - 48)) 10 = -((9223372036854775808 - ((c.toNat : Int) - 48)) / 10) := by
        have e : -9223372036854775808 + ((c.toNat : Int) - 48) = -(9223372036854775808 - ((c.toNat : Int) - 48)) := by omega
        rw [e, Int.neg_tdiv, Int.tdiv_eq_ediv_of_nonneg (by omega)]
      by_cases hb : -(a : Int) < -((9223372036854775808 - ((c.toNat : Int) - 48)) / 10)
      · rw [numFrom_none r (by rw [stepN, if_pos hc, if_pos rfl, ht, if_pos hb])]
        constructor
        · intro h; cases h
        · rintro ⟨_, h1, h2⟩
          have hg := valM_ge r (a * 10 + (c.toNat - 48))
          generalize valM (a * 10 + (c.toNat - 48)) r = v at h1 hg
          omega
      · have e : -(a : Int) * 10 - ((c.toNat : Int) - 48) = -((a * 10 + (c.toNat - 48) : Nat) : Int) := by omega
        rw [numFrom_some r (m := -((a * 10 + (c.toNat - 48) : Nat) : Int)) (by rw [stepN, if_pos hc, if_pos rfl, ht, if_neg hb, e]), ih _ (by omega)]
        exact ⟨fun ⟨x, y⟩ => ⟨⟨hc, x⟩, y⟩, fun ⟨x, y⟩ => ⟨x.2, y⟩⟩
    · rw [numFrom_none r (by rw [stepN, if_neg hc])]
      constructor
      · intro h; cases h
      · rintro ⟨h, _⟩
        exact absurd h.1 hc

/-- a row of digits that begins with no nought, or is one digit -/
def plainD (l : List UInt8) : Prop := l ≠ [] ∧ digs l ∧ ((l.getD 0 0).toNat ≠ 48 ∨ l.length = 1)
theorem dec_plain (u : Nat) : plainD (Lib.decDigits u) ∧ valM 0 (Lib.decDigits u) = u := by
  induction u using Nat.strongRecOn with
  | _ u ih =>
    by_cases h : u < 10
    · rw [Lib.decDigits, dif_pos h]
      have e := digit_nat h
      refine ⟨⟨by simp, ?_, .inr rfl⟩, ?_⟩
      · intro c hc
        rw [List.mem_singleton.1 hc, e]; omega
      · rw [valM_cons, valM_nil, e]; omega
    · rw [Lib.decDigits, dif_neg h]
      obtain ⟨⟨h1, h2, h3⟩, h4⟩ := ih (u / 10) (by omega)
      have e := digit_nat (show u % 10 < 10 by omega)
      refine ⟨⟨by simp, ?_, ?_⟩, ?_⟩
      · intro c hc
        rcases List.mem_append.1 hc with hc | hc
        · exact h2 c hc
        · rw [List.mem_singleton.1 hc, e]; omega
      · left
        rcases hd : Lib.decDigits (u / 10) with _ | ⟨x, l⟩
        · exact absurd hd h1
        · rw [hd] at h3 h4
          rcases h3 with h3 | h3
          · simpa using h3
          · have : l = [] := by simpa using h3
            subst this
            rw [valM_cons, valM_nil] at h4
            have hx := h2 x (by rw [hd]; simp)
            simp; omega
      · rw [valM_append, h4]
        rw [valM_cons, valM_nil, e]; omega
theorem plain_dec (l : List UInt8) (h : plainD l) : Lib.decDigits (valM 0 l) = l := by
  induction hn : l.length using Nat.strongRecOn generalizing l with
  | _ k ih =>
    obtain ⟨h1, h2, h3⟩ := h
    obtain ⟨r, c, rfl⟩ : ∃ r c, l = r ++ [c] := ⟨l.dropLast, l.getLast h1, (List.dropLast_concat_getLast h1).symm⟩
    have hc := h2 c (by simp)
    have hco : UInt8.ofNat (48 + (c.toNat - 48)) = c := by
      rw [← UInt8.toNat_inj, UInt8.toNat_ofNat']; have := c.toNat_lt; omega
    rw [valM_append, valM_cons, valM_nil]
    by_cases hr : r = []
    · subst hr
      rw [valM_nil, Lib.decDigits, dif_pos (by omega)]
      simp only [Nat.zero_mul, Nat.zero_add, List.nil_append]
      rw [hco]
    · have hr0 : (r.getD 0 0).toNat ≠ 48 := by
        rcases h3 with h3 | h3
        · intro hh
          apply h3
          rcases r with _ | ⟨x, r⟩
          · exact absurd rfl hr
          · simpa using hh
        · rcases r with _ | ⟨x, r⟩
          · exact absurd rfl hr
          · simp at h3
      have hp : plainD r := ⟨hr, fun x hx => h2 x (by simp [hx]), .inl hr0⟩
      have hi := ih r.length (by rw [← hn]; simp) r hp rfl
      have hpos : 1 ≤ valM 0 r := by
        rcases r with _ | ⟨x, r⟩
        · exact absurd rfl hr
        · have hx := h2 x (by simp)
          simp at hr0
          have hg := valM_ge r (0 * 10 + (x.toNat - 48))
          rw [valM_cons]; generalize valM (0 * 10 + (x.toNat - 48)) r = v at hg ⊢; omega
      rw [Lib.decDigits, dif_neg (by omega)]
      have e1 : (valM 0 r * 10 + (c.toNat - 48)) / 10 = valM 0 r := by omega
      have e2 : (valM 0 r * 10 + (c.toNat - 48)) % 10 = c.toNat - 48 := by omega
      rw [e1, e2, hi, hco]

/-- the reference's number of a text -/
def number (s : List UInt8) : Option Int :=
  match s with
  | [] => none
  | c :: r =>
    if c.toNat = 45 then (if r = [] ∨ (r.getD 0 0).toNat = 48 then none else numFrom true 0 r)
    else (if c.toNat = 48 ∧ r ≠ [] then none else numFrom false 0 (c :: r))
theorem number_itoa (n : Int) (h0 : -9223372036854775808 ≤ n) (h1 : n ≤ 9223372036854775807) : number (Lib.itoa n) = some n := by
  unfold Lib.itoa
  split
  · rename_i hn
    obtain ⟨⟨p1, p2, p3⟩, p4⟩ := dec_plain n.natAbs
    rw [number, if_pos (by rfl), if_neg]
    · have := (numFrom_neg (Lib.decDigits n.natAbs) 0 n (by omega)).2 ⟨p2, by rw [p4]; omega, h0⟩
      simpa using this
    · rintro (h | h)
      · exact p1 h
      · rcases p3 with p3 | p3
        · exact p3 h
        · rcases hd : Lib.decDigits n.natAbs with _ | ⟨x, l⟩
          · exact absurd hd p1
          · rw [hd] at p3 p4 h
            have : l = [] := by simpa using p3
            subst this
            rw [valM_cons, valM_nil] at p4
            simp at h
            omega
  · rename_i hn
    obtain ⟨⟨p1, p2, p3⟩, p4⟩ := dec_plain n.toNat
    rcases hd : Lib.decDigits n.toNat with _ | ⟨x, l⟩
    · exact absurd hd p1
    · rw [hd] at p2 p3 p4
      have hx := p2 x (by simp)
      rw [number, if_neg (by omega), if_neg]
      · have := (numFrom_pos (x :: l) 0 n (by omega)).2 ⟨p2, by rw [p4]; omega, h1⟩
        simpa using this
      · rintro ⟨h, hl⟩
        rcases p3 with p3 | p3
        · simp at p3; exact p3 h
        · exact hl (by simpa using p3)
theorem number_is {s : List UInt8} {n : Int} (h : number s = some n) : s = Lib.itoa n ∧ -9223372036854775808 ≤ n ∧ n ≤ 9223372036854775807 := by
  rcases s with _ | ⟨c, r⟩
  · cases h
  · rw [number] at h
    by_cases hc : c.toNat = 45
    · rw [if_pos hc] at h
      by_cases hr : r = [] ∨ (r.getD 0 0).toNat = 48
      · rw [if_pos hr] at h; cases h
      · rw [if_neg hr] at h
        have hz : numFrom true (-((0 : Nat) : Int)) r = some n := by simpa using h
        obtain ⟨d, hv, hn⟩ := (numFrom_neg r 0 n (by omega)).1 hz
        have hp : plainD r := ⟨fun e => hr (.inl e), d, .inl fun e => hr (.inr e)⟩
        have hi := plain_dec r hp
        have hpos : 1 ≤ valM 0 r := by
          rcases r with _ | ⟨x, r⟩
          · exact absurd (.inl rfl) hr
          · have hx := d x (by simp)
            have : x.toNat ≠ 48 := fun e => hr (.inr (by simpa using e))
            have hg := valM_ge r (0 * 10 + (x.toNat - 48))
            rw [valM_cons]; generalize valM (0 * 10 + (x.toNat - 48)) r = v at hg ⊢; omega
        refine ⟨?_, hn, by omega⟩
        have hc' : c = 45 := UInt8.toNat_inj.1 hc
        unfold Lib.itoa
        rw [if_pos (by omega), hc', show n.natAbs = valM 0 r by omega, hi]
    · rw [if_neg hc] at h
      by_cases hr : c.toNat = 48 ∧ r ≠ []
      · rw [if_pos hr] at h; cases h
      · rw [if_neg hr] at h
        have hz : numFrom false ((0 : Nat) : Int) (c :: r) = some n := by simpa using h
        obtain ⟨d, hv, hn⟩ := (numFrom_pos (c :: r) 0 n (by omega)).1 hz
        have hp : plainD (c :: r) := ⟨by simp, d, by
          by_cases hc0 : c.toNat = 48
          · right
            have : r = [] := Classical.byContradiction fun e => hr ⟨hc0, e⟩
            simp [this]
          · left; simpa using hc0⟩
        have hi := plain_dec (c :: r) hp
        refine ⟨?_, by omega, hn⟩
        unfold Lib.itoa
        rw [if_neg (by omega), show n.toNat = valM 0 (c :: r) by omega, hi]

end Go.Proofs.YtdapnemcdgjeeaaGreatDoor.Val

/-! The reference's Read is the program's, in plain Lean. -/
namespace Go.Proofs.YtdapnemcdgjeeaaGreatDoor.Val
open Tok (dbl hexs dig cut)

theorem unq_dbl (l acc : List UInt8) : Txt.unq (dbl l) acc = (acc ++ l, true) := by
  induction l generalizing acc with
  | nil => simp [dbl, Txt.unq]
  | cons c r ih =>
    by_cases hc : c.toNat = 39
    · have hc' : c = 39 := UInt8.toNat_inj.1 hc
      rw [Tok.dbl_quote r hc, Txt.unq_pair _ _ (by rfl) (by rfl), ih, hc']
      simp
    · have e : dbl (c :: r) = c :: dbl r := by rw [dbl, if_neg hc]
      rw [e, Txt.unq_byte _ _ hc, ih]
      simp
theorem unq_is (n : Nat) : ∀ (s acc t : List UInt8), s.length ≤ n → Txt.unq s acc = (t, true) → ∃ u, t = acc ++ u ∧ s = dbl u := by
  induction n with
  | zero =>
    intro s acc t hl h
    have : s = [] := List.eq_nil_of_length_eq_zero (by omega)
    subst this
    simp only [Txt.unq, Prod.mk.injEq, and_true] at h
    exact ⟨[], by simp [h], rfl⟩
  | succ n ih =>
    intro s acc t hl h
    rcases s with _ | ⟨c, r⟩
    · simp only [Txt.unq, Prod.mk.injEq, and_true] at h
      exact ⟨[], by simp [h], rfl⟩
    · by_cases hc : c.toNat = 39
      · rcases r with _ | ⟨d, r⟩
        · rw [Txt.unq_last acc hc] at h; simp at h
        · by_cases hd : d.toNat = 39
          · rw [Txt.unq_pair _ _ hc hd] at h
            obtain ⟨u, h1, h2⟩ := ih r _ t (by simp at hl; omega) h
            have hc' : c = 39 := UInt8.toNat_inj.1 hc
            have hd' : d = 39 := UInt8.toNat_inj.1 hd
            refine ⟨d :: u, by rw [h1]; simp, ?_⟩
            rw [Tok.dbl_quote u hd, h2, hc', hd']
          · rw [Txt.unq_bad _ _ hc hd] at h; simp at h
      · rw [Txt.unq_byte _ _ hc] at h
        obtain ⟨u, h1, h2⟩ := ih r _ t (by simp at hl; omega) h
        refine ⟨c :: u, by rw [h1]; simp, ?_⟩
        rw [dbl, if_neg hc, h2]
theorem dig_nib (c : UInt8) (h : 0 ≤ Txt.nib c) : dig (Txt.nib c).toNat = c := by
  unfold Txt.nib at h ⊢
  rw [← UInt8.toNat_inj]
  have hc := c.toNat_lt
  split
  · rename_i h1
    have : ((c.toNat : Int) - 48).toNat = c.toNat - 48 := by omega
    rw [this]
    unfold dig
    rw [if_pos (by omega), UInt8.toNat_ofNat']; omega
  · rename_i h1
    rw [if_neg h1] at h
    split at h
    · rename_i h2
      rw [if_pos h2]
      have : ((c.toNat : Int) - 87).toNat = c.toNat - 87 := by omega
      rw [this]
      unfold dig
      rw [if_neg (by omega), UInt8.toNat_ofNat']; omega
    · omega
theorem unhex_is (n : Nat) : ∀ (s acc t : List UInt8), s.length ≤ n → Txt.unhex s acc = (t, true) → ∃ u, t = acc ++ u ∧ s = hexs u := by
  induction n with
  | zero =>
    intro s acc t hl h
    have : s = [] := List.eq_nil_of_length_eq_zero (by omega)
    subst this
    simp only [Txt.unhex, Prod.mk.injEq, and_true] at h
    exact ⟨[], by simp [h], rfl⟩
  | succ n ih =>
    intro s acc t hl h
    rcases s with _ | ⟨c, _ | ⟨d, r⟩⟩
    · simp only [Txt.unhex, Prod.mk.injEq, and_true] at h
      exact ⟨[], by simp [h], rfl⟩
    · simp [Txt.unhex] at h
    · by_cases hc : 0 ≤ Txt.nib c ∧ 0 ≤ Txt.nib d
      · rw [Txt.unhex_pair _ _ hc.1 hc.2] at h
        obtain ⟨u, h1, h2⟩ := ih r _ t (by simp at hl; omega) h
        have b1 := Txt.nib_le c
        have b2 := Txt.nib_le d
        refine ⟨UInt8.ofNat ((Txt.nib c).toNat * 16 + (Txt.nib d).toNat) :: u, by rw [h1]; simp, ?_⟩
        have e : (UInt8.ofNat ((Txt.nib c).toNat * 16 + (Txt.nib d).toNat)).toNat = (Txt.nib c).toNat * 16 + (Txt.nib d).toNat := by rw [UInt8.toNat_ofNat']; omega
        rw [hexs, e, show ((Txt.nib c).toNat * 16 + (Txt.nib d).toNat) / 16 = (Txt.nib c).toNat by omega, show ((Txt.nib c).toNat * 16 + (Txt.nib d).toNat) % 16 = (Txt.nib d).toNat by omega, dig_nib c hc.1, dig_nib d hc.2, h2]
      · rw [Txt.unhex_bad _ _ (by omega)] at h; simp at h

/-- the reference's Read -/
def rread (s : List UInt8) : V × Nat :=
  if 1000 < s.length then (zero, 3)
  else if s = [78, 85, 76, 76] then (zero, 0)
  else match number s with
    | some n => (⟨1, n, []⟩, 0)
    | none =>
      if (s.getD 0 0).toNat = 120 then
        (if s.length < 3 ∨ (s.getD 1 0).toNat ≠ 39 ∨ (s.getD (s.length - 1) 0).toNat ≠ 39 then (zero, 120)
         else if (Txt.unhex (cut s 2 (s.length - 1)) []).2 = true ∧ may ⟨3, 0, (Txt.unhex (cut s 2 (s.length - 1)) []).1⟩ = true then (⟨3, 0, (Txt.unhex (cut s 2 (s.length - 1)) []).1⟩, 0) else (zero, 120))
      else
        (if s.length < 2 ∨ (s.getD 0 0).toNat ≠ 39 ∨ (s.getD (s.length - 1) 0).toNat ≠ 39 then (zero, 120)
         else if (Txt.unq (cut s 1 (s.length - 1)) []).2 = true ∧ may ⟨2, 0, (Txt.unq (cut s 1 (s.length - 1)) []).1⟩ = true then (⟨2, 0, (Txt.unq (cut s 1 (s.length - 1)) []).1⟩, 0) else (zero, 120))

theorem ends_text {s : List UInt8} (h2 : 2 ≤ s.length) (h : (s.getD 0 0).toNat = 39) (hl : (s.getD (s.length - 1) 0).toNat = 39) : s = 39 :: (cut s 1 (s.length - 1) ++ [39]) := by
  rcases s with _ | ⟨c, r⟩
  · simp at h2
  · rcases List.eq_nil_or_concat r with rfl | ⟨r', d, rfl⟩
    · simp at h2
    · have hc : c = 39 := UInt8.toNat_inj.1 (by simpa using h)
      have hd : d = 39 := UInt8.toNat_inj.1 (by
        rw [List.concat_eq_append] at hl
        have e : (c :: (r' ++ [d])).getD ((c :: (r' ++ [d])).length - 1) 0 = d := by simp [List.getD]
        rw [e] at hl; exact hl)
      subst hc hd
      rw [List.concat_eq_append]
      have := cut_mid [39] 39 r' 1 rfl
      rw [show ([39] : List UInt8) ++ (r' ++ [39]) = 39 :: (r' ++ [39]) from rfl] at this
      rw [this]
theorem ends_blob {s : List UInt8} (h3 : 3 ≤ s.length) (h0 : (s.getD 0 0).toNat = 120) (h : (s.getD 1 0).toNat = 39) (hl : (s.getD (s.length - 1) 0).toNat = 39) : s = 120 :: 39 :: (cut s 2 (s.length - 1) ++ [39]) := by
  rcases s with _ | ⟨x, _ | ⟨c, r⟩⟩
  · simp at h3
  · simp at h3
  · rcases List.eq_nil_or_concat r with rfl | ⟨r', d, rfl⟩
    · simp at h3
    · have hx : x = 120 := UInt8.toNat_inj.1 (by simpa using h0)
      have hc : c = 39 := UInt8.toNat_inj.1 (by simpa using h)
      have hd : d = 39 := UInt8.toNat_inj.1 (by
        rw [List.concat_eq_append] at hl
        have e : (x :: c :: (r' ++ [d])).getD ((x :: c :: (r' ++ [d])).length - 1) 0 = d := by simp [List.getD]
        rw [e] at hl; exact hl)
      subst hx hc hd
      rw [List.concat_eq_append]
      have := cut_mid [120, 39] 39 r' 2 rfl
      rw [show ([120, 39] : List UInt8) ++ (r' ++ [39]) = 120 :: 39 :: (r' ++ [39]) from rfl] at this
      rw [this]

/-- what the reference reads is printed as the text -/
theorem rread_print {s : List UInt8} (h : (rread s).2 = 0) : print (rread s).1 = (s, 0) ∧ may (rread s).1 = true := by
  unfold rread at h ⊢
  by_cases hl : 1000 < s.length
  · rw [if_pos hl] at h; simp at h
  · rw [if_neg hl] at h ⊢
    by_cases hn : s = [78, 85, 76, 76]
    · rw [if_pos hn] at h ⊢; subst hn; decide
    · rw [if_neg hn] at h ⊢
      cases hq : number s with
      | some n =>
        obtain ⟨h1, h2, h3⟩ := number_is hq
        have hm : may ⟨1, n, []⟩ = true := by simp [may]
        exact ⟨by rw [print_int hm rfl, h1], hm⟩
      | none =>
        rw [hq] at h
        simp only at h ⊢
        by_cases hx : (s.getD 0 0).toNat = 120
        · rw [if_pos hx] at h ⊢
          by_cases hb : s.length < 3 ∨ (s.getD 1 0).toNat ≠ 39 ∨ (s.getD (s.length - 1) 0).toNat ≠ 39
          · rw [if_pos hb] at h; simp at h
          · rw [if_neg hb] at h ⊢
            by_cases hg : (Txt.unhex (cut s 2 (s.length - 1)) []).2 = true ∧ may ⟨3, 0, (Txt.unhex (cut s 2 (s.length - 1)) []).1⟩ = true
            · rw [if_pos hg]
              have he := ends_blob (s := s) (by omega) hx (by omega) (by omega)
              obtain ⟨u, h1, h2⟩ := unhex_is _ _ [] (Txt.unhex (cut s 2 (s.length - 1)) []).1 (Nat.le_refl _) (Prod.ext rfl hg.1)
              rw [List.nil_append] at h1
              refine ⟨?_, hg.2⟩
              rw [print_blob hg.2 rfl]
              simp only
              rw [h1, ← h2, ← he]
            · rw [if_neg hg] at h; simp at h
        · rw [if_neg hx] at h ⊢
          by_cases hb : s.length < 2 ∨ (s.getD 0 0).toNat ≠ 39 ∨ (s.getD (s.length - 1) 0).toNat ≠ 39
          · rw [if_pos hb] at h; simp at h
          · rw [if_neg hb] at h ⊢
            by_cases hg : (Txt.unq (cut s 1 (s.length - 1)) []).2 = true ∧ may ⟨2, 0, (Txt.unq (cut s 1 (s.length - 1)) []).1⟩ = true
            · rw [if_pos hg]
              have he := ends_text (s := s) (by omega) (by omega) (by omega)
              obtain ⟨u, h1, h2⟩ := unq_is _ _ [] (Txt.unq (cut s 1 (s.length - 1)) []).1 (Nat.le_refl _) (Prod.ext rfl hg.1)
              rw [List.nil_append] at h1
              refine ⟨?_, hg.2⟩
              rw [print_text hg.2 rfl]
              simp only
              rw [h1, ← h2, ← he]
            · rw [if_neg hg] at h; simp at h

theorem number_not {c : UInt8} (r : List UInt8) (h : ¬ (48 ≤ c.toNat ∧ c.toNat ≤ 57)) (h45 : c.toNat ≠ 45) : number (c :: r) = none := by
  rw [number, if_neg h45, if_neg (by omega)]
  exact numFrom_none r (by rw [stepN, if_neg h])
theorem last_of (a : List UInt8) (d : UInt8) : (a ++ [d]).getD ((a ++ [d]).length - 1) 0 = d := by
  simp [List.getD]
/-- what is printed the reference reads -/
theorem rread_back {v : V} (h : may v = true) (h0 : -9223372036854775808 ≤ v.int) (h1 : v.int ≤ 9223372036854775807) (hl : (print v).1.length ≤ 1000) : rread (print v).1 = (v, 0) := by
  obtain ⟨k, n, t⟩ := v
  have hm := may_iff.1 h
  simp only at hm h0 h1
  rcases hm with ⟨rfl, rfl, rfl⟩ | ⟨rfl, rfl⟩ | ⟨hk | hk, rfl, ht⟩
  · rw [print_null h rfl]; decide
  · rw [print_int h rfl] at hl ⊢
    simp only at hl ⊢
    have hnum := number_itoa n h0 h1
    unfold rread
    rw [if_neg (by omega), if_neg (fun e => by rw [e] at hnum; revert hnum; rw [number_not _ (by decide) (by decide)]; intro hh; cases hh), hnum]
  · subst hk
    rw [print_text h rfl] at hl ⊢
    simp only at hl ⊢
    have hc : cut (39 :: (dbl t ++ [39])) 1 ((39 :: (dbl t ++ [39])).length - 1) = dbl t := cut_mid [39] 39 (dbl t) 1 rfl
    have hlast : (39 :: (dbl t ++ [39])).getD ((39 :: (dbl t ++ [39])).length - 1) 0 = 39 := last_of (39 :: dbl t) 39
    unfold rread
    rw [if_neg (by omega), if_neg (by intro e; simp at e), number_not _ (by decide) (by decide)]
    simp only
    rw [if_neg (show ¬ ((39 :: (dbl t ++ [39]) : List UInt8).getD 0 0).toNat = 120 by simp), hlast, hc, unq_dbl, if_neg (by simp), List.nil_append, if_pos ⟨rfl, h⟩]
  · subst hk
    rw [print_blob h rfl] at hl ⊢
    simp only at hl ⊢
    have hc : cut (120 :: 39 :: (hexs t ++ [39])) 2 ((120 :: 39 :: (hexs t ++ [39])).length - 1) = hexs t := cut_mid [120, 39] 39 (hexs t) 2 rfl
    have hlast : (120 :: 39 :: (hexs t ++ [39])).getD ((120 :: 39 :: (hexs t ++ [39])).length - 1) 0 = 39 := last_of (120 :: 39 :: hexs t) 39
    unfold rread
    rw [if_neg (by omega), if_neg (by intro e; simp at e), number_not _ (by decide) (by decide)]
    simp only
    rw [if_pos (show ((120 :: 39 :: (hexs t ++ [39]) : List UInt8).getD 0 0).toNat = 120 by simp), hlast, hc, unhex_hexs, if_neg (by simp), List.nil_append, if_pos ⟨rfl, h⟩]
theorem rread_errs (s : List UInt8) : (rread s).2 = 0 ∨ (1000 < s.length ∧ rread s = (zero, 3)) ∨ (¬ 1000 < s.length ∧ rread s = (zero, 120)) := by
  unfold rread
  by_cases hl : 1000 < s.length
  · rw [if_pos hl]; exact .inr (.inl ⟨hl, rfl⟩)
  · rw [if_neg hl]
    split
    · exact .inl rfl
    · split
      · exact .inl rfl
      · split
        · split
          · exact .inr (.inr ⟨hl, rfl⟩)
          · split
            · exact .inl rfl
            · exact .inr (.inr ⟨hl, rfl⟩)
        · split
          · exact .inr (.inr ⟨hl, rfl⟩)
          · split
            · exact .inl rfl
            · exact .inr (.inr ⟨hl, rfl⟩)
theorem rread_fits {s : List UInt8} (h : (rread s).2 = 0) : -9223372036854775808 ≤ (rread s).1.int ∧ (rread s).1.int ≤ 9223372036854775807 ∧ s.length ≤ 1000 := by
  unfold rread at h ⊢
  by_cases hl : 1000 < s.length
  · rw [if_pos hl] at h; simp at h
  · rw [if_neg hl] at h ⊢
    have key : ∀ x : V × Nat, x.1.int = 0 → -9223372036854775808 ≤ x.1.int ∧ x.1.int ≤ 9223372036854775807 ∧ s.length ≤ 1000 := fun x hx => by rw [hx]; omega
    split
    · exact key _ rfl
    · cases hq : number s with
      | some n => obtain ⟨_, h2, h3⟩ := number_is hq; exact ⟨h2, h3, by omega⟩
      | none =>
        simp only
        split
        · split
          · exact key _ rfl
          · split
            · exact key _ rfl
            · exact key _ rfl
        · split
          · exact key _ rfl
          · split
            · exact key _ rfl
            · exact key _ rfl
/-- THE TWO ARE ONE -/
theorem read_eq (s : List UInt8) : read s = rread s := by
  by_cases hz : (rread s).2 = 0
  · obtain ⟨hp, hm⟩ := rread_print hz
    obtain ⟨f0, f1, _⟩ := rread_fits hz
    have h := read_print hm f0 f1
    rw [hp] at h
    rw [h]
    exact Prod.ext rfl hz.symm
  · have hr : (read s).2 ≠ 0 := by
      intro h
      obtain ⟨hp, hm⟩ := print_read h
      obtain ⟨_, f0, f1⟩ := guess_fits s
      have hg : (read s).1 = guess s ∧ s.length ≤ 1000 := by
        unfold read at h ⊢
        split at h
        · simp at h
        · rename_i hl
          rw [if_neg hl]
          split at h
          · rename_i hh; rw [if_pos hh]; exact ⟨rfl, by omega⟩
          · simp at h
      have hb := rread_back hm (by rw [hg.1]; exact f0) (by rw [hg.1]; exact f1) (by rw [hp]; exact hg.2)
      rw [hp] at hb
      exact hz (by rw [hb])
    rcases rread_errs s with h | ⟨hl, h⟩ | ⟨hl, h⟩
    · exact absurd h hz
    · rw [h, read, if_pos hl]
    · rw [h]
      unfold read at hr ⊢
      rw [if_neg hl] at hr ⊢
      split
      · rename_i hh; rw [if_pos hh] at hr; exact absurd rfl hr
      · rfl

end Go.Proofs.YtdapnemcdgjeeaaGreatDoor.Val

/-! What the operators make of values, in plain Lean. -/
namespace Go.Proofs.YtdapnemcdgjeeaaGreatDoor.Val

def isBlank (c : UInt8) : Bool := ([32, 9, 10, 13] : List UInt8).contains c
def isDigit (c : UInt8) : Bool := decide (48 ≤ c.toNat ∧ c.toNat ≤ 57)
/-- how long the sign is -/
def sgn (s : List UInt8) : Nat :=
  match s with
  | [] => 0
  | c :: _ => if c.toNat = 43 ∨ c.toNat = 45 then 1 else 0
theorem sgn_le (s : List UInt8) : sgn s ≤ 1 ∧ sgn s ≤ s.length := by
  cases s with
  | nil => simp [sgn]
  | cons c r => simp only [sgn, List.length_cons]; split <;> omega
/-- where the digits end -/
def leadN (s : List UInt8) : Nat := sgn s + ((s.drop (sgn s)).takeWhile isDigit).length
/-- how long the number ahead is -/
def lead (s : List UInt8) : Nat := if leadN s = sgn s then 0 else leadN s
theorem leadN_ge (s : List UInt8) : sgn s ≤ leadN s := by unfold leadN; omega
theorem leadN_le (s : List UInt8) : leadN s ≤ s.length := by
  have h1 := (List.takeWhile_sublist isDigit (l := s.drop (sgn s))).length_le
  have h2 := (sgn_le s).2
  rw [List.length_drop] at h1
  unfold leadN; omega
theorem lead_le (s : List UInt8) : lead s ≤ s.length := by
  have := leadN_le s
  unfold lead; split <;> omega
theorem tw_len (l : List UInt8) (k : Nat) (hk : k ≤ l.length) (h1 : ∀ c ∈ l.take k, isDigit c = true) (h2 : ∀ c, l[k]? = some c → isDigit c = false) : (l.takeWhile isDigit).length = k := by
  induction l generalizing k with
  | nil => simp at hk; simp [hk]
  | cons c r ih =>
    cases k with
    | zero =>
      have := h2 c (by simp)
      simp [this]
    | succ k =>
      have hc := h1 c (by simp)
      rw [List.takeWhile_cons, if_pos hc, List.length_cons, ih k (by simpa using hk) (fun x hx => h1 x (by simp [hx])) (fun x hx => h2 x (by simpa using hx))]
/-- where the digits end, by what stands there -/
theorem leadN_is {s : List UInt8} {k : Nat} (h0 : sgn s ≤ k) (hk : k ≤ s.length) (h1 : ∀ c ∈ (s.drop (sgn s)).take (k - sgn s), isDigit c = true) (h2 : ∀ c, s[k]? = some c → isDigit c = false) : leadN s = k := by
  unfold leadN
  rw [tw_len (s.drop (sgn s)) (k - sgn s) (by rw [List.length_drop]; omega) h1 (by
    intro c hc
    rw [List.getElem?_drop] at hc
    rw [show sgn s + (k - sgn s) = k by omega] at hc
    exact h2 c hc)]
  omega

/-- the integer of a sign or none and digits -/
def pnum (s : List UInt8) : V := match Lib.parseIntB 64 s with | .ok n => ⟨1, n, []⟩ | _ => zero
theorem pnum_ok {s : List UInt8} {n : Int} (h : Lib.parseIntB 64 s = .ok n) : pnum s = ⟨1, n, []⟩ := by unfold pnum; rw [h]
theorem pnum_no {s : List UInt8} (h : ∀ n, Lib.parseIntB 64 s ≠ .ok n) : pnum s = zero := by
  unfold pnum
  split
  · rename_i n hn; exact absurd hn (h n)
  · rfl
theorem pnum_cases (s : List UInt8) : pnum s = zero ∨ ∃ n, pnum s = ⟨1, n, []⟩ ∧ -9223372036854775808 ≤ n ∧ n ≤ 9223372036854775807 := by
  cases h : Lib.parseIntB 64 s with
  | ok n =>
    right
    refine ⟨n, pnum_ok h, ?_⟩
    rcases s with _ | ⟨c, r⟩
    · simp [Lib.parseIntB] at h
    · simp only [Lib.parseIntB] at h
      split at h
      · cases h
      · cases h
      · split at h
        · cases h
        · split at h
          · cases h
          · rename_i u _ h1 h2
            injection h with h
            split at h <;> omega
  | _ => left; exact pnum_no (fun n hn => by rw [h] at hn; cases hn)

/-- behind the blanks ahead -/
def ltrim (s : List UInt8) : List UInt8 := s.dropWhile isBlank
/-- without the blanks at its end -/
def etrim (s : List UInt8) : List UInt8 := (s.reverse.dropWhile isBlank).reverse
/-- a value as a number -/
def num (v : V) : V :=
  if may v = true ∧ v.kind ≠ 0 then
    (if v.kind = 1 then v else if lead (ltrim v.text) = 0 then ⟨1, 0, []⟩ else pnum ((ltrim v.text).take (lead (ltrim v.text))))
  else zero
def fits (v : V) : Prop := -9223372036854775808 ≤ v.int ∧ v.int ≤ 9223372036854775807
theorem num_not {v : V} (h : may v = false ∨ v.kind = 0) : num v = zero := by
  rw [num, if_neg]
  rintro ⟨h1, h2⟩
  rcases h with h | h
  · rw [h] at h1; cases h1
  · exact h2 h
theorem num_int {v : V} (h : may v = true) (hk : v.kind = 1) : num v = v := by rw [num, if_pos ⟨h, by omega⟩, if_pos hk]
theorem num_none {v : V} (h : may v = true) (h0 : v.kind ≠ 0) (hk : v.kind ≠ 1) (hl : lead (ltrim v.text) = 0) : num v = ⟨1, 0, []⟩ := by rw [num, if_pos ⟨h, h0⟩, if_neg hk, if_pos hl]
theorem num_text {v : V} (h : may v = true) (h0 : v.kind ≠ 0) (hk : v.kind ≠ 1) (hl : lead (ltrim v.text) ≠ 0) : num v = pnum ((ltrim v.text).take (lead (ltrim v.text))) := by rw [num, if_pos ⟨h, h0⟩, if_neg hk, if_neg hl]
theorem num_cases {v : V} (h : fits v) : num v = zero ∨ ∃ n, num v = ⟨1, n, []⟩ ∧ -9223372036854775808 ≤ n ∧ n ≤ 9223372036854775807 := by
  unfold num
  split
  · rename_i hm
    split
    · rename_i h1
      right
      obtain ⟨k, n, t⟩ := v
      simp only at h1
      subst h1
      have := may_iff.1 hm.1
      simp only at this
      have ht : t = [] := by
        rcases this with h | h | h
        · exact absurd h.1 (by decide)
        · exact h.2
        · exact absurd h.1 (by decide)
      exact ⟨n, by rw [ht], h⟩
    · split
      · exact .inr ⟨0, rfl, by omega, by omega⟩
      · exact pnum_cases _
  · exact .inl rfl
theorem num_num {v : V} (h : fits v) : num (num v) = num v := by
  rcases num_cases h with h | ⟨n, h, _, _⟩
  · rw [h]; decide
  · rw [h]; exact num_int (by simp [may]) rfl
theorem num_fits {v : V} (h : fits v) : fits (num v) := by
  rcases num_cases h with h | ⟨n, h, h1, h2⟩
  · rw [h]; exact ⟨by decide, by decide⟩
  · rw [h]; exact ⟨h1, h2⟩

/-- a text; NULL, if it is too long -/
def ptext (s : List UInt8) : V := if 400 < s.length then zero else ⟨2, 0, s⟩
/-- a value as a text -/
def pshow (v : V) : V := if may v = true ∧ v.kind ≠ 0 then (if v.kind = 1 then ⟨2, 0, Lib.itoa v.int⟩ else ⟨2, 0, v.text⟩) else zero
theorem pshow_not {v : V} (h : may v = false ∨ v.kind = 0) : pshow v = zero := by
  rw [pshow, if_neg]
  rintro ⟨h1, h2⟩
  rcases h with h | h
  · rw [h] at h1; cases h1
  · exact h2 h
theorem pshow_int {v : V} (h : may v = true) (hk : v.kind = 1) : pshow v = ⟨2, 0, Lib.itoa v.int⟩ := by rw [pshow, if_pos ⟨h, by omega⟩, if_pos hk]
theorem pshow_text {v : V} (h : may v = true) (h0 : v.kind ≠ 0) (hk : v.kind ≠ 1) : pshow v = ⟨2, 0, v.text⟩ := by rw [pshow, if_pos ⟨h, h0⟩, if_neg hk]
/-- 1 true, 0 false, -1 unknown -/
def tru (v : V) : Int := if (num v).kind = 0 then -1 else if (num v).int = 0 then 0 else 1
/-- a truth value, or NULL -/
def three (n : Int) : V := if n < 0 then zero else ⟨1, n, []⟩
def pbool (b : Bool) : V := ⟨1, if b = true then 1 else 0, []⟩
/-- a number, if it is an int64 -/
def fit (n : Int) : V := if -9223372036854775808 ≤ n ∧ n ≤ 9223372036854775807 then ⟨1, n, []⟩ else zero
theorem tru_cases (v : V) : tru v = -1 ∨ tru v = 0 ∨ tru v = 1 := by
  unfold tru
  split
  · exact .inl rfl
  · split
    · exact .inr (.inl rfl)
    · exact .inr (.inr rfl)

/-- an operator of one value, and the error's number -/
def unary (op : Int) (v : V) : V × Int :=
  if op = 4 ∨ op = 5 ∨ op = 6 then
    (if may v = true then
      (if op = 4 then (if (num v).kind = 0 then zero else fit (0 - (num v).int), 0)
       else if op = 5 then (v, 0)
       else (three (if tru v < 0 then -1 else 1 - tru v), 0))
     else (zero, 2))
  else (zero, 130)
/-- the arithmetic of two integers -/
def arith (op x y : Int) : V :=
  if op = 7 then fit (x + y) else if op = 8 then fit (x - y) else if op = 9 then fit (x * y)
  else if y = 0 then zero else if op = 10 then fit (Int.tdiv x y) else ⟨1, Int.tmod x y, []⟩
def compare (op n : Int) : Bool :=
  if op = 13 ∨ op = 19 then decide (n = 0) else if op = 14 ∨ op = 20 then decide (n ≠ 0) else if op = 15 then decide (n < 0) else if op = 16 then decide (n ≤ 0) else if op = 17 then decide (0 < n) else decide (0 ≤ n)
/-- AND (of deciding 0), OR (of deciding 1) -/
def logic (stop x y : Int) : V := if x = stop ∨ y = stop then three stop else if x < 0 ∨ y < 0 then zero else three (1 - stop)
/-- what an operator makes of two values that may be -/
def makes (op : Int) (a b : V) (c : Int) : V :=
  if op ≤ 11 then (if (num a).kind = 0 ∨ (num b).kind = 0 then zero else arith op (num a).int (num b).int)
  else if op = 12 then (if a.kind = 0 ∨ b.kind = 0 then zero else ptext ((pshow a).text ++ (pshow b).text))
  else if op = 21 then logic 0 (tru a) (tru b)
  else if op = 22 then logic 1 (tru a) (tru b)
  else if op ≤ 18 ∧ (a.kind = 0 ∨ b.kind = 0) then zero
  else pbool (compare op (cmp a b c))
/-- an operator of two values, and the error's number -/
def binary (op : Int) (a b : V) (c : Int) : V × Int :=
  if 7 ≤ op ∧ op ≤ 22 then (if may a = true ∧ may b = true then (makes op a b c, 0) else (zero, 2)) else (zero, 130)
/-- whether a value is one of a list -/
def isIn (x : V) (l : List V) (c : Int) : V :=
  if may x = true ∧ l.all may = true then
    (if l = [] then pbool false else if x.kind = 0 then zero
     else if l.any (fun v => decide (v.kind ≠ 0) && decide (cmp x v c = 0)) = true then pbool true
     else if l.any (fun v => decide (v.kind = 0)) = true then zero else pbool false)
  else zero

/-- a type's affinity -/
def affOf (name : List UInt8) : Int × Bool :=
  if Txt.fold name 1 = [105, 110, 116, 101, 103, 101, 114] ∨ Txt.fold name 1 = [105, 110, 116] then (1, true)
  else if Txt.fold name 1 = [116, 101, 120, 116] then (2, true)
  else (0, decide (Txt.fold name 1 = [98, 108, 111, 98] ∨ name = []))
/-- a value with an affinity -/
def apply (f : Int) (v : V) : V :=
  if may v = true then
    (if f = 2 ∧ v.kind = 1 then pshow v
     else if f = 1 ∧ v.kind = 2 ∧ etrim (ltrim v.text) ≠ [] ∧ lead (etrim (ltrim v.text)) = (etrim (ltrim v.text)).length ∧ (pnum (etrim (ltrim v.text))).kind = 1 then pnum (etrim (ltrim v.text))
     else v)
  else v
/-- the two sides of a comparison -/
def pair (a b : V) (x y : Int) : V × V :=
  if x = 1 ∧ y ≠ 1 then (a, apply 1 b) else if y = 1 ∧ x ≠ 1 then (apply 1 a, b)
  else if x = 2 ∧ y = 0 then (a, apply 2 b) else if y = 2 ∧ x = 0 then (apply 2 a, b) else (a, b)
/-- a value as one of a type, and the error's number -/
def cast (v : V) (name : List UInt8) : V × Int :=
  if (affOf name).2 = true then
    (if may v = true then
      (if v.kind = 0 ∨ name = [] then (v, 0) else if (affOf name).1 = 1 then (num v, 0) else if (affOf name).1 = 2 then (pshow v, 0) else (⟨3, 0, (pshow v).text⟩, 0))
     else (zero, 2))
  else (zero, 131)

/-! the reference's number is the program's -/
/-- without the noughts ahead, but for one -/
def strip0 : List UInt8 → List UInt8
  | [] => []
  | [c] => [c]
  | c :: d :: r => if c.toNat = 48 then strip0 (d :: r) else c :: d :: r
theorem strip0_step {c d : UInt8} (r : List UInt8) (h : c.toNat = 48) : strip0 (c :: d :: r) = strip0 (d :: r) := by rw [strip0, if_pos h]
theorem strip0_other {c : UInt8} (r : List UInt8) (h : c.toNat ≠ 48) : strip0 (c :: r) = c :: r := by
  cases r with
  | nil => rfl
  | cons d r => rw [strip0, if_neg h]
theorem strip0_short {s : List UInt8} (h : s.length ≤ 1) : strip0 s = s := by
  match s, h with
  | [], _ => rfl
  | [c], _ => rfl
theorem strip0_len (s : List UInt8) : (strip0 s).length ≤ s.length := by
  induction s with
  | nil => simp [strip0]
  | cons c r ih =>
    cases r with
    | nil => simp [strip0]
    | cons d r =>
      rw [strip0]
      split
      · simp only [List.length_cons] at ih ⊢; omega
      · exact Nat.le_refl _
/-- behind the sign -/
def unsign (s : List UInt8) : List UInt8 :=
  match s with
  | [] => []
  | c :: r => if isDigit c = true then c :: r else r
def rtext (s : List UInt8) : List UInt8 := if (s.getD 0 0).toNat = 45 ∧ strip0 (unsign s) ≠ [48] then 45 :: strip0 (unsign s) else strip0 (unsign s)
def rnum (s : List UInt8) : V := match number (rtext s) with | some n => ⟨1, n, []⟩ | none => zero

theorem strip0_digs (l : List UInt8) (h : digs l) (hl : l ≠ []) : plainD (strip0 l) ∧ valM 0 (strip0 l) = valM 0 l := by
  induction l with
  | nil => exact absurd rfl hl
  | cons c r ih =>
    have hd := (digs_cons c r).1 h
    cases r with
    | nil => exact ⟨⟨by simp [strip0], by simpa [strip0] using h, .inr rfl⟩, rfl⟩
    | cons d r =>
      by_cases hc : c.toNat = 48
      · rw [strip0_step r hc]
        obtain ⟨h1, h2⟩ := ih hd.2 (by simp)
        refine ⟨h1, ?_⟩
        rw [h2, valM_cons 0 c, show 0 * 10 + (c.toNat - 48) = 0 by omega]
      · rw [strip0_other _ hc]
        exact ⟨⟨by simp, h, .inl (by simpa using hc)⟩, rfl⟩
theorem parseM_val (l : List UInt8) (acc : Nat) (h : digs l) (ha : acc ≤ 18446744073709551615) : Lib.parseUintM 18446744073709551615 acc l = if valM acc l ≤ 18446744073709551615 then .ok (valM acc l) else .range := by
  induction l generalizing acc with
  | nil => rw [valM_nil, if_pos ha]; rfl
  | cons c r ih =>
    have hd := (digs_cons c r).1 h
    rw [valM_cons, Lib.parseUintM, if_pos hd.1]
    have hg := valM_ge r (acc * 10 + (c.toNat - 48))
    by_cases h1 : 1844674407370955162 ≤ acc
    · rw [if_pos h1, if_neg]
      generalize valM (acc * 10 + (c.toNat - 48)) r = v at hg ⊢; omega
    · rw [if_neg h1]
      by_cases h2 : 18446744073709551615 < acc * 10 + (c.toNat - 48)
      · rw [if_pos h2, if_neg]
        generalize valM (acc * 10 + (c.toNat - 48)) r = v at hg ⊢; omega
      · rw [if_neg h2, ih _ hd.2 (by omega)]
theorem parse_val (l : List UInt8) (h : digs l) (hl : l ≠ []) : Lib.parseUintB 64 l = if valM 0 l ≤ 18446744073709551615 then .ok (valM 0 l) else .range := by
  rw [Lib.parseUintB, if_neg hl]
  exact parseM_val l 0 h (by omega)
theorem pnum_minus (l : List UInt8) (h : digs l) (hl : l ≠ []) : pnum (45 :: l) = if valM 0 l ≤ 9223372036854775808 then ⟨1, -(valM 0 l : Int), []⟩ else zero := by
  have e := Lib.parseIntB_minus 64 l
  rw [parse_val l h hl] at e
  generalize valM 0 l = v at e ⊢
  by_cases h1 : v ≤ 9223372036854775808
  · rw [if_pos h1]
    rw [if_pos (by omega)] at e
    exact pnum_ok (by rw [e, Lib.signedC, if_neg (by omega)])
  · rw [if_neg h1]
    refine pnum_no (fun n hn => ?_)
    rw [hn] at e
    split at e
    · rw [Lib.signedC, if_pos (by omega)] at e; cases e
    · cases e
theorem signless_val (l : List UInt8) (h : digs l) (hl : l ≠ []) (s : List UInt8) (e : Lib.parseIntB 64 s = Lib.signlessC (2 ^ (64 - 1)) (Lib.parseUintB 64 l)) : pnum s = if valM 0 l ≤ 9223372036854775807 then ⟨1, (valM 0 l : Int), []⟩ else zero := by
  rw [parse_val l h hl] at e
  generalize valM 0 l = v at e ⊢
  by_cases h1 : v ≤ 9223372036854775807
  · rw [if_pos h1]
    rw [if_pos (by omega)] at e
    exact pnum_ok (by rw [e, Lib.signlessC, if_neg (by omega)])
  · rw [if_neg h1]
    refine pnum_no (fun n hn => ?_)
    rw [hn] at e
    split at e
    · rw [Lib.signlessC, if_pos (by omega)] at e; cases e
    · cases e
theorem number_pos {l : List UInt8} (h : plainD l) : number l = if valM 0 l ≤ 9223372036854775807 then some (valM 0 l : Int) else none := by
  obtain ⟨h1, h2, h3⟩ := h
  rcases l with _ | ⟨c, r⟩
  · exact absurd rfl h1
  · have hc := h2 c (by simp)
    have hz : ¬ (c.toNat = 48 ∧ r ≠ []) := by
      rintro ⟨h, hr⟩
      rcases h3 with h3 | h3
      · exact h3 (by simpa using h)
      · exact hr (List.eq_nil_of_length_eq_zero (by simpa using h3))
    rw [number, if_neg (by omega), if_neg hz]
    have hk := numFrom_pos (c :: r) 0
    split
    · rename_i hv
      exact (hk _ (by omega)).2 ⟨h2, rfl, by omega⟩
    · rename_i hv
      cases hq : numFrom false 0 (c :: r) with
      | none => rfl
      | some n =>
        obtain ⟨_, h5, h6⟩ := (hk n (by omega)).1 (by simpa using hq)
        omega
theorem number_minus {l : List UInt8} (h : plainD l) (h0 : l ≠ [48]) : number (45 :: l) = if valM 0 l ≤ 9223372036854775808 then some (-(valM 0 l : Int)) else none := by
  obtain ⟨h1, h2, h3⟩ := h
  have hz : ¬ (l = [] ∨ (l.getD 0 0).toNat = 48) := by
    rintro (h | h)
    · exact h1 h
    · rcases h3 with h3 | h3
      · exact h3 h
      · rcases l with _ | ⟨c, r⟩
        · exact h1 rfl
        · have : r = [] := List.eq_nil_of_length_eq_zero (by simpa using h3)
          subst this
          have hc : c = 48 := UInt8.toNat_inj.1 (by simpa using h)
          exact h0 (by rw [hc])
  rw [number, if_pos (by rfl), if_neg hz]
  have hk := numFrom_neg l 0
  have e0 : -((0 : Nat) : Int) = 0 := rfl
  rw [e0] at hk
  split
  · rename_i hv
    exact (hk _ (by omega)).2 ⟨h2, rfl, by omega⟩
  · rename_i hv
    cases hq : numFrom true 0 l with
    | none => rfl
    | some n =>
      obtain ⟨_, h5, h6⟩ := (hk n (by omega)).1 hq
      omega

/-- a sign or none, and digits -/
def signed (s : List UInt8) : Prop := digs (s.drop (sgn s)) ∧ s.drop (sgn s) ≠ []
theorem rnum_is {s : List UInt8} (h : signed s) : rnum s = pnum s := by
  rcases s with _ | ⟨c, r⟩
  · exact absurd rfl h.2
  · by_cases hs : c.toNat = 43 ∨ c.toNat = 45
    · have e1 : sgn (c :: r) = 1 := by rw [sgn, if_pos hs]
      have hd : digs r ∧ r ≠ [] := by
        have := h
        unfold signed at this
        rw [e1] at this
        simpa using this
      have hu : unsign (c :: r) = r := by
        have : isDigit c = false := by simp [isDigit]; omega
        rw [unsign, if_neg (by rw [this]; decide)]
      obtain ⟨hp, hv⟩ := strip0_digs r hd.1 hd.2
      by_cases h45 : c.toNat = 45
      · have hc : c = 45 := UInt8.toNat_inj.1 h45
        subst hc
        rw [pnum_minus r hd.1 hd.2, ← hv]
        by_cases hz : strip0 r = [48]
        · have et : rtext (45 :: r) = [48] := by rw [rtext, hu, if_neg (by simp [hz]), hz]
          have e48 : valM 0 [48] = 0 := by rw [valM_cons, valM_nil]; rfl
          rw [rnum, et, hz, e48, number_pos ⟨by simp, by simp [digs], .inr rfl⟩, e48]
          rfl
        · have et : rtext (45 :: r) = 45 :: strip0 r := by rw [rtext, hu, if_pos ⟨rfl, hz⟩]
          rw [rnum, et, number_minus hp hz]
          by_cases hq : valM 0 (strip0 r) ≤ 9223372036854775808
          · simp only [hq, if_true]
          · simp only [hq, if_false]
      · have h43 : c = 43 := UInt8.toNat_inj.1 (show c.toNat = 43 by omega)
        subst h43
        rw [signless_val r hd.1 hd.2 _ (Lib.parseIntB_plus 64 r), ← hv]
        have et : rtext (43 :: r) = strip0 r := by rw [rtext, hu, if_neg (by simp)]
        rw [rnum, et, number_pos hp]
        by_cases hq : valM 0 (strip0 r) ≤ 9223372036854775807
        · simp only [hq, if_true]
        · simp only [hq, if_false]
    · have e1 : sgn (c :: r) = 0 := by rw [sgn, if_neg hs]
      have hd : digs (c :: r) := by
        have := h.1
        rw [e1] at this
        simpa using this
      have hc := hd c (by simp)
      have hu : unsign (c :: r) = c :: r := by rw [unsign, if_pos (by simp [isDigit]; omega)]
      obtain ⟨hp, hv⟩ := strip0_digs (c :: r) hd (by simp)
      rw [signless_val (c :: r) hd (by simp) _ (Lib.parseIntB_plain 64 c r (by omega) (by omega)), ← hv]
      have et : rtext (c :: r) = strip0 (c :: r) := by
        rw [rtext, hu, if_neg]
        rintro ⟨h, _⟩
        simp at h; omega
      rw [rnum, et, number_pos hp]
      by_cases hq : valM 0 (strip0 (c :: r)) ≤ 9223372036854775807
      · simp only [hq, if_true]
      · simp only [hq, if_false]
theorem tw_all (l : List UInt8) : digs (l.takeWhile isDigit) := by
  intro c hc
  have := List.all_takeWhile (p := isDigit) (l := l)
  have := List.all_eq_true.1 this c hc
  simpa [isDigit] using this
theorem lead_signed {s : List UInt8} (h : lead s ≠ 0) : signed (s.take (lead s)) := by
  have hl : lead s = leadN s ∧ sgn s < leadN s := by
    have := leadN_ge s
    unfold lead at h ⊢
    split at h
    · exact absurd rfl h
    · rename_i hh; exact ⟨by rw [if_neg hh], by omega⟩
  rw [hl.1]
  have he : sgn (s.take (leadN s)) = sgn s := by
    rcases s with _ | ⟨c, r⟩
    · rfl
    · have : leadN (c :: r) = (leadN (c :: r) - 1) + 1 := by omega
      rw [this, List.take_succ_cons]; rfl
  have e2 : (s.take (leadN s)).drop (sgn s) = (s.drop (sgn s)).takeWhile isDigit := by
    rw [List.drop_take]
    have hlen : leadN s - sgn s = ((s.drop (sgn s)).takeWhile isDigit).length := by unfold leadN; omega
    rw [hlen]
    generalize s.drop (sgn s) = l
    induction l with
    | nil => rfl
    | cons c r ih =>
      rw [List.takeWhile_cons]
      split
      · rw [List.length_cons, List.take_succ_cons, ih]
      · rfl
  unfold signed
  rw [he, e2]
  refine ⟨tw_all _, ?_⟩
  intro hn
  have : leadN s = sgn s := by unfold leadN; rw [hn]; rfl
  omega

/-! blanks -/
theorem ltrim_blank {c : UInt8} (r : List UInt8) (h : isBlank c = true) : ltrim (c :: r) = ltrim r := by simp [ltrim, h]
theorem ltrim_other {c : UInt8} (r : List UInt8) (h : isBlank c = false) : ltrim (c :: r) = c :: r := by simp [ltrim, h]
theorem etrim_blank (l : List UInt8) {c : UInt8} (h : isBlank c = true) : etrim (l ++ [c]) = etrim l := by simp [etrim, h]
theorem etrim_other (l : List UInt8) {c : UInt8} (h : isBlank c = false) : etrim (l ++ [c]) = l ++ [c] := by simp [etrim, h]
theorem ltrim_snoc (l : List UInt8) (c : UInt8) : ltrim (l ++ [c]) = if ltrim l = [] then ltrim [c] else ltrim l ++ [c] := by
  induction l with
  | nil => simp [ltrim]
  | cons d r ih =>
    cases h : isBlank d with
    | true => rw [List.cons_append, ltrim_blank _ h, ltrim_blank _ h, ih]
    | false => rw [List.cons_append, ltrim_other _ h, ltrim_other _ h, if_neg (by simp)]; rfl
/-- the two ways to trim both ends -/
theorem trim_both (s : List UInt8) : Lib.trimS s [32, 9, 10, 13] = etrim (ltrim s) := by
  show ltrim (etrim s) = etrim (ltrim s)
  have key : ∀ n, ∀ s : List UInt8, s.length = n → ltrim (etrim s) = etrim (ltrim s) := by
    intro n
    induction n with
    | zero => intro s hs; have := List.eq_nil_of_length_eq_zero hs; subst this; rfl
    | succ n ih =>
      intro s hs
      have hne : s ≠ [] := by intro h; subst h; simp at hs
      obtain ⟨r, c, rfl⟩ : ∃ r c, s = r ++ [c] := ⟨s.dropLast, s.getLast hne, (List.dropLast_concat_getLast hne).symm⟩
      cases hc : isBlank c with
      | true =>
        rw [etrim_blank r hc, ih r (by simpa using hs), ltrim_snoc]
        split
        · rename_i h0
          rw [h0, ltrim_blank [] hc]; rfl
        · rw [etrim_blank _ hc]
      | false =>
        rw [etrim_other r hc, ltrim_snoc]
        split
        · rw [ltrim_other [] hc]
          have := etrim_other [] hc
          simpa using this.symm
        · rw [etrim_other _ hc]
  exact key _ s rfl
theorem trimL_is (s : List UInt8) : Lib.trimLeftS s [32, 9, 10, 13] = ltrim s := rfl

end Go.Proofs.YtdapnemcdgjeeaaGreatDoor.Val

/-! Sums, products, quotients of int64s, in plain Lean. -/
namespace Go.Proofs.YtdapnemcdgjeeaaGreatDoor.Val
open Go.RowKit

abbrev inr (n : Int) : Prop := -9223372036854775808 ≤ n ∧ n ≤ 9223372036854775807
theorem fit_in {n : Int} (h : inr n) : fit n = ⟨1, n, []⟩ := by rw [fit, if_pos h]
theorem fit_out {n : Int} (h : ¬ inr n) : fit n = zero := by rw [fit, if_neg h]
theorem add_in {x y : Int} (hx : inr x) (hy : inr y) : (decide (wrap64 (x + y) > x) == decide (y > 0)) = decide (inr (x + y)) := by
  unfold inr at *
  rw [Bool.eq_iff_iff]
  simp only [beq_iff_eq, decide_eq_decide, decide_eq_true_eq]
  unfold wrap64
  omega
theorem sub_in {x y : Int} (hx : inr x) (hy : inr y) : (decide (wrap64 (x - y) < x) == decide (y > 0)) = decide (inr (x - y)) := by
  unfold inr at *
  rw [Bool.eq_iff_iff]
  simp only [beq_iff_eq, decide_eq_decide, decide_eq_true_eq]
  unfold wrap64
  omega
/-- the sign and the size of a product -/
theorem mul_sign (x y : Int) : ((decide (x < 0) = decide (y < 0)) ∧ x * y = ((x.natAbs * y.natAbs : Nat) : Int)) ∨ ((decide (x < 0) ≠ decide (y < 0)) ∧ x * y = -((x.natAbs * y.natAbs : Nat) : Int)) := by
  rcases Int.lt_or_le x 0 with hx | hx <;> rcases Int.lt_or_le y 0 with hy | hy
  · left; exact ⟨by simp [hx, hy], by rw [Int.natCast_mul, Int.ofNat_natAbs_of_nonpos (by omega), Int.ofNat_natAbs_of_nonpos (by omega), Int.neg_mul_neg]⟩
  · right; exact ⟨by simp [hx]; omega, by rw [Int.natCast_mul, Int.ofNat_natAbs_of_nonpos (by omega), Int.natAbs_of_nonneg hy, Int.neg_mul, Int.neg_neg]⟩
  · right; exact ⟨by simp [hy]; omega, by rw [Int.natCast_mul, Int.natAbs_of_nonneg hx, Int.ofNat_natAbs_of_nonpos (by omega), Int.mul_neg, Int.neg_neg]⟩
  · left; exact ⟨by rw [decide_eq_decide]; omega, by rw [Int.natCast_mul, Int.natAbs_of_nonneg hx, Int.natAbs_of_nonneg hy]⟩
theorem mul_same {x y : Int} (h : decide (x < 0) = decide (y < 0)) : ((decide ((x.natAbs * y.natAbs) / 18446744073709551616 = 0)) && decide ((x.natAbs * y.natAbs) % 18446744073709551616 ≤ 9223372036854775807)) = decide (inr (x * y)) := by
  rcases mul_sign x y with ⟨_, e⟩ | ⟨h', _⟩
  · rw [e]
    generalize x.natAbs * y.natAbs = p
    unfold inr
    rw [Bool.eq_iff_iff]
    simp only [Bool.and_eq_true, decide_eq_true_eq]
    omega
  · exact absurd h h'
theorem mul_other {x y : Int} (h : decide (x < 0) ≠ decide (y < 0)) : ((decide ((x.natAbs * y.natAbs) / 18446744073709551616 = 0)) && decide ((x.natAbs * y.natAbs) % 18446744073709551616 ≤ 9223372036854775808)) = decide (inr (x * y)) := by
  rcases mul_sign x y with ⟨h', _⟩ | ⟨_, e⟩
  · exact absurd h' h
  · rw [e]
    generalize x.natAbs * y.natAbs = p
    unfold inr
    rw [Bool.eq_iff_iff]
    simp only [Bool.and_eq_true, decide_eq_true_eq]
    omega
/-- the reference's test of a product: the quotient gives the factor back -/
theorem mul_back {x y : Int} (h0 : y ≠ 0) (hy : inr y) : Int.tdiv (wrap64 (x * y)) y = x ↔ inr (x * y) := by
  constructor
  · intro h
    have e := Int.mul_tdiv_add_tmod (wrap64 (x * y)) y
    rw [h, Int.mul_comm] at e
    have hr : (Int.tmod (wrap64 (x * y)) y).natAbs < y.natAbs := by
      rw [Int.natAbs_tmod]
      exact Nat.mod_lt _ (by omega)
    generalize Int.tmod (wrap64 (x * y)) y = r at e hr
    generalize x * y = p at e ⊢
    unfold inr wrap64 at *
    omega
  · intro h
    rw [wrap64_in_inr h]
    exact Int.mul_tdiv_cancel x h0
where
  wrap64_in_inr {n : Int} (h : inr n) : wrap64 n = n := by unfold inr at h; unfold wrap64; omega
theorem wrap_in {n : Int} (h : inr n) : wrap64 n = n := by unfold inr at h; unfold wrap64; omega
theorem tdiv_in {x y : Int} (hx : inr x) (h : ¬ (x = -9223372036854775808 ∧ y = -1)) : inr (Int.tdiv x y) := by
  by_cases h1 : y = -1
  · subst h1
    rw [Int.tdiv_neg, Int.tdiv_one]
    unfold inr at *; omega
  · by_cases h0 : y = 0
    · subst h0; rw [Int.tdiv_zero]; decide
    · by_cases h2 : y = 1
      · subst h2; rw [Int.tdiv_one]; exact hx
      · have hn : (Int.tdiv x y).natAbs = x.natAbs / y.natAbs := Int.natAbs_tdiv x y
        have hd : x.natAbs / y.natAbs ≤ x.natAbs / 2 := Nat.div_le_div_left (by omega) (by decide)
        unfold inr at *; omega
theorem tmod_in {x y : Int} (hy : inr y) (h0 : y ≠ 0) : inr (Int.tmod x y) := by
  have hr : (Int.tmod x y).natAbs < y.natAbs := by
    rw [Int.natAbs_tmod]
    exact Nat.mod_lt _ (by omega)
  unfold inr at *; omega
theorem tdiv_mone (x : Int) : Int.tdiv x (-1) = 0 - x := by rw [Int.tdiv_neg, Int.tdiv_one]; omega
theorem tmod_mone (x : Int) : Int.tmod x (-1) = 0 := by
  have := Int.mul_tdiv_add_tmod x (-1)
  rw [tdiv_mone] at this
  omega

end Go.Proofs.YtdapnemcdgjeeaaGreatDoor.Val

/-! The laws that the operators keep among themselves, in plain Lean. -/
namespace Go.Proofs.YtdapnemcdgjeeaaGreatDoor.Val

def two (op : Int) (a b : V) (c : Int) : V := (binary op a b c).1
def nott (v : V) : V := (unary 6 v).1
theorem two_makes {op : Int} {a b : V} {c : Int} (h : 7 ≤ op ∧ op ≤ 22) (ha : may a = true) (hb : may b = true) : two op a b c = makes op a b c := by
  rw [two, binary, if_pos h, if_pos ⟨ha, hb⟩]
theorem may_three (n : Int) : may (three n) = true := by
  unfold three; split
  · decide
  · simp [may]
theorem may_bool (b : Bool) : may (pbool b) = true := by simp [may, pbool]
theorem may_zero : may zero = true := by decide
theorem num_mk (n : Int) : num ⟨1, n, []⟩ = ⟨1, n, []⟩ := num_int (by simp [may]) rfl
theorem tru_zero : tru zero = -1 := by
  have : num zero = zero := num_not (.inr rfl)
  rw [tru, this]; rfl
theorem tru_mk (n : Int) : tru ⟨1, n, []⟩ = if n = 0 then 0 else 1 := by
  rw [tru, num_mk, if_neg (by simp)]
theorem tru_three {n : Int} (h : n = -1 ∨ n = 0 ∨ n = 1) : tru (three n) = n := by
  rcases h with rfl | rfl | rfl
  · exact tru_zero
  · exact (tru_mk 0).trans rfl
  · exact (tru_mk 1).trans rfl
theorem tru_bool (b : Bool) : tru (pbool b) = if b = true then 1 else 0 := by
  rw [pbool, tru_mk]; cases b <;> rfl
theorem pbool_three (b : Bool) : pbool b = three (if b = true then 1 else 0) := by cases b <;> rfl
theorem nott_may {v : V} (h : may v = true) : nott v = three (if tru v < 0 then -1 else 1 - tru v) := by
  rw [nott, unary, if_pos (by decide), if_pos h, if_neg (by decide), if_neg (by decide)]
theorem nott_three {n : Int} (h : n = -1 ∨ n = 0 ∨ n = 1) : nott (three n) = three (if n < 0 then -1 else 1 - n) := by
  rw [nott_may (may_three n), tru_three h]
theorem nott_zero : nott zero = zero := nott_three (.inl rfl)
theorem nott_bool (b : Bool) : nott (pbool b) = pbool (!b) := by
  rw [pbool_three, nott_three (by cases b <;> decide), pbool_three]
  cases b <;> rfl
def flip3 (n : Int) : Int := if n < 0 then -1 else 1 - n
theorem flip3_cases {n : Int} (h : n = -1 ∨ n = 0 ∨ n = 1) : flip3 n = -1 ∨ flip3 n = 0 ∨ flip3 n = 1 := by
  rcases h with rfl | rfl | rfl <;> decide
theorem not_thrice {a : V} (h : may a = true) : nott (nott (nott a)) = nott a := by
  have ht := tru_cases a
  rw [nott_may h]
  generalize tru a = t at ht ⊢
  rcases ht with rfl | rfl | rfl <;> decide +kernel
theorem logic_three {s x y : Int} (hs : s = 0 ∨ s = 1) (hx : x = -1 ∨ x = 0 ∨ x = 1) (hy : y = -1 ∨ y = 0 ∨ y = 1) : ∃ n, (n = -1 ∨ n = 0 ∨ n = 1) ∧ logic s x y = three n := by
  rcases hs with rfl | rfl <;> rcases hx with rfl | rfl | rfl <;> rcases hy with rfl | rfl | rfl
  all_goals first
    | exact ⟨-1, by decide, by decide⟩
    | exact ⟨0, by decide, by decide⟩
    | exact ⟨1, by decide, by decide⟩
theorem logic_comm (s x y : Int) : logic s x y = logic s y x := by
  unfold logic
  have e1 : (x = s ∨ y = s) ↔ (y = s ∨ x = s) := Or.comm
  have e2 : (x < 0 ∨ y < 0) ↔ (y < 0 ∨ x < 0) := Or.comm
  simp only [e1, e2]
theorem de_morgan {a b : V} {c : Int} (ha : may a = true) (hb : may b = true) : nott (two 21 a b c) = two 22 (nott a) (nott b) c := by
  have hx := tru_cases a
  have hy := tru_cases b
  have e1 : two 21 a b c = logic 0 (tru a) (tru b) := by rw [two_makes (by decide) ha hb, makes, if_neg (by decide), if_neg (by decide), if_pos rfl]
  have e2 : two 22 (nott a) (nott b) c = logic 1 (flip3 (tru a)) (flip3 (tru b)) := by
    have q : ∀ t : Int, (if t < 0 then (-1 : Int) else 1 - t) = flip3 t := fun _ => rfl
    rw [nott_may ha, nott_may hb, q, q, two_makes (by decide) (may_three _) (may_three _), makes, if_neg (by decide), if_neg (by decide), if_neg (by decide), if_pos rfl, tru_three (flip3_cases hx), tru_three (flip3_cases hy)]
  rw [e1, e2]
  generalize tru a = x at hx ⊢
  generalize tru b = y at hy ⊢
  obtain ⟨n, hn, e⟩ := logic_three (.inl rfl) hx hy
  rw [e, nott_three hn]
  obtain ⟨m, hm, e'⟩ := logic_three (s := 1) (.inr rfl) (flip3_cases hx) (flip3_cases hy)
  rcases hx with rfl | rfl | rfl <;> rcases hy with rfl | rfl | rfl <;> (revert e; rcases hn with rfl | rfl | rfl <;> decide)
theorem and_comm' {a b : V} {c : Int} (ha : may a = true) (hb : may b = true) : two 21 a b c = two 21 b a c := by
  rw [two_makes (by decide) ha hb, two_makes (by decide) hb ha]
  exact logic_comm _ _ _
theorem or_comm' {a b : V} {c : Int} (ha : may a = true) (hb : may b = true) : two 22 a b c = two 22 b a c := by
  rw [two_makes (by decide) ha hb, two_makes (by decide) hb ha]
  exact logic_comm _ _ _
/-- a comparison that NULL makes NULL -/
theorem two_cmp {op : Int} {a b : V} {c : Int} (h : 13 ≤ op ∧ op ≤ 18) (ha : may a = true) (hb : may b = true) : two op a b c = if a.kind = 0 ∨ b.kind = 0 then zero else pbool (compare op (cmp a b c)) := by
  rw [two_makes (by omega) ha hb, makes, if_neg (by omega), if_neg (by omega), if_neg (by omega), if_neg (by omega)]
  by_cases hk : a.kind = 0 ∨ b.kind = 0
  · rw [if_pos ⟨by omega, hk⟩, if_pos hk]
  · rw [if_neg (by rintro ⟨_, h⟩; exact hk h), if_neg hk]
theorem two_is {op : Int} {a b : V} {c : Int} (h : op = 19 ∨ op = 20) (ha : may a = true) (hb : may b = true) : two op a b c = pbool (compare op (cmp a b c)) := by
  rw [two_makes (by omega) ha hb, makes, if_neg (by omega), if_neg (by omega), if_neg (by omega), if_neg (by omega), if_neg (by omega)]
theorem opposite {o p : Int} {a b : V} {c : Int} (h : 13 ≤ o ∧ o ≤ 18) (h' : 13 ≤ p ∧ p ≤ 18) (ha : may a = true) (hb : may b = true) (hc : ∀ n, compare o n = !compare p n) : two o a b c = nott (two p a b c) := by
  rw [two_cmp h ha hb, two_cmp h' ha hb]
  split
  · exact nott_zero.symm
  · rw [nott_bool, hc]
theorem ne_eq {a b : V} {c : Int} (ha : may a = true) (hb : may b = true) : two 14 a b c = nott (two 13 a b c) := opposite (by decide) (by decide) ha hb (fun n => by simp [compare])
theorem ge_lt {a b : V} {c : Int} (ha : may a = true) (hb : may b = true) : two 18 a b c = nott (two 15 a b c) := opposite (by decide) (by decide) ha hb (fun n => by simp only [compare]; simp; rw [← decide_not, decide_eq_decide]; omega)
theorem gt_le {a b : V} {c : Int} (ha : may a = true) (hb : may b = true) : two 17 a b c = nott (two 16 a b c) := opposite (by decide) (by decide) ha hb (fun n => by simp only [compare]; simp; rw [← decide_not, decide_eq_decide]; omega)
theorem isnot_is {a b : V} {c : Int} (ha : may a = true) (hb : may b = true) : two 20 a b c = nott (two 19 a b c) := by
  rw [two_is (.inr rfl) ha hb, two_is (.inl rfl) ha hb, nott_bool]
  simp [compare]
theorem lt_gt {a b : V} {c : Int} (ha : may a = true) (hb : may b = true) : two 15 a b c = two 17 b a c := by
  rw [two_cmp (by decide) ha hb, two_cmp (by decide) hb ha, cmp_neg a b c]
  have e : (a.kind = 0 ∨ b.kind = 0) ↔ (b.kind = 0 ∨ a.kind = 0) := Or.comm
  simp only [e]
  have c15 : ∀ n, compare 15 n = decide (n < 0) := fun n => by simp [compare]
  have c17 : ∀ n, compare 17 n = decide (0 < n) := fun n => by simp [compare]
  have : compare 15 (cmp a b c) = compare 17 (-cmp a b c) := by rw [c15, c17, decide_eq_decide]; omega
  rw [this]
theorem in_eq {a b : V} {c : Int} (ha : may a = true) (hb : may b = true) : isIn a [b] c = two 13 a b c := by
  rw [two_cmp (by decide) ha hb, isIn, if_pos ⟨ha, by simp [hb]⟩, if_neg (by simp)]
  by_cases h1 : a.kind = 0
  · rw [if_pos h1, if_pos (.inl h1)]
  · rw [if_neg h1]
    by_cases h2 : b.kind = 0
    · simp [h1, h2]
    · simp only [List.any_cons, List.any_nil, Bool.or_false, h1, h2, compare]
      by_cases h3 : cmp a b c = 0 <;> simp [h2, h3]

/-! sums undone -/
def mk (n : Int) : V := ⟨1, n, []⟩
theorem two_arith {op x y : Int} {c : Int} (h : 7 ≤ op ∧ op ≤ 11) : two op (mk x) (mk y) c = arith op x y := by
  have hm : ∀ n, may (mk n) = true := fun n => by simp [may, mk]
  rw [two_makes (by omega) (hm x) (hm y), makes, if_pos (by omega), mk, mk, num_mk, num_mk, if_neg (by simp)]
theorem back_sum {x y c : Int} (hx : inr x) (h : (two 7 (mk x) (mk y) c).kind = 1) : two 8 (two 7 (mk x) (mk y) c) (mk y) c = mk x := by
  rw [two_arith (by decide), arith, if_pos rfl] at h ⊢
  by_cases hi : inr (x + y)
  · rw [fit_in hi, ← mk, two_arith (by decide), arith, if_neg (by decide), if_pos rfl, show x + y - y = x by omega, fit_in hx]; rfl
  · rw [fit_out hi] at h; exact absurd h (by decide)
theorem two_div {x y c : Int} : two 10 (mk x) (mk y) c = if y = 0 then zero else fit (Int.tdiv x y) := by
  rw [two_arith (by decide), arith, if_neg (by decide), if_neg (by decide), if_neg (by decide)]; simp
theorem two_rem {x y c : Int} : two 11 (mk x) (mk y) c = if y = 0 then zero else mk (Int.tmod x y) := by
  rw [two_arith (by decide), arith, if_neg (by decide), if_neg (by decide), if_neg (by decide)]; simp [mk]
theorem rem_kind {x y c : Int} : (two 11 (mk x) (mk y) c).kind = 0 ↔ y = 0 := by
  rw [two_rem]
  split
  · rename_i h; simp [h, zero]
  · rename_i h; simp [h, mk]
theorem div_kind {x y c : Int} (hx : inr x) : (two 10 (mk x) (mk y) c).kind = 0 ↔ y = 0 ∨ x = -9223372036854775808 ∧ y = -1 := by
  rw [two_div]
  split
  · rename_i h; simp [h, zero]
  · rename_i h
    by_cases hm : x = -9223372036854775808 ∧ y = -1
    · rw [fit_out]
      · simp [hm, zero]
      · rw [hm.1, hm.2]; decide
    · rw [fit_in (tdiv_in hx hm)]
      simp only [h, false_or]
      constructor
      · intro hh; exact absurd hh (by decide)
      · intro hh; exact absurd hh hm
theorem back_div {x y c : Int} (hx : inr x) (hy : inr y) (h : (two 10 (mk x) (mk y) c).kind = 1) : two 7 (two 9 (two 10 (mk x) (mk y) c) (mk y) c) (two 11 (mk x) (mk y) c) c = mk x := by
  have hk : ¬ (y = 0 ∨ x = -9223372036854775808 ∧ y = -1) := fun hh => by rw [(div_kind hx).2 hh] at h; exact absurd h (by decide)
  have h0 : y ≠ 0 := fun hh => hk (.inl hh)
  have hd := tdiv_in (y := y) hx (fun hh => hk (.inr hh))
  rw [two_div, two_rem, if_neg h0, if_neg h0, fit_in hd, ← mk, two_arith (by decide), arith, if_neg (by decide), if_neg (by decide), if_pos rfl]
  have e := Int.mul_tdiv_add_tmod x y
  rw [Int.mul_comm] at e
  have hp : (Int.tdiv x y * y).natAbs ≤ x.natAbs := by
    rw [Int.natAbs_mul, Int.natAbs_tdiv]
    exact Nat.div_mul_le_self _ _
  have hr : (Int.tmod x y).natAbs < y.natAbs := by rw [Int.natAbs_tmod]; exact Nat.mod_lt _ (by omega)
  have hs : inr (Int.tdiv x y * y) := by
    generalize Int.tdiv x y * y = p at e hp ⊢
    generalize Int.tmod x y = r at e hr
    unfold inr at *
    omega
  rw [fit_in hs, ← mk, two_arith (by decide), arith, if_pos rfl, e, fit_in hx]; rfl

/-! numbers as texts -/
theorem first_itoa (n : Int) : ∃ c r, Lib.itoa n = c :: r ∧ (c.toNat = 45 ∨ 48 ≤ c.toNat ∧ c.toNat ≤ 57) := by
  unfold Lib.itoa
  split
  · exact ⟨45, _, rfl, .inl rfl⟩
  · obtain ⟨c, r, h1, h2⟩ := dec_first n.toNat
    exact ⟨c, r, h1, .inr h2⟩
theorem ltrim_itoa (n : Int) : ltrim (Lib.itoa n) = Lib.itoa n := by
  obtain ⟨c, r, h1, h2⟩ := first_itoa n
  have hb : isBlank c = false := by
    cases hb : isBlank c with
    | false => rfl
    | true =>
      simp [isBlank] at hb
      rcases hb with rfl | rfl | rfl | rfl <;> revert h2 <;> decide
  rw [h1, ltrim_other r hb]
theorem etrim_last {l : List UInt8} (h : ∀ c, l.getLast? = some c → isBlank c = false) : etrim l = l := by
  rcases List.eq_nil_or_concat l with rfl | ⟨r, c, rfl⟩
  · rfl
  · rw [List.concat_eq_append] at h ⊢
    exact etrim_other r (h c (by simp))
theorem dig_blank {c : UInt8} (h : 48 ≤ c.toNat ∧ c.toNat ≤ 57) : isBlank c = false := by
  cases hb : isBlank c with
  | false => rfl
  | true =>
    simp [isBlank] at hb
    rcases hb with rfl | rfl | rfl | rfl <;> revert h <;> decide
theorem last_itoa (n : Int) : ∀ c, (Lib.itoa n).getLast? = some c → 48 ≤ c.toNat ∧ c.toNat ≤ 57 := by
  intro c hc
  unfold Lib.itoa at hc
  split at hc
  · obtain ⟨⟨p1, p2, _⟩, _⟩ := dec_plain n.natAbs
    rw [List.getLast?_cons_of_ne_nil p1] at hc
    exact p2 c (List.mem_of_getLast? hc)
  · obtain ⟨⟨p1, p2, _⟩, _⟩ := dec_plain n.toNat
    exact p2 c (List.mem_of_getLast? hc)
theorem etrim_itoa (n : Int) : etrim (Lib.itoa n) = Lib.itoa n := etrim_last fun c hc => dig_blank (last_itoa n c hc)
theorem tw_digs {l : List UInt8} (h : digs l) : l.takeWhile isDigit = l := by
  induction l with
  | nil => rfl
  | cons c r ih =>
    have hd := (digs_cons c r).1 h
    rw [List.takeWhile_cons, if_pos (by simp [isDigit]; exact hd.1), ih hd.2]
theorem lead_itoa (n : Int) : lead (Lib.itoa n) = (Lib.itoa n).length ∧ (Lib.itoa n) ≠ [] ∧ lead (Lib.itoa n) ≠ 0 := by
  unfold Lib.itoa
  split
  · obtain ⟨⟨p1, p2, _⟩, _⟩ := dec_plain n.natAbs
    have e1 : sgn (45 :: Lib.decDigits n.natAbs) = 1 := by rfl
    have e2 : leadN (45 :: Lib.decDigits n.natAbs) = (45 :: Lib.decDigits n.natAbs).length := by
      rw [leadN, e1]
      simp only [List.drop_succ_cons, List.drop_zero, tw_digs p2, List.length_cons]; omega
    have hp : 0 < (Lib.decDigits n.natAbs).length := List.length_pos_iff.2 p1
    have e3 : lead (45 :: Lib.decDigits n.natAbs) = (45 :: Lib.decDigits n.natAbs).length := by
      rw [lead, e1, e2, if_neg (by simp only [List.length_cons]; omega)]
    exact ⟨e3, by simp, by rw [e3]; simp⟩
  · obtain ⟨⟨p1, p2, _⟩, _⟩ := dec_plain n.toNat
    have e1 : sgn (Lib.decDigits n.toNat) = 0 := by
      rcases hd : Lib.decDigits n.toNat with _ | ⟨x, l⟩
      · rfl
      · have := p2 x (by rw [hd]; simp)
        rw [sgn, if_neg (by omega)]
    have e2 : leadN (Lib.decDigits n.toNat) = (Lib.decDigits n.toNat).length := by
      rw [leadN, e1]
      simp only [List.drop_zero, tw_digs p2]; omega
    have hp : 0 < (Lib.decDigits n.toNat).length := List.length_pos_iff.2 p1
    have e3 : lead (Lib.decDigits n.toNat) = (Lib.decDigits n.toNat).length := by
      rw [lead, e1, e2, if_neg (by omega)]
    exact ⟨e3, p1, by rw [e3]; omega⟩
theorem pnum_itoa {n : Int} (h : inr n) : pnum (Lib.itoa n) = mk n := pnum_ok (parse_itoa n h.1 h.2)
theorem may_itoa {n : Int} (h : inr n) : may ⟨2, 0, Lib.itoa n⟩ = true := by
  have := itoa_len n h.1 h.2
  rw [may_iff]; simp; omega
theorem num_itoa {n : Int} (h : inr n) : num ⟨2, 0, Lib.itoa n⟩ = mk n := by
  obtain ⟨h1, h2, h3⟩ := lead_itoa n
  rw [num_text (may_itoa h) (by simp) (by simp) (by rw [ltrim_itoa]; exact h3), ltrim_itoa, h1, List.take_length]
  exact pnum_itoa h
theorem apply_itoa {n : Int} (h : inr n) : apply 1 ⟨2, 0, Lib.itoa n⟩ = mk n := by
  obtain ⟨h1, h2, h3⟩ := lead_itoa n
  rw [apply, if_pos (may_itoa h), if_neg (by simp)]
  simp only [ltrim_itoa, etrim_itoa]
  rw [if_pos ⟨trivial, trivial, h2, h1, by rw [pnum_itoa h]; rfl⟩, pnum_itoa h]
theorem apply_text {n : Int} : apply 2 (mk n) = ⟨2, 0, Lib.itoa n⟩ := by
  have hm : may (mk n) = true := by simp [may, mk]
  rw [apply, if_pos hm, if_pos ⟨rfl, rfl⟩, pshow_int hm rfl]; rfl
theorem cast_text {n : Int} : cast (mk n) [116, 101, 120, 116] = (⟨2, 0, Lib.itoa n⟩, 0) := by
  have hm : may (mk n) = true := by simp [may, mk]
  have ha : affOf [116, 101, 120, 116] = (2, true) := by decide
  rw [cast, ha, if_pos rfl, if_pos hm, if_neg (by simp [mk]), if_neg (by decide), if_pos rfl, pshow_int hm rfl]; rfl
theorem cast_int {n : Int} (h : inr n) : cast ⟨2, 0, Lib.itoa n⟩ [73, 78, 84, 69, 71, 69, 82] = (mk n, 0) := by
  have ha : affOf [73, 78, 84, 69, 71, 69, 82] = (1, true) := by decide
  rw [cast, ha, if_pos rfl, if_pos (may_itoa h), if_neg (by simp), if_pos rfl, num_itoa h]

end Go.Proofs.YtdapnemcdgjeeaaGreatDoor.Val

/-! Whether a value is one of a list, taken up one by one, in plain Lean. -/
namespace Go.Proofs.YtdapnemcdgjeeaaGreatDoor.Val

/-- is a value one of a list, as far as it goes: some are, some are unknown -/
def someIs (x : V) (l : List V) (c : Int) : Bool := l.any fun v => decide (v.kind ≠ 0) && decide (cmp x v c = 0)
def someNull (l : List V) : Bool := l.any fun v => decide (v.kind = 0)
def inF (x : V) (l : List V) (c : Int) : V :=
  if l = [] then pbool false else if x.kind = 0 then zero else if someIs x l c = true then pbool true else if someNull l = true then zero else pbool false
theorem isIn_yes {x : V} {l : List V} {c : Int} (hx : may x = true) (hl : l.all may = true) : isIn x l c = inF x l c := by
  rw [isIn, if_pos ⟨hx, hl⟩]; rfl
theorem isIn_no {x : V} {l : List V} {c : Int} (h : may x = false ∨ l.all may = false) : isIn x l c = zero := by
  rw [isIn, if_neg]
  rintro ⟨h1, h2⟩
  rcases h with h | h
  · rw [h] at h1; cases h1
  · rw [h] at h2; cases h2
theorem someIs_snoc (x : V) (l : List V) (v : V) (c : Int) : someIs x (l ++ [v]) c = (someIs x l c || (decide (v.kind ≠ 0) && decide (cmp x v c = 0))) := by simp [someIs]
theorem someNull_snoc (l : List V) (v : V) : someNull (l ++ [v]) = (someNull l || decide (v.kind = 0)) := by simp [someNull]
theorem or_three {x y : V} {c : Int} (hx : may x = true) (hy : may y = true) : two 22 x y c = logic 1 (tru x) (tru y) := by
  rw [two_makes (by decide) hx hy, makes, if_neg (by decide), if_neg (by decide), if_neg (by decide), if_pos rfl]
theorem inF_may (x : V) (l : List V) (c : Int) : may (inF x l c) = true := by
  unfold inF
  split
  · decide
  · split
    · decide
    · split
      · decide
      · split <;> decide
theorem two_may {a b : V} {c : Int} (ha : may a = true) (hb : may b = true) : may (two 13 a b c) = true := by
  rw [two_cmp (by decide) ha hb]
  split
  · decide
  · exact may_bool _
theorem inF_snoc {x : V} {l : List V} {v : V} {c : Int} (hx : may x = true) (hv : may v = true) : two 22 (inF x l c) (two 13 x v c) c = inF x (l ++ [v]) c := by
  rw [or_three (inF_may x l c) (two_may hx hv), two_cmp (by decide) hx hv]
  have c13 : ∀ n, compare 13 n = decide (n = 0) := fun n => by simp [compare]
  rw [c13]
  unfold inF
  rw [someIs_snoc, someNull_snoc, if_neg (show ¬ (l ++ [v] = []) by simp)]
  generalize hP : someIs x l c = p
  generalize hQ : someNull l = q
  have e1 : logic 1 0 (-1) = zero := by decide
  have e2 : logic 1 0 0 = pbool false := by decide
  have e3 : logic 1 0 1 = pbool true := by decide
  have e4 : ∀ n, logic 1 1 n = pbool true := fun n => by simp [logic, three, pbool]
  have e5 : logic 1 (-1) (-1) = zero := by decide
  have e6 : logic 1 (-1) 0 = zero := by decide
  have e7 : logic 1 (-1) 1 = pbool true := by decide
  have t0 : tru (pbool false) = 0 := tru_bool false
  have t1 : tru (pbool true) = 1 := tru_bool true
  have g1 : pbool (decide True) = pbool true := rfl
  have g0 : pbool (decide False) = pbool false := rfl
  by_cases hl : l = []
  · subst hl
    have hp : p = false := by rw [← hP]; rfl
    have hq : q = false := by rw [← hQ]; rfl
    subst hp hq
    by_cases h1 : x.kind = 0
    · simp [h1, t0, t1, tru_zero, e1, e2, e3, e4, e5, e6, e7]
    · by_cases h2 : v.kind = 0
      · simp [h1, h2, t0, t1, tru_zero, e1, e2, e3, e4, e5, e6, e7]
      · by_cases h3 : cmp x v c = 0 <;> simp [h1, h2, h3, t0, t1, tru_zero, e1, e2, e3, e4, e5, e6, e7]
  · by_cases h1 : x.kind = 0
    · simp [hl, h1, t0, t1, tru_zero, e1, e2, e3, e4, e5, e6, e7]
    · by_cases h2 : v.kind = 0
      · cases p <;> cases q <;> simp [hl, h1, h2, t0, t1, tru_zero, e1, e2, e3, e4, e5, e6, e7]
      · by_cases h3 : cmp x v c = 0
        · cases p <;> cases q <;> simp [hl, h1, h2, h3, t0, t1, tru_zero, e1, e2, e3, e4, e5, e6, e7]
        · cases p <;> cases q <;> simp [hl, h1, h2, h3, t0, t1, tru_zero, e1, e2, e3, e4, e5, e6, e7]

end Go.Proofs.YtdapnemcdgjeeaaGreatDoor.Val
