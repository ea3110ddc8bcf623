/- The tokens of a text as plain Lean functions over lists of bytes: what the program's package token computes, with no program in sight. -/
import Derived.Lib.Bytealg
import Derived.Lib.Strings
namespace Go.Proofs.YtiiaamkmnbegdaaDoor.Tok
set_option maxRecDepth 100000
set_option linter.unusedVariables false
set_option linter.unusedSimpArgs false

def letter (c : UInt8) : Bool := decide (97 ≤ c.toNat ∧ c.toNat ≤ 122 ∨ 65 ≤ c.toNat ∧ c.toNat ≤ 90 ∨ c.toNat = 95)
def digit (c : UInt8) : Bool := decide (48 ≤ c.toNat ∧ c.toNat ≤ 57)
def word (c : UInt8) : Bool := letter c || digit c
def blank (c : UInt8) : Bool := decide (c.toNat = 32 ∨ c.toNat = 9 ∨ c.toNat = 10 ∨ c.toNat = 13)

/-- where a row of bytes of a kind ends -/
def runEnd (p : UInt8 → Bool) (l : List UInt8) (i : Nat) : Nat :=
  if h : i < l.length then (if p l[i] then runEnd p l (i + 1) else i) else i
termination_by l.length - i

theorem runEnd_step {p : UInt8 → Bool} {l : List UInt8} {i : Nat} (h : i < l.length) (hp : p l[i] = true) : runEnd p l (i + 1) = runEnd p l i := by
  rw [runEnd.eq_def p l i, dif_pos h, if_pos hp]
theorem runEnd_stop {p : UInt8 → Bool} {l : List UInt8} {i : Nat} (h : i < l.length) (hp : p l[i] = false) : runEnd p l i = i := by
  rw [runEnd, dif_pos h, if_neg (by simp [hp])]
theorem runEnd_end {p : UInt8 → Bool} {l : List UInt8} {i : Nat} (h : l.length ≤ i) : runEnd p l i = i := by
  rw [runEnd, dif_neg (by omega)]


/-- where the next token begins, or the end -/
def skip (l : List UInt8) (i : Nat) : Nat :=
  if h : i < l.length then
    (if blank l[i] then skip l (i + 1)
     else if Lib.hasPrefix (l.drop i) [45, 45] then
       (if Lib.indexByte (l.drop i) 10 < 0 then l.length else skip l (i + ((Lib.indexByte (l.drop i) 10).toNat + 1)))
     else i)
  else i
termination_by l.length - i

theorem skip_blank {l : List UInt8} {i : Nat} (h : i < l.length) (hb : blank l[i] = true) : skip l (i + 1) = skip l i := by
  rw [skip.eq_def l i, dif_pos h, if_pos hb]
theorem skip_none {l : List UInt8} {i : Nat} (h : i < l.length) (hb : blank l[i] = false) (hp : Lib.hasPrefix (l.drop i) [45, 45] = true) (hn : Lib.indexByte (l.drop i) 10 < 0) : skip l i = l.length := by
  rw [skip.eq_def l i, dif_pos h, if_neg (by simp [hb]), if_pos hp, if_pos hn]
theorem skip_line {l : List UInt8} {i : Nat} (h : i < l.length) (hb : blank l[i] = false) (hp : Lib.hasPrefix (l.drop i) [45, 45] = true) (hn : 0 ≤ Lib.indexByte (l.drop i) 10) : skip l (i + ((Lib.indexByte (l.drop i) 10).toNat + 1)) = skip l i := by
  rw [skip.eq_def l i, dif_pos h, if_neg (by simp [hb]), if_pos hp, if_neg (by omega)]
theorem skip_here {l : List UInt8} {i : Nat} (h : i < l.length) (hb : blank l[i] = false) (hp : Lib.hasPrefix (l.drop i) [45, 45] = false) : skip l i = i := by
  rw [skip.eq_def l i, dif_pos h, if_neg (by simp [hb]), if_neg (by simp [hp])]
theorem skip_end {l : List UInt8} {i : Nat} (h : l.length ≤ i) : skip l i = i := by
  rw [skip.eq_def l i, dif_neg (by omega)]

theorem indexByte_lt (l : List UInt8) (c : UInt8) : Lib.indexByte l c < l.length := by
  induction l with
  | nil => simp [Lib.indexByte]
  | cons b l ih =>
    unfold Lib.indexByte
    simp only [List.length_cons]
    split
    · omega
    · split <;> omega


/-- the bytes of a text whose place i lies behind its first quote, where it ends, and whether it does -/
def quoted (l : List UInt8) (i : Nat) (acc : List UInt8) : List UInt8 × Nat × Bool :=
  if h : i < l.length then
    (if l[i].toNat = 39 then
       (if h1 : i + 1 < l.length then (if l[i + 1].toNat = 39 then quoted l (i + 2) (acc ++ [l[i + 1]]) else (acc, i + 1, true)) else (acc, i + 1, true))
     else quoted l (i + 1) (acc ++ [l[i]]))
  else ([], 0, false)
termination_by l.length - i

theorem quoted_byte {l : List UInt8} {i : Nat} {acc : List UInt8} (h : i < l.length) (hc : l[i].toNat ≠ 39) : quoted l (i + 1) (acc ++ [l[i]]) = quoted l i acc := by
  rw [quoted.eq_def l i, dif_pos h, if_neg hc]
theorem quoted_pair {l : List UInt8} {i : Nat} {acc : List UInt8} (h : i + 1 < l.length) (hc : l[i].toNat = 39) (hd : l[i + 1].toNat = 39) : quoted l (i + 2) (acc ++ [l[i + 1]]) = quoted l i acc := by
  rw [quoted.eq_def l i, dif_pos (by omega), if_pos hc, dif_pos h, if_pos hd]
theorem quoted_last {l : List UInt8} {i : Nat} {acc : List UInt8} (h : i < l.length) (hc : l[i].toNat = 39) (h1 : ¬ i + 1 < l.length) : quoted l i acc = (acc, i + 1, true) := by
  rw [quoted.eq_def l i, dif_pos h, if_pos hc, dif_neg h1]
theorem quoted_close {l : List UInt8} {i : Nat} {acc : List UInt8} (h : i + 1 < l.length) (hc : l[i].toNat = 39) (hd : l[i + 1].toNat ≠ 39) : quoted l i acc = (acc, i + 1, true) := by
  rw [quoted.eq_def l i, dif_pos (by omega), if_pos hc, dif_pos h, if_neg hd]
theorem quoted_open {l : List UInt8} {i : Nat} {acc : List UInt8} (h : l.length ≤ i) : quoted l i acc = ([], 0, false) := by
  rw [quoted.eq_def l i, dif_neg (by omega)]


/-- what a digit to the base 16 is worth; -1: it is none -/
def hex (c : UInt8) : Int :=
  if digit c = true then (c.toNat : Int) - 48 else if 97 ≤ c.toNat ∧ c.toNat ≤ 102 then (c.toNat : Int) - 87 else if 65 ≤ c.toNat ∧ c.toNat ≤ 70 then (c.toNat : Int) - 55 else -1
theorem hex_le (c : UInt8) : -1 ≤ hex c ∧ hex c ≤ 15 := by
  unfold hex digit
  split
  · rename_i h; simp at h; omega
  · split
    · omega
    · split <;> omega

/-- the bytes between the places i and e, two digits each; nothing where one is none -/
def pairs (l : List UInt8) (i e : Nat) (acc : List UInt8) : Option (List UInt8) :=
  if i < e then
    (if hex (l.getD i 0) < 0 ∨ hex (l.getD (i + 1) 0) < 0 then none
     else pairs l (i + 2) e (acc ++ [UInt8.ofNat ((hex (l.getD i 0)).toNat * 16 + (hex (l.getD (i + 1) 0)).toNat)]))
  else some acc
termination_by e - i

theorem pairs_step {l : List UInt8} {i e : Nat} {acc : List UInt8} (h : i < e) (ha : 0 ≤ hex (l.getD i 0)) (hb : 0 ≤ hex (l.getD (i + 1) 0)) :
    pairs l (i + 2) e (acc ++ [UInt8.ofNat ((hex (l.getD i 0)).toNat * 16 + (hex (l.getD (i + 1) 0)).toNat)]) = pairs l i e acc := by
  rw [pairs.eq_def l i, if_pos h, if_neg (by omega)]
theorem pairs_bad {l : List UInt8} {i e : Nat} {acc : List UInt8} (h : i < e) (ha : hex (l.getD i 0) < 0 ∨ hex (l.getD (i + 1) 0) < 0) : pairs l i e acc = none := by
  rw [pairs.eq_def l i, if_pos h, if_pos ha]
theorem pairs_end {l : List UInt8} {i e : Nat} {acc : List UInt8} (h : e ≤ i) : pairs l i e acc = some acc := by
  rw [pairs.eq_def l i, if_neg (by omega)]

/-- the bytes of a blob whose first quote stands at a place, where it ends, and whether it is one -/
def blob (l : List UInt8) (i : Nat) : List UInt8 × Nat × Bool :=
  let n := Lib.indexByte (l.drop (i + 1)) 39
  if n < 0 ∨ n % 2 = 1 then ([], 0, false)
  else match pairs l (i + 1) (i + 1 + n.toNat) [] with
    | none => ([], 0, false)
    | some b => (b, i + n.toNat + 2, true)
theorem blob_none {l : List UInt8} {i : Nat} (h : Lib.indexByte (l.drop (i + 1)) 39 < 0 ∨ Lib.indexByte (l.drop (i + 1)) 39 % 2 = 1) : blob l i = ([], 0, false) := by
  unfold blob; simp only; rw [if_pos h]
theorem blob_bad {l : List UInt8} {i : Nat} (h : ¬ (Lib.indexByte (l.drop (i + 1)) 39 < 0 ∨ Lib.indexByte (l.drop (i + 1)) 39 % 2 = 1))
    (hp : pairs l (i + 1) (i + 1 + (Lib.indexByte (l.drop (i + 1)) 39).toNat) [] = none) : blob l i = ([], 0, false) := by
  unfold blob; simp only; rw [if_neg h, hp]
theorem blob_some {l b : List UInt8} {i : Nat} (h : ¬ (Lib.indexByte (l.drop (i + 1)) 39 < 0 ∨ Lib.indexByte (l.drop (i + 1)) 39 % 2 = 1))
    (hp : pairs l (i + 1) (i + 1 + (Lib.indexByte (l.drop (i + 1)) 39).toNat) [] = some b) : blob l i = (b, i + (Lib.indexByte (l.drop (i + 1)) 39).toNat + 2, true) := by
  unfold blob; simp only; rw [if_neg h, hp]


/-- are two bytes a sign, is a byte one -/
def pair (a b : UInt8) : Bool := decide ([a, b] ∈ ([[124, 124], [61, 61], [60, 62], [33, 61], [60, 61], [62, 61]] : List (List UInt8)))
def single (c : UInt8) : Bool := decide (0 ≤ Lib.indexByte [40, 41, 44, 59, 46, 42, 43, 45, 47, 37, 61, 60, 62] c)
/-- how long a sign is that begins at a place; 0: there is none -/
def sign (l : List UInt8) (i : Nat) : Nat :=
  if i + 1 < l.length ∧ pair (l.getD i 0) (l.getD (i + 1) 0) = true then 2 else if single (l.getD i 0) = true then 1 else 0
theorem sign_two {l : List UInt8} {i : Nat} (h : i + 1 < l.length) (hp : pair (l.getD i 0) (l.getD (i + 1) 0) = true) : sign l i = 2 := by
  rw [sign, if_pos ⟨h, hp⟩]
theorem sign_one {l : List UInt8} {i : Nat} (h : ¬ (i + 1 < l.length ∧ pair (l.getD i 0) (l.getD (i + 1) 0) = true)) (hs : single (l.getD i 0) = true) : sign l i = 1 := by
  rw [sign, if_neg h, if_pos hs]
theorem sign_none {l : List UInt8} {i : Nat} (h : ¬ (i + 1 < l.length ∧ pair (l.getD i 0) (l.getD (i + 1) 0) = true)) (hs : single (l.getD i 0) = false) : sign l i = 0 := by
  rw [sign, if_neg h, if_neg (by rw [hs]; decide)]
theorem sign_le (l : List UInt8) (i : Nat) (h : i < l.length) : i + sign l i ≤ l.length := by
  unfold sign
  split
  · omega
  · split <;> omega

theorem runEnd_le (p : UInt8 → Bool) (l : List UInt8) (i : Nat) (h : i ≤ l.length) : i ≤ runEnd p l i ∧ runEnd p l i ≤ l.length := by
  induction hn : l.length - i generalizing i with
  | zero => rw [runEnd_end (by omega)]; omega
  | succ n ih =>
    have hlt : i < l.length := by omega
    by_cases hp : p l[i] = true
    · have := ih (i + 1) (by omega) (by omega)
      rw [runEnd_step hlt hp] at this
      omega
    · rw [runEnd_stop hlt (by simpa using hp)]; omega

/-- a piece of a text -/
def cut (l : List UInt8) (i e : Nat) : List UInt8 := (l.drop i).take (e - i)

/-- a token: its kind, its place, what it says -/
structure T where
  kind : Nat
  at_ : Nat
  text : List UInt8
deriving DecidableEq

/-- the token that begins at a place, where it ends, and whether there is one -/
def one (l : List UInt8) (i : Nat) : T × Nat × Bool :=
  if (l.getD i 0).toNat = 39 then (⟨3, i, (quoted l (i + 1) []).1⟩, (quoted l (i + 1) []).2.1, (quoted l (i + 1) []).2.2)
  else if ((l.getD i 0).toNat = 120 ∨ (l.getD i 0).toNat = 88) ∧ i + 1 < l.length ∧ (l.getD (i + 1) 0).toNat = 39 then (⟨4, i, (blob l (i + 1)).1⟩, (blob l (i + 1)).2.1, (blob l (i + 1)).2.2)
  else if (l.getD i 0).toNat = 63 then (⟨5, i, cut l (i + 1) (runEnd digit l (i + 1))⟩, runEnd digit l (i + 1), true)
  else if letter (l.getD i 0) = true then (⟨1, i, cut l i (runEnd word l i)⟩, runEnd word l i, decide (i < runEnd word l i))
  else if digit (l.getD i 0) = true then (⟨2, i, cut l i (runEnd digit l i)⟩, runEnd digit l i, decide (i < runEnd digit l i))
  else (⟨6, i, cut l i (i + sign l i)⟩, i + sign l i, decide (i < i + sign l i))


end Go.Proofs.YtiiaamkmnbegdaaDoor.Tok
