/- Which texts fit the parts of a pattern, in plain Lean: by places of the text, as the program reckons it, and by the pattern's rest, as the reference does. -/
import Derived.Test.YtmkgalcojoeniaaGreatDoorPlain
set_option maxRecDepth 100000
set_option linter.unusedVariables false
set_option linter.unusedSimpArgs false
namespace Go.Proofs.YtmkgalcojoeniaaGreatDoor.Fit

/-- a part of a pattern: any bytes, or one byte that it takes -/
inductive P where
  | any
  | takes (f : UInt8 → Bool)

def star (g : List UInt8 → Bool) : List UInt8 → Bool
  | [] => g []
  | c :: s => g (c :: s) || star g s
def fit : List P → List UInt8 → Bool
  | [], s => s.isEmpty
  | .any :: l, s => star (fit l) s
  | .takes _ :: _, [] => false
  | .takes f :: l, c :: s => f c && fit l s

theorem star_iff (g : List UInt8 → Bool) (s : List UInt8) : star g s = true ↔ ∃ k, k ≤ s.length ∧ g (s.drop k) = true := by
  induction s with
  | nil => simp [star]
  | cons c s ih =>
    rw [star, Bool.or_eq_true, ih]
    constructor
    · rintro (h | ⟨k, hk, h⟩)
      · exact ⟨0, by simp, by simpa using h⟩
      · exact ⟨k + 1, by simpa using hk, by simpa using h⟩
    · rintro ⟨k, hk, h⟩
      cases k with
      | zero => exact .inl (by simpa using h)
      | succ k => exact .inr ⟨k, by simpa using hk, by simpa using h⟩

/-- the program's rows: row i: do the first i bytes fit the parts so far? -/
def start : Nat → Bool
  | 0 => true
  | _ + 1 => false
def anyRow (row : Nat → Bool) : Nat → Bool
  | 0 => row 0
  | i + 1 => row (i + 1) || anyRow row i
def takeRow (f : UInt8 → Bool) (s : List UInt8) (row : Nat → Bool) : Nat → Bool
  | 0 => false
  | i + 1 => row i && f (s.getD i 0)
def step (s : List UInt8) (row : Nat → Bool) : P → Nat → Bool
  | .any => anyRow row
  | .takes f => takeRow f s row
def rows (s : List UInt8) : List P → (Nat → Bool) → Nat → Bool
  | [], row => row
  | p :: l, row => rows s l (step s row p)

theorem anyRow_iff (row : Nat → Bool) (i : Nat) : anyRow row i = true ↔ ∃ j, j ≤ i ∧ row j = true := by
  induction i with
  | zero => simp [anyRow]
  | succ i ih =>
    rw [anyRow, Bool.or_eq_true, ih]
    constructor
    · rintro (h | ⟨j, hj, h⟩)
      · exact ⟨i + 1, Nat.le_refl _, h⟩
      · exact ⟨j, by omega, h⟩
    · rintro ⟨j, hj, h⟩
      by_cases e : j = i + 1
      · subst e; exact .inl h
      · exact .inr ⟨j, by omega, h⟩

def Goes (s : List UInt8) (row : Nat → Bool) (l : List P) : Prop := ∃ i, i ≤ s.length ∧ row i = true ∧ fit l (s.drop i) = true
theorem goes_step (s : List UInt8) (row : Nat → Bool) (p : P) (l : List P) : Goes s (step s row p) l ↔ Goes s row (p :: l) := by
  cases p with
  | any =>
    unfold Goes step
    constructor
    · rintro ⟨i, hi, h, hf⟩
      obtain ⟨j, hj, hr⟩ := (anyRow_iff row i).1 h
      refine ⟨j, by omega, hr, ?_⟩
      rw [fit, star_iff]
      exact ⟨i - j, by simp; omega, by rw [List.drop_drop, Nat.add_sub_cancel' hj]; exact hf⟩
    · rintro ⟨j, hj, hr, hf⟩
      rw [fit, star_iff] at hf
      obtain ⟨k, hk, hg⟩ := hf
      rw [List.drop_drop] at hg
      simp at hk
      exact ⟨j + k, by omega, (anyRow_iff row (j + k)).2 ⟨j, by omega, hr⟩, hg⟩
  | takes f =>
    unfold Goes step
    constructor
    · rintro ⟨i, hi, h, hf⟩
      cases i with
      | zero => simp [takeRow] at h
      | succ i =>
        simp only [takeRow, Bool.and_eq_true] at h
        have hil : i < s.length := by omega
        refine ⟨i, by omega, h.1, ?_⟩
        rw [List.drop_eq_getElem_cons hil, fit, Bool.and_eq_true]
        refine ⟨?_, hf⟩
        have := h.2
        rwa [List.getD_eq_getElem?_getD, List.getElem?_eq_getElem hil] at this
    · rintro ⟨i, hi, hr, hf⟩
      by_cases hil : i < s.length
      · rw [List.drop_eq_getElem_cons hil, fit, Bool.and_eq_true] at hf
        refine ⟨i + 1, by omega, ?_, hf.2⟩
        simp only [takeRow, Bool.and_eq_true]
        refine ⟨hr, ?_⟩
        rw [List.getD_eq_getElem?_getD, List.getElem?_eq_getElem hil]
        exact hf.1
      · rw [List.drop_eq_nil_of_le (by omega)] at hf
        simp [fit] at hf

theorem goes_rows (s : List UInt8) (l : List P) (row : Nat → Bool) : Goes s row l ↔ rows s l row s.length = true := by
  induction l generalizing row with
  | nil =>
    unfold Goes
    rw [rows]
    constructor
    · rintro ⟨i, hi, hr, hf⟩
      have : i = s.length := by
        simp [fit] at hf; omega
      rw [← this]; exact hr
    · intro h; exact ⟨s.length, Nat.le_refl _, h, by simp [fit]⟩
  | cons p l ih => rw [rows, ← ih, goes_step]

theorem rows_fit (s : List UInt8) (l : List P) : rows s l start s.length = fit l s := by
  rw [Bool.eq_iff_iff, ← goes_rows]
  unfold Goes
  constructor
  · rintro ⟨i, _, hr, hf⟩
    cases i with
    | zero => simpa using hf
    | succ i => simp [start] at hr
  · intro h; exact ⟨0, by omega, rfl, by simpa using h⟩

/-- the parts of a pattern of LIKE whose letters are small -/
def likePart (c : UInt8) : P := if c = 37 then .any else if c = 95 then .takes (fun _ => true) else .takes (fun d => c == d)
def like (p : List UInt8) : List P := p.map likePart

/-- the reference's test, of the rests of both -/
theorem like_end (s : List UInt8) : fit (like []) s = s.isEmpty := rfl
theorem like_any (s p : List UInt8) : fit (like (37 :: p)) s = (fit (like p) s || (match s with | [] => false | _ :: r => fit (like (37 :: p)) r)) := by
  show star (fit (like p)) s = _
  cases s with
  | nil => simp [star]
  | cons c r => rfl
theorem like_byte {c : UInt8} (s p : List UInt8) (h : c ≠ 37) : fit (like (c :: p)) s = (match s with | [] => false | d :: r => (decide (d = c) || decide (c = 95)) && fit (like p) r) := by
  unfold like
  rw [List.map_cons, likePart, if_neg h]
  by_cases h2 : c = 95
  · rw [if_pos h2]
    cases s with
    | nil => rfl
    | cons d r => simp [fit, h2]
  · rw [if_neg h2]
    cases s with
    | nil => rfl
    | cons d r =>
      simp only [fit, h2, decide_false, Bool.or_false]
      congr 1
      rw [Bool.eq_iff_iff, beq_iff_eq, decide_eq_true_iff]; exact eq_comm

end Go.Proofs.YtmkgalcojoeniaaGreatDoor.Fit
