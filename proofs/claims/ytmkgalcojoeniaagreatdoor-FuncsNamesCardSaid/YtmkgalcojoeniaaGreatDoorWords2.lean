/- Which words are keywords: the list, and what is the same as standing in it. -/
import Derived.Test.YtmkgalcojoeniaaGreatDoorWords
import Derived.Lib.Case
import Derived.Lib.IndexMore
set_option maxRecDepth 100000
set_option linter.unusedVariables false
set_option linter.unusedSimpArgs false
namespace Go.Proofs.YtmkgalcojoeniaaGreatDoor.Tok

/-- the keywords, with a blank between any two -/
def KW : List UInt8 := [65, 66, 79, 82, 84, 32, 65, 68, 68, 32, 65, 76, 76, 32, 65, 76, 84, 69, 82, 32, 65, 78, 68, 32, 65, 83, 32, 65, 83, 67, 32, 66, 69, 71, 73, 78, 32, 66, 69, 84, 87, 69, 69, 78, 32, 66, 89, 32, 67, 65, 83, 69, 32, 67, 65, 83, 84, 32, 67, 72, 69, 67, 75, 32, 67, 79, 76, 76, 65, 84, 69, 32, 67, 79, 76, 85, 77, 78, 32, 67, 79, 77, 77, 73, 84, 32, 67, 82, 69, 65, 84, 69, 32, 67, 82, 79, 83, 83, 32, 68, 69, 70, 65, 85, 76, 84, 32, 68, 69, 70, 69, 82, 82, 69, 68, 32, 68, 69, 76, 69, 84, 69, 32, 68, 69, 83, 67, 32, 68, 73, 83, 84, 73, 78, 67, 84, 32, 68, 82, 79, 80, 32, 69, 76, 83, 69, 32, 69, 78, 68, 32, 69, 88, 67, 69, 80, 84, 32, 69, 88, 67, 76, 85, 83, 73, 86, 69, 32, 69, 88, 73, 83, 84, 83, 32, 70, 82, 79, 77, 32, 71, 76, 79, 66, 32, 71, 82, 79, 85, 80, 32, 72, 65, 86, 73, 78, 71, 32, 73, 70, 32, 73, 71, 78, 79, 82, 69, 32, 73, 77, 77, 69, 68, 73, 65, 84, 69, 32, 73, 78, 32, 73, 78, 68, 69, 88, 32, 73, 78, 78, 69, 82, 32, 73, 78, 83, 69, 82, 84, 32, 73, 78, 84, 69, 82, 83, 69, 67, 84, 32, 73, 78, 84, 79, 32, 73, 83, 32, 74, 79, 73, 78, 32, 75, 69, 89, 32, 76, 69, 70, 84, 32, 76, 73, 75, 69, 32, 76, 73, 77, 73, 84, 32, 78, 79, 84, 32, 78, 85, 76, 76, 32, 79, 70, 70, 83, 69, 84, 32, 79, 78, 32, 79, 82, 32, 79, 82, 68, 69, 82, 32, 79, 85, 84, 69, 82, 32, 80, 82, 73, 77, 65, 82, 89, 32, 82, 69, 67, 85, 82, 83, 73, 86, 69, 32, 82, 69, 76, 69, 65, 83, 69, 32, 82, 69, 78, 65, 77, 69, 32, 82, 69, 80, 76, 65, 67, 69, 32, 82, 79, 76, 76, 66, 65, 67, 75, 32, 83, 65, 86, 69, 80, 79, 73, 78, 84, 32, 83, 69, 76, 69, 67, 84, 32, 83, 69, 84, 32, 84, 65, 66, 76, 69, 32, 84, 72, 69, 78, 32, 84, 79, 32, 84, 82, 65, 78, 83, 65, 67, 84, 73, 79, 78, 32, 85, 78, 73, 79, 78, 32, 85, 78, 73, 81, 85, 69, 32, 85, 80, 68, 65, 84, 69, 32, 85, 83, 73, 78, 71, 32, 86, 65, 76, 85, 69, 83, 32, 86, 73, 69, 87, 32, 87, 72, 69, 78, 32, 87, 72, 69, 82, 69, 32, 87, 73, 84, 72]
def KWL : List (List UInt8) := words KW []
def up (c : UInt8) : Bool := decide (65 ≤ c.toNat ∧ c.toNat ≤ 90)
theorem kwl_up : KWL.all (fun u => u.all up && !u.isEmpty) = true := by decide +kernel
theorem kwl_len : KWL.length ≤ 1000 := by decide +kernel

theorem low_cases : ∀ n : Fin 256, Txt.lower (Lib.upperB (UInt8.ofNat n.val)) = Txt.lower (UInt8.ofNat n.val) ∧ (97 ≤ (Txt.lower (UInt8.ofNat n.val)).toNat ∧ (Txt.lower (UInt8.ofNat n.val)).toNat ≤ 122 → letter (UInt8.ofNat n.val) = true ∧ Lib.upperB (UInt8.ofNat n.val) = UInt8.ofNat ((Txt.lower (UInt8.ofNat n.val)).toNat - 32)) ∧ (up (UInt8.ofNat n.val) = true → 97 ≤ (Txt.lower (UInt8.ofNat n.val)).toNat ∧ (Txt.lower (UInt8.ofNat n.val)).toNat ≤ 122 ∧ UInt8.ofNat n.val = UInt8.ofNat ((Txt.lower (UInt8.ofNat n.val)).toNat - 32)) ∧ (letter (UInt8.ofNat n.val) = true → n.val < 128) := by decide +kernel
theorem low_facts (c : UInt8) : Txt.lower (Lib.upperB c) = Txt.lower c ∧ (97 ≤ (Txt.lower c).toNat ∧ (Txt.lower c).toNat ≤ 122 → letter c = true ∧ Lib.upperB c = UInt8.ofNat ((Txt.lower c).toNat - 32)) ∧ (up c = true → 97 ≤ (Txt.lower c).toNat ∧ (Txt.lower c).toNat ≤ 122 ∧ c = UInt8.ofNat ((Txt.lower c).toNat - 32)) ∧ (letter c = true → c.toNat < 128) := by
  have h := low_cases ⟨c.toNat, c.toNat_lt⟩
  simp only [UInt8.ofNat_toNat] at h
  exact h

/-- a word of capital letters, read without regard to the letters' size -/
theorem fold_match (u w : List UInt8) (hu : u.all up = true) : u.map Txt.lower = w.map Txt.lower ↔ (w.all letter = true ∧ u = Lib.toUpperA w) := by
  induction u generalizing w with
  | nil =>
    cases w with
    | nil => simp [Lib.toUpperA]
    | cons c w => simp [Lib.toUpperA]
  | cons d u ih =>
    cases w with
    | nil => simp [Lib.toUpperA]
    | cons c w =>
      simp only [List.all_cons, Bool.and_eq_true] at hu
      have hd := (low_facts d).2.2.1 hu.1
      have hi := ih w hu.2
      simp only [List.map_cons, List.cons.injEq, List.all_cons, Bool.and_eq_true, Lib.toUpperA] at hi ⊢
      constructor
      · rintro ⟨h1, h2⟩
        have hc := (low_facts c).2.1 (by rw [← h1]; exact ⟨hd.1, hd.2.1⟩)
        obtain ⟨h3, h4⟩ := hi.1 h2
        exact ⟨⟨hc.1, h3⟩, by rw [hc.2, ← h1]; exact hd.2.2, h4⟩
      · rintro ⟨⟨h1, h2⟩, h3, h4⟩
        exact ⟨by rw [h3]; exact (low_facts c).1, hi.2 ⟨h2, h4⟩⟩

/-- is a word a keyword? -/
def isKw (w : List UInt8) : Bool := w.all letter && decide (Lib.toUpperA w ∈ KWL)
def kwText (w : List UInt8) : List UInt8 := if isKw w then Lib.toUpperA w else []

theorem kwl_match {u w : List UInt8} (hu : u ∈ KWL) : u.map Txt.lower = w.map Txt.lower ↔ (isKw w = true ∧ u = kwText w) := by
  have h := List.all_eq_true.1 kwl_up u hu
  simp only [Bool.and_eq_true] at h
  rw [fold_match u w h.1]
  unfold kwText isKw
  constructor
  · rintro ⟨h1, h2⟩
    have : (w.all letter && decide (Lib.toUpperA w ∈ KWL)) = true := by rw [h1, ← h2]; simpa using hu
    rw [if_pos this]; exact ⟨this, h2⟩
  · rintro ⟨h1, h2⟩
    rw [if_pos h1] at h2
    simp only [Bool.and_eq_true] at h1
    exact ⟨h1.1, h2⟩

theorem contains_infix (s sub : List UInt8) : Lib.contains s sub = true ↔ sub <:+: s := by
  unfold Lib.contains
  rw [decide_eq_true_iff]
  induction s with
  | nil =>
    unfold Lib.index
    cases sub with
    | nil => simp
    | cons c r => simp
  | cons b l ih =>
    have hg := Lib.index_ge l sub
    have e : Lib.index (b :: l) sub = if sub.isPrefixOf (b :: l) then 0 else if Lib.index l sub == -1 then -1 else Lib.index l sub + 1 := by rw [Lib.index]
    rw [List.infix_cons_iff, ← ih, e]
    clear e
    by_cases hp : sub.isPrefixOf (b :: l) = true
    · rw [if_pos hp]
      exact ⟨fun _ => .inl (List.isPrefixOf_iff_prefix.1 hp), fun _ => by omega⟩
    · rw [if_neg hp]
      have hn : ¬ sub <+: b :: l := fun h => hp (List.isPrefixOf_iff_prefix.2 h)
      by_cases hi : Lib.index l sub = -1
      · rw [if_pos (by simpa using hi)]
        constructor
        · intro h; omega
        · rintro (h | h)
          · exact absurd h hn
          · omega
      · rw [if_neg (by simpa using hi)]
        constructor
        · intro _; exact .inr (by omega)
        · intro _; omega

theorem letter_gap {c : UInt8} (h : letter c = true) : c ≠ 32 := by
  rintro rfl
  revert h; decide
theorem upper_gap : ∀ n : Fin 256, letter (UInt8.ofNat n.val) = true → Lib.upperB (UInt8.ofNat n.val) ≠ 32 := by decide +kernel

theorem getLast_gap (l : List UInt8) : (l ++ [32]).getLast? = some 32 := by simp
/-- the program's test -/
theorem kw_contains {w : List UInt8} (hw : w ≠ []) (hl : w.all letter = true) : Lib.contains (32 :: (KW ++ [32])) (32 :: (Lib.toUpperA w ++ [32])) = isKw w := by
  have hu : Lib.toUpperA w ≠ [] := by simpa [Lib.toUpperA] using hw
  have hn : ∀ c ∈ Lib.toUpperA w, c ≠ 32 := by
    intro c hc
    obtain ⟨d, hd, rfl⟩ := List.mem_map.1 hc
    have h1 := upper_gap ⟨d.toNat, d.toNat_lt⟩
    simp only [UInt8.ofNat_toNat] at h1
    exact h1 (List.all_eq_true.1 hl d hd)
  have h := infix_words (Lib.toUpperA w) hu hn (KW ++ [32]) [] (by simp) (fun h => by simp at h) (fun _ => getLast_gap KW)
  have e : words (KW ++ [32]) [] = KWL := by decide +kernel
  rw [e, List.nil_append] at h
  rw [Bool.eq_iff_iff, contains_infix, h]
  unfold isKw
  rw [hl]; simp

theorem not_letters {w : List UInt8} (h : w.all letter = false) : isKw w = false := by unfold isKw; rw [h]; rfl
theorem runEnd_all (p : UInt8 → Bool) (l : List UInt8) (i : Nat) (h : i ≤ l.length) : runEnd p l i = l.length ↔ ((l.drop i).all p = true) := by
  induction hn : l.length - i generalizing i with
  | zero =>
    have : i = l.length := by omega
    subst this
    rw [runEnd_end (Nat.le_refl _)]; simp
  | succ n ih =>
    have hi : i < l.length := by omega
    rw [List.drop_eq_getElem_cons hi, List.all_cons]
    cases hp : p l[i] with
    | true => rw [← runEnd_step hi hp, ih (i + 1) (by omega) (by omega), Bool.true_and]
    | false =>
      rw [runEnd_stop hi hp, Bool.false_and]
      constructor
      · intro h; omega
      · intro h; cases h

/-- is a word a name? -/
def isName (w : List UInt8) : Bool := match w with
  | [] => false
  | c :: r => decide ((c :: r).length ≤ 32) && letter c && (c :: r).all word
def name (w : List UInt8) : Bool := isName w && !isKw w

end Go.Proofs.YtmkgalcojoeniaaGreatDoor.Tok
