/- Which words are keywords, in plain Lean. -/
import Derived.Test.YtmkgalcojoeniaaGreatDoorPlain
import Derived.Lib.MapU
set_option maxRecDepth 100000
set_option linter.unusedVariables false
set_option linter.unusedSimpArgs false
namespace Go.Proofs.YtmkgalcojoeniaaGreatDoor.Tok

/-- the words of a text, at its blanks -/
def words : List UInt8 → List UInt8 → List (List UInt8)
  | [], acc => if acc = [] then [] else [acc]
  | c :: r, acc => if c = 32 then (if acc = [] then words r [] else acc :: words r []) else words r (acc ++ [c])
theorem words_byte {c : UInt8} (r acc : List UInt8) (h : c ≠ 32) : words (c :: r) acc = words r (acc ++ [c]) := by rw [words, if_neg h]
theorem words_gap {c : UInt8} (r : List UInt8) (h : c = 32) : words (c :: r) [] = words r [] := by rw [words, if_pos h, if_pos rfl]
theorem words_word {c : UInt8} {acc : List UInt8} (r : List UInt8) (h : c = 32) (ha : acc ≠ []) : words (c :: r) acc = acc :: words r [] := by rw [words, if_pos h, if_neg ha]
theorem words_len (r acc : List UInt8) : (words r acc).length ≤ r.length + 1 ∧ (acc = [] → (words r acc).length ≤ r.length) := by
  induction r generalizing acc with
  | nil => rw [words]; split <;> simp_all
  | cons c r ih =>
    by_cases hc : c = 32
    · by_cases ha : acc = []
      · subst ha
        rw [words_gap r hc]
        have := ih []
        simp at this ⊢; omega
      · rw [words_word r hc ha]
        have := ih []
        simp at this ⊢; exact ⟨by omega, fun h => absurd h ha⟩
    · rw [words_byte r acc hc]
      have := ih (acc ++ [c])
      simp at this ⊢
      refine ⟨by omega, fun h => by omega⟩

/-- a word between blanks, and the words of the text -/
theorem infix_words (u : List UInt8) (hu : u ≠ []) (hn : ∀ c ∈ u, c ≠ 32) : ∀ (r acc : List UInt8), (∀ c ∈ acc, c ≠ 32) → (r = [] → acc = []) → (r ≠ [] → r.getLast? = some 32) →
    ((32 :: (u ++ [32])) <:+: (32 :: (acc ++ r)) ↔ u ∈ words r acc) := by
  have key : ∀ (acc r : List UInt8), (∀ c ∈ acc, c ≠ 32) → ((32 :: (u ++ [32])) <:+: (acc ++ r) ↔ (32 :: (u ++ [32])) <:+: r) := by
    intro acc
    induction acc with
    | nil => intro r _; rfl
    | cons a acc ih =>
      intro r ha
      rw [List.cons_append, List.infix_cons_iff, ih r (fun c hc => ha c (by simp [hc]))]
      constructor
      · rintro (h | h)
        · rw [List.cons_prefix_cons] at h
          exact absurd h.1.symm (ha a (by simp))
        · exact h
      · exact .inr
  have pre : ∀ (v acc r : List UInt8), (∀ c ∈ v, c ≠ 32) → (∀ c ∈ acc, c ≠ 32) → ((v ++ [32]) <+: (acc ++ 32 :: r) ↔ v = acc) := by
    intro v
    induction v with
    | nil =>
      intro acc r _ ha
      cases acc with
      | nil => simp
      | cons a acc =>
        simp only [List.nil_append, List.cons_append, List.cons_prefix_cons]
        constructor
        · rintro ⟨h, _⟩; exact absurd h.symm (ha a (by simp))
        · intro h; cases h
    | cons v0 v ih =>
      intro acc r hv ha
      cases acc with
      | nil =>
        simp only [List.nil_append, List.cons_append, List.cons_prefix_cons]
        constructor
        · rintro ⟨h, _⟩; exact absurd h (hv v0 (by simp))
        · intro h; cases h
      | cons a acc =>
        simp only [List.cons_append, List.cons_prefix_cons]
        rw [ih acc r (fun c hc => hv c (by simp [hc])) (fun c hc => ha c (by simp [hc]))]
        simp
  intro r
  induction r with
  | nil =>
    intro acc _ h0 _
    have := h0 rfl
    subst this
    simp only [words, if_pos, List.append_nil, List.not_mem_nil, iff_false]
    intro h
    have := h.length_le
    simp at this
  | cons c r ih =>
    intro acc ha _ hl
    have hl' : r ≠ [] → r.getLast? = some 32 := by
      intro hr
      have := hl (by simp)
      cases r with
      | nil => exact absurd rfl hr
      | cons d r => simpa [List.getLast?_cons_cons] using this
    by_cases hc : c = 32
    · subst hc
      rw [List.infix_cons_iff, key acc _ ha, ← List.nil_append r, ih [] (by simp) (fun _ => rfl) hl', List.nil_append, List.cons_prefix_cons, pre u acc r hn ha]
      by_cases hacc : acc = []
      · subst hacc
        rw [words_gap r rfl]
        simp [hu]
      · rw [words_word r rfl hacc]
        simp
    · rw [words_byte r acc hc, ← ih (acc ++ [c]) (by intro d hd; rcases List.mem_append.1 hd with h | h; exact ha d h; simp at h; subst h; exact hc) ?_ hl']
      · simp
      · intro hr
        subst hr
        have := hl (by simp)
        simp at this
        exact absurd this hc

end Go.Proofs.YtmkgalcojoeniaaGreatDoor.Tok
