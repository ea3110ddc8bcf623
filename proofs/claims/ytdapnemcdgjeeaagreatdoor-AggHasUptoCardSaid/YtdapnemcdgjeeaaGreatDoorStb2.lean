/- Stable sorting, in plain Lean: merging. -/
import Derived.Test.YtdapnemcdgjeeaaGreatDoorStb
set_option maxRecDepth 100000
set_option linter.unusedVariables false
set_option linter.unusedSimpArgs false
namespace Go.Proofs.YtdapnemcdgjeeaaGreatDoor.Stb
variable {α : Type}

theorem ins_head {lt : α → α → Bool} {y : α} {l : List α} (h : ∀ z ∈ l, lt z y = false) : ins lt y l = y :: l := by
  cases l with
  | nil => rfl
  | cons z l => exact ins_no (h z List.mem_cons_self)
/-- two sorted rows merged: of equals that of the first ahead -/
def mergeR (lt : α → α → Bool) : List α → List α → List α
  | [], b => b
  | a, [] => a
  | x :: a, y :: b => if lt y x = true then y :: mergeR lt (x :: a) b else x :: mergeR lt a (y :: b)
termination_by a b => a.length + b.length
theorem mergeR_nil (lt : α → α → Bool) (b : List α) : mergeR lt [] b = b := by rw [mergeR]
theorem mergeR_nil' (lt : α → α → Bool) (a : List α) : mergeR lt a [] = a := by cases a <;> rw [mergeR]; simp
theorem mergeR_yes {lt : α → α → Bool} {x y : α} (a b : List α) (h : lt y x = true) : mergeR lt (x :: a) (y :: b) = y :: mergeR lt (x :: a) b := by rw [mergeR, if_pos h]
theorem mergeR_no {lt : α → α → Bool} {x y : α} (a b : List α) (h : lt y x = false) : mergeR lt (x :: a) (y :: b) = x :: mergeR lt a (y :: b) := by rw [mergeR, if_neg (by rw [h]; simp)]
theorem mergeR_isort {lt : α → α → Bool} (h : SWO lt) : ∀ (n : Nat) (a b : List α), a.length + b.length ≤ n → Sorted lt a → Sorted lt b → mergeR lt a b = isort lt (a ++ b) := by
  intro n
  induction n with
  | zero =>
    intro a b hn _ _
    have ha : a = [] := List.eq_nil_of_length_eq_zero (by omega)
    have hb : b = [] := List.eq_nil_of_length_eq_zero (by omega)
    subst ha hb
    rw [mergeR_nil]; rfl
  | succ n ih =>
    intro a b hn ha hb
    cases a with
    | nil => rw [mergeR_nil, List.nil_append, isort_sorted hb]
    | cons x a =>
      cases b with
      | nil => rw [mergeR_nil', List.append_nil, isort_sorted ha]
      | cons y b =>
        obtain ⟨a1, a2⟩ := List.pairwise_cons.1 ha
        obtain ⟨b1, b2⟩ := List.pairwise_cons.1 hb
        simp only [List.length_cons] at hn
        cases hyx : lt y x with
        | true =>
          have hall : ∀ z ∈ x :: a, lt y z = true := fun z hz => by
            rcases List.mem_cons.1 hz with rfl | hz
            · exact hyx
            · exact h.lt_le hyx (a1 z hz)
          rw [mergeR_yes a b hyx, ih (x :: a) b (by simp only [List.length_cons]; omega) ha b2]
          have e := isort_blocks h (x :: a) [y] b (fun u hu v hv => by rw [List.mem_singleton.1 hv]; exact hall u hu)
          rw [List.singleton_append, List.singleton_append] at e
          rw [e]
          show _ = ins lt y (isort lt (x :: a ++ b))
          rw [ins_head]
          intro z hz
          rcases List.mem_append.1 ((isort_perm lt _).mem_iff.1 hz) with hz | hz
          · exact h.asym (hall z hz)
          · exact b1 z hz
        | false =>
          rw [mergeR_no a b hyx, ih a (y :: b) (by simp only [List.length_cons]; omega) a2 hb]
          show _ = ins lt x (isort lt (a ++ y :: b))
          rw [ins_head]
          intro z hz
          rcases List.mem_append.1 ((isort_perm lt _).mem_iff.1 hz) with hz | hz
          · exact a1 z hz
          · rcases List.mem_cons.1 hz with rfl | hz
            · exact hyx
            · exact h.ntrans z y x (b1 z hz) hyx
theorem isort_isort {lt : α → α → Bool} (h : SWO lt) (a b : List α) : mergeR lt (isort lt a) (isort lt b) = isort lt (a ++ b) := by
  rw [mergeR_isort h _ _ _ (Nat.le_refl _) (isort_is_sorted h a) (isort_is_sorted h b)]
  have hb : isort lt (isort lt b) = isort lt b := isort_sorted (isort_is_sorted h b)
  rw [isort_congr _ hb]
  induction a with
  | nil => rfl
  | cons x a ih =>
    have hx : ∀ (s : List α) (x : α) (l : List α), Sorted lt l → isort lt (ins lt x l ++ s) = ins lt x (isort lt (l ++ s)) := by
      intro s x l
      induction l with
      | nil => intro _; rfl
      | cons y l ihl =>
        intro hl
        obtain ⟨l1, l2⟩ := List.pairwise_cons.1 hl
        cases hyx : lt y x with
        | true =>
          rw [ins_yes hyx]
          show ins lt y (isort lt (ins lt x l ++ s)) = ins lt x (ins lt y (isort lt (l ++ s)))
          rw [ihl l2, ins_comm h hyx]
        | false => rw [ins_no hyx]; rfl
    show isort lt (ins lt x (isort lt a) ++ b) = ins lt x (isort lt (a ++ b))
    rw [hx b x _ (isort_is_sorted h a), ih]
/-- the reference's sorting: halves, merged -/
def rsort (lt : α → α → Bool) : Nat → List α → List α
  | 0, l => l
  | f + 1, l => if l.length < 2 then l else mergeR lt (rsort lt f (l.take (l.length / 2))) (rsort lt f (l.drop (l.length / 2)))
theorem rsort_isort {lt : α → α → Bool} (h : SWO lt) : ∀ (f : Nat) (l : List α), l.length ≤ f + 1 → rsort lt f l = isort lt l := by
  have small : ∀ l : List α, l.length < 2 → isort lt l = l := fun l hl => by
    match l, hl with
    | [], _ => rfl
    | [x], _ => rfl
  intro f
  induction f with
  | zero => intro l hl; exact (small l (by omega)).symm
  | succ f ih =>
    intro l hl
    rw [rsort]
    by_cases c : l.length < 2
    · rw [if_pos c, small l c]
    · rw [if_neg c, ih _ (by rw [List.length_take]; omega), ih _ (by rw [List.length_drop]; omega), isort_isort h, List.take_append_drop]

end Go.Proofs.YtdapnemcdgjeeaaGreatDoor.Stb
