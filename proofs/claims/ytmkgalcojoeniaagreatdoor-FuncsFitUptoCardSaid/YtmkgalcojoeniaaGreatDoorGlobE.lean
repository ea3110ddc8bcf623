/- GLOB's sets in plain Lean: where the reference sees their ends, and which bytes it sees in them, against what the program reads. -/
import Derived.Test.YtmkgalcojoeniaaGreatDoorGlobP
set_option maxRecDepth 100000
set_option linter.unusedVariables false
set_option linter.unusedSimpArgs false
namespace Go.Proofs.YtmkgalcojoeniaaGreatDoor.Fit

/-- the reference: how many bytes lie ahead of the set's end -/
def ends : Nat → Bool → List UInt8 → Option Nat
  | 0, _, _ => none
  | _ + 1, _, [] => none
  | n + 1, first, c :: r =>
    if first = false ∧ c = 93 then some 0
    else match r with
      | d :: e :: r' => if d = 45 ∧ e ≠ 93 then (ends n false r').map (· + 3) else (ends n false (d :: e :: r')).map (· + 1)
      | r => (ends n false r).map (· + 1)
/-- the reference: does a byte stand in a set's bytes? -/
def holds : Nat → List UInt8 → UInt8 → Bool
  | 0, _, _ => false
  | _ + 1, [], _ => false
  | n + 1, a :: r, x => match r with
    | d :: e :: r' => if d = 45 then inRange x (a, e) || holds n r' x else a == x || holds n (d :: e :: r') x
    | r => a == x || holds n r x

theorem inRange_one (x a : UInt8) : inRange x (a, a) = (a == x) := by
  unfold inRange
  rw [Bool.eq_iff_iff, Bool.and_eq_true, decide_eq_true_iff, decide_eq_true_iff, beq_iff_eq]
  constructor
  · rintro ⟨h1, h2⟩; exact UInt8.toNat_inj.1 (by simp at h1 h2; omega)
  · rintro rfl; exact ⟨Nat.le_refl _, Nat.le_refl _⟩

theorem body_set (n : Nat) (first : Bool) (l : List UInt8) {x : List (UInt8 × UInt8) × List UInt8} (h : body n first l = some x) :
    ∃ set, l = set ++ 93 :: x.2 ∧ ends n first l = some set.length ∧ ∀ m c, set.length ≤ m → holds m set c = x.1.any (inRange c) := by
  induction n generalizing first l x with
  | zero => simp [body] at h
  | succ n ih =>
    cases l with
    | nil => simp [body] at h
    | cons c r =>
      rw [body.eq_def] at h
      rw [ends.eq_def]
      simp only at h ⊢
      by_cases h0 : first = false ∧ c = 93
      · rw [if_pos h0] at h ⊢
        cases h
        exact ⟨[], by simp [h0.2], rfl, fun m c _ => by cases m <;> simp [holds]⟩
      · rw [if_neg h0] at h ⊢
        match r, h with
        | [], h =>
          obtain ⟨y, hy, rfl⟩ := Option.map_eq_some_iff.1 h
          cases n <;> simp [body] at hy
        | [d], h =>
          obtain ⟨y, hy, rfl⟩ := Option.map_eq_some_iff.1 h
          obtain ⟨set, h1, h2, h3⟩ := ih _ _ hy
          refine ⟨c :: set, by simp [h1], by simp [h2], fun m b hm => ?_⟩
          cases m with
          | zero => simp at hm
          | succ m =>
            have hs : set = [] := by
              cases set with
              | nil => rfl
              | cons a t => simp at h1
            subst hs
            have := h3 m b (by simp)
            rw [holds]
            · rw [this, List.any_cons, inRange_one]
            · intro d e r' h; cases h
        | d :: e :: r', h =>
          simp only at h ⊢
          by_cases hd : d = 45 ∧ e ≠ 93
          · rw [if_pos hd] at h ⊢
            obtain ⟨y, hy, rfl⟩ := Option.map_eq_some_iff.1 h
            obtain ⟨set, h1, h2, h3⟩ := ih _ _ hy
            refine ⟨c :: d :: e :: set, by simp [h1], by simp [h2], fun m b hm => ?_⟩
            cases m with
            | zero => simp at hm
            | succ m =>
              have := h3 m b (by simp at hm; omega)
              rw [holds]
              rw [if_pos hd.1, this, List.any_cons]
          · rw [if_neg hd] at h ⊢
            obtain ⟨y, hy, rfl⟩ := Option.map_eq_some_iff.1 h
            obtain ⟨set, h1, h2, h3⟩ := ih _ _ hy
            refine ⟨c :: set, by simp [h1], by simp [h2], fun m b hm => ?_⟩
            cases m with
            | zero => simp at hm
            | succ m =>
              have := h3 m b (by simp at hm; omega)
              match set, h1, this with
              | [], _, this =>
                rw [holds]
                · rw [this, List.any_cons, inRange_one]
                · intro d e r' h; cases h
              | [a], _, this =>
                rw [holds]
                · rw [this, List.any_cons, inRange_one]
                · intro d e r' h; cases h
              | a :: b' :: t, h1, this =>
                simp only [List.cons_append, List.cons.injEq] at h1
                obtain ⟨rfl, rfl, h1⟩ := h1
                have hne : ¬ d = 45 := by
                  rintro rfl
                  have he : e = 93 := by
                    apply Classical.byContradiction
                    intro h; exact hd ⟨rfl, h⟩
                  subst he
                  have e2 : ends n false (45 :: 93 :: r') = some 1 ∨ ends n false (45 :: 93 :: r') = none := by
                    cases n with
                    | zero => right; rfl
                    | succ n =>
                      rw [ends.eq_def]
                      simp only
                      rw [if_neg (by simp)]
                      have e3 : ends n false (93 :: r') = some 0 ∨ ends n false (93 :: r') = none := by
                        cases n with
                        | zero => right; rfl
                        | succ n => left; rw [ends.eq_def]; simp
                      cases r' with
                      | nil => rcases e3 with e3 | e3 <;> simp [e3]
                      | cons g r' => rcases e3 with e3 | e3 <;> simp [e3]
                  rw [h2] at e2
                  simp at e2
                rw [holds, if_neg hne, this, List.any_cons, inRange_one]

end Go.Proofs.YtmkgalcojoeniaaGreatDoor.Fit
