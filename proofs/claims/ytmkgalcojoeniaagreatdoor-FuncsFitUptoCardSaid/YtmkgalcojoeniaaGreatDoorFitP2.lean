/- Which texts fit what they must fit, and patterns in two parts: in plain Lean. -/
import Derived.Test.YtmkgalcojoeniaaGreatDoorGlobQ
set_option maxRecDepth 100000
set_option linter.unusedVariables false
set_option linter.unusedSimpArgs false
namespace Go.Proofs.YtmkgalcojoeniaaGreatDoor.Fit

theorem fit_any (s : List UInt8) : fit [.any] s = true := by
  rw [fit, star_iff]
  exact ⟨s.length, Nat.le_refl _, by rw [List.drop_length]; rfl⟩
theorem fit_app (l m : List P) (s t : List UInt8) (h1 : fit l s = true) (h2 : fit m t = true) : fit (l ++ m) (s ++ t) = true := by
  induction l generalizing s with
  | nil =>
    rw [fit, List.isEmpty_iff] at h1
    subst h1
    exact h2
  | cons p l ih =>
    cases p with
    | any =>
      rw [fit, star_iff] at h1
      obtain ⟨k, hk, h1⟩ := h1
      rw [List.cons_append, fit, star_iff]
      refine ⟨k, by rw [List.length_append]; omega, ?_⟩
      rw [List.drop_append_of_le_length hk]
      exact ih _ h1
    | takes f =>
      cases s with
      | nil => rw [fit] at h1; cases h1
      | cons c s =>
        rw [fit, Bool.and_eq_true] at h1
        rw [List.cons_append, List.cons_append, fit, Bool.and_eq_true]
        exact ⟨h1.1, ih _ h1.2⟩
theorem like_app (p q : List UInt8) : like (p ++ q) = like p ++ like q := by unfold like; rw [List.map_append]
/-- does a byte stand in a text? -/
def inT (l : List UInt8) (c : UInt8) : Bool := l.any (· == c)
theorem inT_cons {c d : UInt8} {l : List UInt8} (h : inT (c :: l) d = false) : c ≠ d ∧ inT l d = false := by
  unfold inT at h ⊢
  rw [List.any_cons, Bool.or_eq_false_iff] at h
  exact ⟨fun e => by rw [e] at h; simp at h, h.2⟩
theorem like_self (s : List UInt8) (h1 : inT s 37 = false) (h2 : inT s 95 = false) : fit (like s) s = true := by
  induction s with
  | nil => rfl
  | cons c s ih =>
    obtain ⟨a1, b1⟩ := inT_cons h1
    obtain ⟨a2, b2⟩ := inT_cons h2
    rw [like_byte _ _ a1]
    simp [ih b1 b2]
theorem glob_self (s : List UInt8) (h1 : inT s 42 = false) (h2 : inT s 63 = false) (h3 : inT s 91 = false) : fit (globL s) s = true := by
  induction s with
  | nil => rfl
  | cons c s ih =>
    obtain ⟨a1, b1⟩ := inT_cons h1
    obtain ⟨a2, b2⟩ := inT_cons h2
    obtain ⟨a3, b3⟩ := inT_cons h3
    rw [globL_byte _ a1 a2 a3, fit, ih b1 b2 b3]
    simp
theorem lower_sign {c : UInt8} {d : UInt8} (hd : d.toNat < 65 ∨ 90 < d.toNat ∧ d.toNat < 97 ∨ 122 < d.toNat) : (Txt.lower c == d) = (c == d) := by
  by_cases h : 65 ≤ c.toNat ∧ c.toNat ≤ 90
  · have h1 := Txt.lower_up h
    have e1 : (Txt.lower c == d) = false := by rw [beq_eq_false_iff_ne]; intro e; rw [e] at h1; omega
    have e2 : (c == d) = false := by rw [beq_eq_false_iff_ne]; intro e; rw [e] at h; omega
    rw [e1, e2]
  · rw [Txt.lower_no h]
theorem inT_lower (s : List UInt8) {d : UInt8} (hd : d.toNat < 65 ∨ 90 < d.toNat ∧ d.toNat < 97 ∨ 122 < d.toNat) : inT (s.map Txt.lower) d = inT s d := by
  unfold inT
  rw [List.any_map]
  congr 1
  funext c
  exact lower_sign hd

end Go.Proofs.YtmkgalcojoeniaaGreatDoor.Fit
