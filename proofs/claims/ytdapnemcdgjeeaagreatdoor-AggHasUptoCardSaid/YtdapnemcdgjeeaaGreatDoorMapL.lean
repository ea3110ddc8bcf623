/- A name in small letters, rune by rune or byte by byte: in plain Lean. -/
import Derived.Test.YtdapnemcdgjeeaaGreatDoorQuo
import Derived.Lib.MapU
set_option maxRecDepth 100000
set_option linter.unusedVariables false
set_option linter.unusedSimpArgs false
namespace Go.Proofs.YtdapnemcdgjeeaaGreatDoor.Quo
open Go.Lib

/-- A to Z as a to z -/
def lowerR (x : Int) : Int := if 65 ≤ x ∧ x ≤ 90 then x + 32 else x
theorem decL (l : List UInt8) : decodeL l = dec l := dec_of ⟨l.toArray⟩
theorem enc_head {r : Int} (h : okR r) (h2 : 128 ≤ r) : ∃ x rest, encodeRuneZ r = x :: rest ∧ 192 ≤ x ∧ x ≤ 255 := by
  rcases enc_cases h with ⟨a1, a2, e⟩ | ⟨a1, a2, e⟩ | ⟨a1, a2, e⟩ | ⟨a1, a2, e⟩
  · omega
  · exact ⟨_, _, e, by omega, by omega⟩
  · exact ⟨_, _, e, by omega, by omega⟩
  · exact ⟨_, _, e, by omega, by omega⟩
theorem lower_go : ∀ (n : Nat) (l t : List UInt8), l.length ≤ n → (∀ c ∈ t, c.toNat < 128) → (mapGoD lowerR n l = t ↔ l.map Txt.lower = t) := by
  intro n
  induction n with
  | zero =>
    intro l t hl _
    have : l = [] := List.eq_nil_of_length_eq_zero (by omega)
    subst this
    rfl
  | succ n ih =>
    intro l t hl ht
    cases l with
    | nil => rfl
    | cons b l =>
      have hb := b.toNat_lt
      rw [mapGoD, if_neg (by simp), decL]
      by_cases c : b.toNat < 128
      · have hd : dec (b :: l) = (b.toNat, 1) := by
          unfold dec decodeN
          simp only [List.getD_cons_zero]
          rw [if_pos c]
        rw [hd]
        have h0 : 0 ≤ lowerR ((b.toNat : Nat) : Int) := by unfold lowerR; split <;> omega
        have he : encodeRune (lowerR ((b.toNat : Nat) : Int)) = [Txt.lower b] := by
          have h1 : lowerR ((b.toNat : Nat) : Int) ≤ 127 := by unfold lowerR; split <;> omega
          have h2 : lowerR ((b.toNat : Nat) : Int) = ((Txt.lower b).toNat : Int) := by
            unfold lowerR
            by_cases u : 65 ≤ b.toNat ∧ b.toNat ≤ 90
            · rw [if_pos (by omega), Txt.lower_up u]; omega
            · rw [if_neg (by omega), Txt.lower_no u]
          unfold encodeRune
          rw [enc1 h0 h1, h2]
          simp
        rw [if_pos h0, he]
        show (Txt.lower b :: mapGoD lowerR n l = t) ↔ (Txt.lower b :: l.map Txt.lower = t)
        cases t with
        | nil => simp
        | cons d t =>
          simp only [List.length_cons] at hl
          rw [List.cons.injEq, List.cons.injEq, ih l t (by omega) fun x hx => ht x (List.mem_cons_of_mem _ hx)]
      · have hne : ¬ (Txt.lower b).toNat < 128 := by rw [Txt.lower_no (by omega)]; exact c
        have hr : okR ((dec (b :: l)).1 : Int) ∧ 128 ≤ (dec (b :: l)).1 := by
          rcases dec_cases (b :: l) (by simp) with ⟨a1, a2, a3⟩ | ⟨a1, a2, a3, a4, a5⟩
          · rw [a1]; exact ⟨.inr (by omega), by omega⟩
          · refine ⟨a1, ?_⟩
            rcases Nat.lt_or_ge (dec (b :: l)).1 128 with x | x
            · exfalso
              have e := a2
              rw [enc1 (by omega) (by omega)] at e
              obtain ⟨w, hw⟩ : ∃ w, (dec (b :: l)).2 = w + 1 := ⟨_, (Nat.succ_pred_eq_of_pos a4).symm⟩
              rw [hw] at e
              simp only [ints, List.take_succ_cons, List.map_cons, List.cons.injEq] at e
              omega
            · exact x
        have h2 : lowerR ((dec (b :: l)).1 : Int) = ((dec (b :: l)).1 : Int) := by unfold lowerR; rw [if_neg (by omega)]
        rw [h2, if_pos (by omega)]
        obtain ⟨x, rest, e, x1, x2⟩ := enc_head hr.1 (by omega)
        unfold encodeRune
        rw [e]
        constructor
        · intro h
          exfalso
          rw [← h] at ht
          have := ht (x.toNat.toUInt8) (by simp)
          simp only [Nat.toUInt8, UInt8.toNat_ofNat'] at this
          omega
        · intro h
          exfalso
          rw [← h] at ht
          exact hne (ht _ (by simp))
/-- Map with A to Z as a to z gives a small word just where the bytes in small letters are it -/
theorem lower_mapD (l t : List UInt8) (ht : ∀ c ∈ t, c.toNat < 128) : mapD lowerR l = t ↔ l.map Txt.lower = t := lower_go l.length l t (Nat.le_refl _) ht

end Go.Proofs.YtdapnemcdgjeeaaGreatDoor.Quo
