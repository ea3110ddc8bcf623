/- A value that is written is read as itself, in plain Lean. -/
import Derived.Test.YtiiaamkmnbegdaaDoorValR
namespace Go.Proofs.YtiiaamkmnbegdaaDoor.Val
set_option maxRecDepth 100000
set_option linter.unusedVariables false
set_option linter.unusedSimpArgs false
open Tok (dbl hexs dig cut)

theorem parse_first {c : UInt8} {r : List UInt8} (h : ¬ (48 ≤ c.toNat ∧ c.toNat ≤ 57)) (h1 : c.toNat ≠ 43) (h2 : c.toNat ≠ 45) : ∀ n, Lib.parseIntB 64 (c :: r) ≠ .ok n := by
  intro n hn
  unfold Lib.parseIntB at hn
  simp only [h1, h2, or_self, if_false] at hn
  unfold Lib.parseUintB at hn
  rw [if_neg (by simp), Lib.parseUintM, if_neg h] at hn
  simp at hn

theorem parseM_snoc (M : Nat) (c : UInt8) (hc : 48 ≤ c.toNat ∧ c.toNat ≤ 57) : ∀ (l : List UInt8) (acc a : Nat), Lib.parseUintM M acc l = .ok a → a < 1844674407370955162 → a * 10 + (c.toNat - 48) ≤ M → Lib.parseUintM M acc (l ++ [c]) = .ok (a * 10 + (c.toNat - 48))
  | [], acc, a, h, h1, h2 => by
    rw [Lib.parseUintM] at h
    cases h
    rw [List.nil_append, Lib.parseUintM, if_pos hc, if_neg (by omega), if_neg (by omega), Lib.parseUintM]
  | d :: l, acc, a, h, h1, h2 => by
    rw [Lib.parseUintM] at h
    rw [List.cons_append, Lib.parseUintM]
    split at h
    · rename_i hd
      rw [if_pos hd]
      split at h
      · cases h
      · rename_i h3
        rw [if_neg h3]
        split at h
        · cases h
        · rename_i h4
          rw [if_neg h4]
          exact parseM_snoc M c hc l _ a h h1 h2
    · cases h

theorem digit_nat {d : Nat} (h : d < 10) : (UInt8.ofNat (48 + d)).toNat = 48 + d := by rw [UInt8.toNat_ofNat']; omega
theorem parseM_digits (M : Nat) (hM : M ≤ 18446744073709551615) : ∀ u, u ≤ M → Lib.parseUintM M 0 (Lib.decDigits u) = .ok u := by
  intro u
  induction u using Nat.strongRecOn with
  | _ u ih =>
    intro hu
    by_cases h : u < 10
    · have hd := digit_nat h
      rw [Lib.decDigits, dif_pos h, Lib.parseUintM, if_pos (by omega), if_neg (by omega), if_neg (by omega), Lib.parseUintM, hd]
      congr 1; omega
    · have hd := digit_nat (show u % 10 < 10 by omega)
      rw [Lib.decDigits, dif_neg h]
      have := parseM_snoc M (UInt8.ofNat (48 + u % 10)) (by omega) (Lib.decDigits (u / 10)) 0 (u / 10) (ih (u / 10) (by omega) (by omega)) (by omega) (by omega)
      rw [this, hd]
      congr 1; omega
theorem dec_first (u : Nat) : ∃ c r, Lib.decDigits u = c :: r ∧ 48 ≤ c.toNat ∧ c.toNat ≤ 57 := by
  induction u using Nat.strongRecOn with
  | _ u ih =>
    by_cases h : u < 10
    · have hd := digit_nat h
      exact ⟨_, [], by rw [Lib.decDigits, dif_pos h], by omega, by omega⟩
    · obtain ⟨c, r, e, h1, h2⟩ := ih (u / 10) (by omega)
      exact ⟨c, r ++ [UInt8.ofNat (48 + u % 10)], by rw [Lib.decDigits, dif_neg h, e]; rfl, h1, h2⟩
theorem parse_itoa (n : Int) (h0 : -9223372036854775808 ≤ n) (h1 : n ≤ 9223372036854775807) : Lib.parseIntB 64 (Lib.itoa n) = .ok n := by
  unfold Lib.itoa
  by_cases hn : n < 0
  · rw [if_pos hn]
    obtain ⟨c, r, e, _⟩ := dec_first n.natAbs
    have hp := parseM_digits (2 ^ 64 - 1) (by decide) n.natAbs (by omega)
    unfold Lib.parseIntB Lib.parseUintB
    simp only [show (45 : UInt8).toNat = 45 from rfl, or_true, if_true]
    rw [if_neg (by rw [e]; simp), hp]
    simp only [not_true, false_and, if_false, true_and]
    rw [if_neg (by omega)]
    congr 1; omega
  · rw [if_neg hn]
    obtain ⟨c, r, e, h2, h3⟩ := dec_first n.toNat
    have hp := parseM_digits (2 ^ 64 - 1) (by decide) n.toNat (by omega)
    rw [e] at hp ⊢
    unfold Lib.parseIntB Lib.parseUintB
    have c2 : ¬ c.toNat = 45 := by omega
    have c3 : ¬ c.toNat = 43 := by omega
    simp only [c2, c3, or_self, if_false]
    rw [if_neg (by simp), hp]
    simp only [not_false_eq_true, true_and, false_and, if_false]
    rw [if_neg (by omega)]
    congr 1; omega

/-- quotes taken back -/
theorem index_two (l : List UInt8) (b : UInt8) : Lib.index (b :: l) [39, 39] = if ([39, 39] : List UInt8).isPrefixOf (b :: l) then 0 else if Lib.index l [39, 39] = -1 then -1 else Lib.index l [39, 39] + 1 := by
  rw [Lib.index]
  split
  · rfl
  · simp only [beq_iff_eq]
theorem replaceK_undbl (l : List UInt8) : Lib.replaceK [39, 39] [39] (Lib.count (dbl l) [39, 39]) (dbl l) = l := by
  induction l with
  | nil => rw [dbl, Lib.count_miss (by simp [Lib.index])]; rfl
  | cons c r ih =>
    by_cases hc : c.toNat = 39
    · have hcc : c = 39 := UInt8.toNat_inj.1 hc
      subst hcc
      rw [Tok.dbl_quote r hc]
      have hi : Lib.index (39 :: 39 :: dbl r) [39, 39] = ((0 : Nat) : Int) := by rw [index_two, if_pos (by simp [List.isPrefixOf])]; rfl
      rw [Lib.count_hit (by simp) hi, Nat.add_comm, Lib.replaceK_hit _ _ _ _ 0 hi]
      simp only [List.length_cons, List.length_nil, Nat.zero_add, List.drop_succ_cons, List.drop_zero, List.take_zero, List.nil_append]
      rw [ih]; rfl
    · rw [Tok.dbl_byte r hc]
      have hp : ([39, 39] : List UInt8).isPrefixOf (c :: dbl r) = false := by
        have : ¬ (39 : UInt8) = c := fun h => hc (by rw [← h]; rfl)
        simp [List.isPrefixOf, this]
      by_cases hm : Lib.index (dbl r) [39, 39] = -1
      · have hi : Lib.index (c :: dbl r) [39, 39] = -1 := by rw [index_two, hp, if_neg (by simp), if_pos hm]
        rw [Lib.count_miss hm] at ih
        rw [Lib.count_miss hi]
        rw [Lib.replaceK] at ih ⊢
        rw [ih]
      · have hge := Lib.index_ge (dbl r) [39, 39]
        obtain ⟨j, hj⟩ : ∃ j : Nat, Lib.index (dbl r) [39, 39] = j := ⟨(Lib.index (dbl r) [39, 39]).toNat, by omega⟩
        have hi : Lib.index (c :: dbl r) [39, 39] = ((j + 1 : Nat) : Int) := by rw [index_two, hp, if_neg (by simp), if_neg hm, hj]; rfl
        rw [Lib.count_hit (by simp) hj, Nat.add_comm, Lib.replaceK_hit _ _ _ _ j hj] at ih
        rw [Lib.count_hit (by simp) hi, Nat.add_comm, Lib.replaceK_hit _ _ _ _ (j + 1) hi]
        have e : (c :: dbl r).drop (j + 1 + ([39, 39] : List UInt8).length) = (dbl r).drop (j + ([39, 39] : List UInt8).length) := by
          simp only [List.length_cons, List.length_nil]
          rw [show j + 1 + (0 + 1 + 1) = (j + (0 + 1 + 1)) + 1 by omega, List.drop_succ_cons]
        rw [e, List.take_succ_cons, List.cons_append, List.cons_append, ih]
theorem undbl (l : List UInt8) : Lib.replaceAll (dbl l) [39, 39] [39] = l := by
  rw [Lib.replaceAll, Lib.replace, if_neg (by decide), Lib.replaceNum, if_pos (by omega)]
  exact replaceK_undbl l

theorem unhex_hexs (l acc : List UInt8) : Txt.unhex (hexs l) acc = (acc ++ l, true) := by
  induction l generalizing acc with
  | nil => simp [hexs, Txt.unhex]
  | cons c r ih =>
    have hd : ∀ m : Fin 16, Txt.nib (dig m.val) = (m.val : Int) := by decide
    have h1 := hd ⟨c.toNat / 16, by have := c.toNat_lt; omega⟩
    have h2 := hd ⟨c.toNat % 16, by omega⟩
    simp only at h1 h2
    rw [hexs, Txt.unhex_pair _ _ (by rw [h1]; omega) (by rw [h2]; omega), ih, h1, h2]
    have hx : UInt8.ofNat (((c.toNat / 16 : Nat) : Int).toNat * 16 + ((c.toNat % 16 : Nat) : Int).toNat) = c := by
      rw [Int.toNat_natCast, Int.toNat_natCast, show c.toNat / 16 * 16 + c.toNat % 16 = c.toNat by omega]
      exact UInt8.ofNat_toNat
    rw [hx]; simp

theorem cut_mid (a : List UInt8) (c : UInt8) (l : List UInt8) (i : Nat) (hi : a.length = i) : cut (a ++ (l ++ [c])) i ((a ++ (l ++ [c])).length - 1) = l := by
  subst hi
  rw [cut, List.drop_left]
  have : (a ++ (l ++ [c])).length - 1 - a.length = l.length := by simp only [List.length_append, List.length_cons, List.length_nil]; omega
  rw [this, List.take_left]

/-- the guess of a value's literal is the value -/
theorem guess_print {v : V} (h : may v = true) (h0 : -9223372036854775808 ≤ v.int) (h1 : v.int ≤ 9223372036854775807) : guess (print v).1 = v ∧ (print v).2 = 0 ∧ (print v).1.length ≤ 1000 := by
  have hm := may_iff.1 h
  obtain ⟨k, n, t⟩ := v
  simp only at hm h0 h1
  by_cases k0 : k = 0
  · subst k0
    rw [print_null h rfl]
    obtain ⟨rfl, rfl⟩ : n = 0 ∧ t = [] := by
      rcases hm with hh | hh | hh
      · exact ⟨hh.2.1, hh.2.2⟩
      · exact absurd hh.1 (by decide)
      · exact absurd hh.1 (by decide)
    have hg : guess [78, 85, 76, 76] = ⟨0, 0, []⟩ := by decide +kernel
    exact ⟨hg, rfl, by simp⟩
  by_cases k1 : k = 1
  · subst k1
    rw [print_int h rfl]
    obtain rfl : t = [] := by
      rcases hm with hh | hh | hh
      · exact absurd hh.1 (by decide)
      · exact hh.2
      · exact absurd hh.1 (by decide)
    have hl := itoa_len n h0 h1
    exact ⟨guess_ok (parse_itoa n h0 h1), rfl, by simp only; omega⟩
  obtain ⟨k23, rfl, ht⟩ : (k = 2 ∨ k = 3) ∧ n = 0 ∧ t.length ≤ 400 := by
    rcases hm with hh | hh | hh
    · exact absurd hh.1 k0
    · exact absurd hh.1 k1
    · exact hh
  by_cases k2 : k = 2
  · subst k2
    rw [print_text h rfl]
    have hl := Tok.dbl_len t
    refine ⟨?_, rfl, by simp; omega⟩
    simp only
    rw [guess_else (parse_first (by decide) (by decide) (by decide)), if_pos ⟨by simp, rfl⟩]
    have := cut_mid [39] 39 (dbl t) 1 rfl
    rw [show ([39] : List UInt8) ++ (dbl t ++ [39]) = 39 :: (dbl t ++ [39]) from rfl] at this
    rw [this, undbl]
  · obtain rfl : k = 3 := by omega
    rw [print_blob h rfl]
    have hl := Tok.hexs_len t
    refine ⟨?_, rfl, by simp; omega⟩
    simp only
    have := cut_mid [120, 39] 39 (hexs t) 2 rfl
    rw [show ([120, 39] : List UInt8) ++ (hexs t ++ [39]) = 120 :: 39 :: (hexs t ++ [39]) from rfl] at this
    rw [guess_else (parse_first (by decide) (by decide) (by decide)), if_neg (fun hh => absurd (show (120 : Nat) = 39 from hh.2) (by decide)), this, unhex_hexs, if_pos ⟨by simp, rfl, rfl⟩]
    rfl

/-- what is written is read as itself -/
theorem read_print {v : V} (h : may v = true) (h0 : -9223372036854775808 ≤ v.int) (h1 : v.int ≤ 9223372036854775807) : read (print v).1 = (v, 0) := by
  obtain ⟨e1, e2, e3⟩ := guess_print h h0 h1
  rw [read, if_neg (by omega), e1, if_pos ⟨e2, rfl⟩]
/-- what is read is written as it was -/
theorem print_read {s : List UInt8} (h : (read s).2 = 0) : print (read s).1 = (s, 0) ∧ may (read s).1 = true := by
  unfold read at h ⊢
  split at h
  · cases h
  · rename_i hl
    rw [if_neg hl]
    split at h
    · rename_i hp
      rw [if_pos hp]
      simp only
      refine ⟨Prod.ext hp.2 hp.1, ?_⟩
      cases hm : may (guess s) with
      | true => rfl
      | false =>
        rw [print_no hm] at hp
        exact absurd hp.1 (by decide)
    · cases h
theorem read_errs (s : List UInt8) : (read s).2 = 0 ∨ (read s).2 = 120 ∨ (read s).2 = 3 := by
  unfold read
  split
  · exact .inr (.inr rfl)
  · split
    · exact .inl rfl
    · exact .inr (.inl rfl)
theorem print_errs (v : V) : (print v).2 = 0 ∧ may v = true ∨ (print v).2 = 2 ∧ may v = false := by
  cases h : may v with
  | false => rw [print_no h]; exact .inr ⟨rfl, rfl⟩
  | true =>
    left
    unfold print
    rw [if_pos h]
    refine ⟨?_, rfl⟩
    repeat' split
    all_goals rfl

end Go.Proofs.YtiiaamkmnbegdaaDoor.Val
