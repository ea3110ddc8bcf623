/- The reference's Read is the program's, in plain Lean. -/
import Derived.Test.YtiiaamkmnbegdaaDoorReadP
namespace Go.Proofs.YtiiaamkmnbegdaaDoor.Val
set_option maxRecDepth 100000
set_option linter.unusedVariables false
set_option linter.unusedSimpArgs false
open Tok (dbl hexs dig cut)

theorem unq_dbl (l acc : List UInt8) : Txt.unq (dbl l) acc = (acc ++ l, true) := by
  induction l generalizing acc with
  | nil => simp [dbl, Txt.unq]
  | cons c r ih =>
    by_cases hc : c.toNat = 39
    · have hc' : c = 39 := UInt8.toNat_inj.1 hc
      rw [Tok.dbl_quote r hc, Txt.unq_pair _ _ (by rfl) (by rfl), ih, hc']
      simp
    · have e : dbl (c :: r) = c :: dbl r := by rw [dbl, if_neg hc]
      rw [e, Txt.unq_byte _ _ hc, ih]
      simp
theorem unq_is (n : Nat) : ∀ (s acc t : List UInt8), s.length ≤ n → Txt.unq s acc = (t, true) → ∃ u, t = acc ++ u ∧ s = dbl u := by
  induction n with
  | zero =>
    intro s acc t hl h
    have : s = [] := List.eq_nil_of_length_eq_zero (by omega)
    subst this
    simp only [Txt.unq, Prod.mk.injEq, and_true] at h
    exact ⟨[], by simp [h], rfl⟩
  | succ n ih =>
    intro s acc t hl h
    rcases s with _ | ⟨c, r⟩
    · simp only [Txt.unq, Prod.mk.injEq, and_true] at h
      exact ⟨[], by simp [h], rfl⟩
    · by_cases hc : c.toNat = 39
      · rcases r with _ | ⟨d, r⟩
        · rw [Txt.unq_last acc hc] at h; simp at h
        · by_cases hd : d.toNat = 39
          · rw [Txt.unq_pair _ _ hc hd] at h
            obtain ⟨u, h1, h2⟩ := ih r _ t (by simp at hl; omega) h
            have hc' : c = 39 := UInt8.toNat_inj.1 hc
            have hd' : d = 39 := UInt8.toNat_inj.1 hd
            refine ⟨d :: u, by rw [h1]; simp, ?_⟩
            rw [Tok.dbl_quote u hd, h2, hc', hd']
          · rw [Txt.unq_bad _ _ hc hd] at h; simp at h
      · rw [Txt.unq_byte _ _ hc] at h
        obtain ⟨u, h1, h2⟩ := ih r _ t (by simp at hl; omega) h
        refine ⟨c :: u, by rw [h1]; simp, ?_⟩
        rw [dbl, if_neg hc, h2]
theorem dig_nib (c : UInt8) (h : 0 ≤ Txt.nib c) : dig (Txt.nib c).toNat = c := by
  unfold Txt.nib at h ⊢
  rw [← UInt8.toNat_inj]
  have hc := c.toNat_lt
  split
  · rename_i h1
    have : ((c.toNat : Int) - 48).toNat = c.toNat - 48 := by omega
    rw [this]
    unfold dig
    rw [if_pos (by omega), UInt8.toNat_ofNat']; omega
  · rename_i h1
    rw [if_neg h1] at h
    split at h
    · rename_i h2
      rw [if_pos h2]
      have : ((c.toNat : Int) - 87).toNat = c.toNat - 87 := by omega
      rw [this]
      unfold dig
      rw [if_neg (by omega), UInt8.toNat_ofNat']; omega
    · omega
theorem unhex_is (n : Nat) : ∀ (s acc t : List UInt8), s.length ≤ n → Txt.unhex s acc = (t, true) → ∃ u, t = acc ++ u ∧ s = hexs u := by
  induction n with
  | zero =>
    intro s acc t hl h
    have : s = [] := List.eq_nil_of_length_eq_zero (by omega)
    subst this
    simp only [Txt.unhex, Prod.mk.injEq, and_true] at h
    exact ⟨[], by simp [h], rfl⟩
  | succ n ih =>
    intro s acc t hl h
    rcases s with _ | ⟨c, _ | ⟨d, r⟩⟩
    · simp only [Txt.unhex, Prod.mk.injEq, and_true] at h
      exact ⟨[], by simp [h], rfl⟩
    · simp [Txt.unhex] at h
    · by_cases hc : 0 ≤ Txt.nib c ∧ 0 ≤ Txt.nib d
      · rw [Txt.unhex_pair _ _ hc.1 hc.2] at h
        obtain ⟨u, h1, h2⟩ := ih r _ t (by simp at hl; omega) h
        have b1 := Txt.nib_le c
        have b2 := Txt.nib_le d
        refine ⟨UInt8.ofNat ((Txt.nib c).toNat * 16 + (Txt.nib d).toNat) :: u, by rw [h1]; simp, ?_⟩
        have e : (UInt8.ofNat ((Txt.nib c).toNat * 16 + (Txt.nib d).toNat)).toNat = (Txt.nib c).toNat * 16 + (Txt.nib d).toNat := by rw [UInt8.toNat_ofNat']; omega
        rw [hexs, e, show ((Txt.nib c).toNat * 16 + (Txt.nib d).toNat) / 16 = (Txt.nib c).toNat by omega, show ((Txt.nib c).toNat * 16 + (Txt.nib d).toNat) % 16 = (Txt.nib d).toNat by omega, dig_nib c hc.1, dig_nib d hc.2, h2]
      · rw [Txt.unhex_bad _ _ (by omega)] at h; simp at h

/-- the reference's Read -/
def rread (s : List UInt8) : V × Nat :=
  if 1000 < s.length then (zero, 3)
  else if s = [78, 85, 76, 76] then (zero, 0)
  else match number s with
    | some n => (⟨1, n, []⟩, 0)
    | none =>
      if (s.getD 0 0).toNat = 120 then
        (if s.length < 3 ∨ (s.getD 1 0).toNat ≠ 39 ∨ (s.getD (s.length - 1) 0).toNat ≠ 39 then (zero, 120)
         else if (Txt.unhex (cut s 2 (s.length - 1)) []).2 = true ∧ may ⟨3, 0, (Txt.unhex (cut s 2 (s.length - 1)) []).1⟩ = true then (⟨3, 0, (Txt.unhex (cut s 2 (s.length - 1)) []).1⟩, 0) else (zero, 120))
      else
        (if s.length < 2 ∨ (s.getD 0 0).toNat ≠ 39 ∨ (s.getD (s.length - 1) 0).toNat ≠ 39 then (zero, 120)
         else if (Txt.unq (cut s 1 (s.length - 1)) []).2 = true ∧ may ⟨2, 0, (Txt.unq (cut s 1 (s.length - 1)) []).1⟩ = true then (⟨2, 0, (Txt.unq (cut s 1 (s.length - 1)) []).1⟩, 0) else (zero, 120))

theorem ends_text {s : List UInt8} (h2 : 2 ≤ s.length) (h : (s.getD 0 0).toNat = 39) (hl : (s.getD (s.length - 1) 0).toNat = 39) : s = 39 :: (cut s 1 (s.length - 1) ++ [39]) := by
  rcases s with _ | ⟨c, r⟩
  · simp at h2
  · rcases List.eq_nil_or_concat r with rfl | ⟨r', d, rfl⟩
    · simp at h2
    · have hc : c = 39 := UInt8.toNat_inj.1 (by simpa using h)
      have hd : d = 39 := UInt8.toNat_inj.1 (by
        rw [List.concat_eq_append] at hl
        have e : (c :: (r' ++ [d])).getD ((c :: (r' ++ [d])).length - 1) 0 = d := by simp [List.getD]
        rw [e] at hl; exact hl)
      subst hc hd
      rw [List.concat_eq_append]
      have := cut_mid [39] 39 r' 1 rfl
      rw [show ([39] : List UInt8) ++ (r' ++ [39]) = 39 :: (r' ++ [39]) from rfl] at this
      rw [this]
theorem ends_blob {s : List UInt8} (h3 : 3 ≤ s.length) (h0 : (s.getD 0 0).toNat = 120) (h : (s.getD 1 0).toNat = 39) (hl : (s.getD (s.length - 1) 0).toNat = 39) : s = 120 :: 39 :: (cut s 2 (s.length - 1) ++ [39]) := by
  rcases s with _ | ⟨x, _ | ⟨c, r⟩⟩
  · simp at h3
  · simp at h3
  · rcases List.eq_nil_or_concat r with rfl | ⟨r', d, rfl⟩
    · simp at h3
    · have hx : x = 120 := UInt8.toNat_inj.1 (by simpa using h0)
      have hc : c = 39 := UInt8.toNat_inj.1 (by simpa using h)
      have hd : d = 39 := UInt8.toNat_inj.1 (by
        rw [List.concat_eq_append] at hl
        have e : (x :: c :: (r' ++ [d])).getD ((x :: c :: (r' ++ [d])).length - 1) 0 = d := by simp [List.getD]
        rw [e] at hl; exact hl)
      subst hx hc hd
      rw [List.concat_eq_append]
      have := cut_mid [120, 39] 39 r' 2 rfl
      rw [show ([120, 39] : List UInt8) ++ (r' ++ [39]) = 120 :: 39 :: (r' ++ [39]) from rfl] at this
      rw [this]

/-- what the reference reads is printed as the text -/
theorem rread_print {s : List UInt8} (h : (rread s).2 = 0) : print (rread s).1 = (s, 0) ∧ may (rread s).1 = true := by
  unfold rread at h ⊢
  by_cases hl : 1000 < s.length
  · rw [if_pos hl] at h; simp at h
  · rw [if_neg hl] at h ⊢
    by_cases hn : s = [78, 85, 76, 76]
    · rw [if_pos hn] at h ⊢; subst hn; decide
    · rw [if_neg hn] at h ⊢
      cases hq : number s with
      | some n =>
        obtain ⟨h1, h2, h3⟩ := number_is hq
        have hm : may ⟨1, n, []⟩ = true := by simp [may]
        exact ⟨by rw [print_int hm rfl, h1], hm⟩
      | none =>
        rw [hq] at h
        simp only at h ⊢
        by_cases hx : (s.getD 0 0).toNat = 120
        · rw [if_pos hx] at h ⊢
          by_cases hb : s.length < 3 ∨ (s.getD 1 0).toNat ≠ 39 ∨ (s.getD (s.length - 1) 0).toNat ≠ 39
          · rw [if_pos hb] at h; simp at h
          · rw [if_neg hb] at h ⊢
            by_cases hg : (Txt.unhex (cut s 2 (s.length - 1)) []).2 = true ∧ may ⟨3, 0, (Txt.unhex (cut s 2 (s.length - 1)) []).1⟩ = true
            · rw [if_pos hg]
              have he := ends_blob (s := s) (by omega) hx (by omega) (by omega)
              obtain ⟨u, h1, h2⟩ := unhex_is _ _ [] (Txt.unhex (cut s 2 (s.length - 1)) []).1 (Nat.le_refl _) (Prod.ext rfl hg.1)
              rw [List.nil_append] at h1
              refine ⟨?_, hg.2⟩
              rw [print_blob hg.2 rfl]
              simp only
              rw [h1, ← h2, ← he]
            · rw [if_neg hg] at h; simp at h
        · rw [if_neg hx] at h ⊢
          by_cases hb : s.length < 2 ∨ (s.getD 0 0).toNat ≠ 39 ∨ (s.getD (s.length - 1) 0).toNat ≠ 39
          · rw [if_pos hb] at h; simp at h
          · rw [if_neg hb] at h ⊢
            by_cases hg : (Txt.unq (cut s 1 (s.length - 1)) []).2 = true ∧ may ⟨2, 0, (Txt.unq (cut s 1 (s.length - 1)) []).1⟩ = true
            · rw [if_pos hg]
              have he := ends_text (s := s) (by omega) (by omega) (by omega)
              obtain ⟨u, h1, h2⟩ := unq_is _ _ [] (Txt.unq (cut s 1 (s.length - 1)) []).1 (Nat.le_refl _) (Prod.ext rfl hg.1)
              rw [List.nil_append] at h1
              refine ⟨?_, hg.2⟩
              rw [print_text hg.2 rfl]
              simp only
              rw [h1, ← h2, ← he]
            · rw [if_neg hg] at h; simp at h

theorem number_not {c : UInt8} (r : List UInt8) (h : ¬ (48 ≤ c.toNat ∧ c.toNat ≤ 57)) (h45 : c.toNat ≠ 45) : number (c :: r) = none := by
  rw [number, if_neg h45, if_neg (by omega)]
  exact numFrom_none r (by rw [stepN, if_neg h])
theorem last_of (a : List UInt8) (d : UInt8) : (a ++ [d]).getD ((a ++ [d]).length - 1) 0 = d := by
  simp [List.getD]
/-- what is printed the reference reads -/
theorem rread_back {v : V} (h : may v = true) (h0 : -9223372036854775808 ≤ v.int) (h1 : v.int ≤ 9223372036854775807) (hl : (print v).1.length ≤ 1000) : rread (print v).1 = (v, 0) := by
  obtain ⟨k, n, t⟩ := v
  have hm := may_iff.1 h
  simp only at hm h0 h1
  rcases hm with ⟨rfl, rfl, rfl⟩ | ⟨rfl, rfl⟩ | ⟨hk | hk, rfl, ht⟩
  · rw [print_null h rfl]; decide
  · rw [print_int h rfl] at hl ⊢
    simp only at hl ⊢
    have hnum := number_itoa n h0 h1
    unfold rread
    rw [if_neg (by omega), if_neg (fun e => by rw [e] at hnum; revert hnum; rw [number_not _ (by decide) (by decide)]; intro hh; cases hh), hnum]
  · subst hk
    rw [print_text h rfl] at hl ⊢
    simp only at hl ⊢
    have hc : cut (39 :: (dbl t ++ [39])) 1 ((39 :: (dbl t ++ [39])).length - 1) = dbl t := cut_mid [39] 39 (dbl t) 1 rfl
    have hlast : (39 :: (dbl t ++ [39])).getD ((39 :: (dbl t ++ [39])).length - 1) 0 = 39 := last_of (39 :: dbl t) 39
    unfold rread
    rw [if_neg (by omega), if_neg (by intro e; simp at e), number_not _ (by decide) (by decide)]
    simp only
    rw [if_neg (show ¬ ((39 :: (dbl t ++ [39]) : List UInt8).getD 0 0).toNat = 120 by simp), hlast, hc, unq_dbl, if_neg (by simp), List.nil_append, if_pos ⟨rfl, h⟩]
  · subst hk
    rw [print_blob h rfl] at hl ⊢
    simp only at hl ⊢
    have hc : cut (120 :: 39 :: (hexs t ++ [39])) 2 ((120 :: 39 :: (hexs t ++ [39])).length - 1) = hexs t := cut_mid [120, 39] 39 (hexs t) 2 rfl
    have hlast : (120 :: 39 :: (hexs t ++ [39])).getD ((120 :: 39 :: (hexs t ++ [39])).length - 1) 0 = 39 := last_of (120 :: 39 :: hexs t) 39
    unfold rread
    rw [if_neg (by omega), if_neg (by intro e; simp at e), number_not _ (by decide) (by decide)]
    simp only
    rw [if_pos (show ((120 :: 39 :: (hexs t ++ [39]) : List UInt8).getD 0 0).toNat = 120 by simp), hlast, hc, unhex_hexs, if_neg (by simp), List.nil_append, if_pos ⟨rfl, h⟩]
theorem rread_errs (s : List UInt8) : (rread s).2 = 0 ∨ (1000 < s.length ∧ rread s = (zero, 3)) ∨ (¬ 1000 < s.length ∧ rread s = (zero, 120)) := by
  unfold rread
  by_cases hl : 1000 < s.length
  · rw [if_pos hl]; exact .inr (.inl ⟨hl, rfl⟩)
  · rw [if_neg hl]
    split
    · exact .inl rfl
    · split
      · exact .inl rfl
      · split
        · split
          · exact .inr (.inr ⟨hl, rfl⟩)
          · split
            · exact .inl rfl
            · exact .inr (.inr ⟨hl, rfl⟩)
        · split
          · exact .inr (.inr ⟨hl, rfl⟩)
          · split
            · exact .inl rfl
            · exact .inr (.inr ⟨hl, rfl⟩)
theorem rread_fits {s : List UInt8} (h : (rread s).2 = 0) : -9223372036854775808 ≤ (rread s).1.int ∧ (rread s).1.int ≤ 9223372036854775807 ∧ s.length ≤ 1000 := by
  unfold rread at h ⊢
  by_cases hl : 1000 < s.length
  · rw [if_pos hl] at h; simp at h
  · rw [if_neg hl] at h ⊢
    have key : ∀ x : V × Nat, x.1.int = 0 → -9223372036854775808 ≤ x.1.int ∧ x.1.int ≤ 9223372036854775807 ∧ s.length ≤ 1000 := fun x hx => by rw [hx]; omega
    split
    · exact key _ rfl
    · cases hq : number s with
      | some n => obtain ⟨_, h2, h3⟩ := number_is hq; exact ⟨h2, h3, by omega⟩
      | none =>
        simp only
        split
        · split
          · exact key _ rfl
          · split
            · exact key _ rfl
            · exact key _ rfl
        · split
          · exact key _ rfl
          · split
            · exact key _ rfl
            · exact key _ rfl
/-- THE TWO ARE ONE -/
theorem read_eq (s : List UInt8) : read s = rread s := by
  by_cases hz : (rread s).2 = 0
  · obtain ⟨hp, hm⟩ := rread_print hz
    obtain ⟨f0, f1, _⟩ := rread_fits hz
    have h := read_print hm f0 f1
    rw [hp] at h
    rw [h]
    exact Prod.ext rfl hz.symm
  · have hr : (read s).2 ≠ 0 := by
      intro h
      obtain ⟨hp, hm⟩ := print_read h
      obtain ⟨_, f0, f1⟩ := guess_fits s
      have hg : (read s).1 = guess s ∧ s.length ≤ 1000 := by
        unfold read at h ⊢
        split at h
        · simp at h
        · rename_i hl
          rw [if_neg hl]
          split at h
          · rename_i hh; rw [if_pos hh]; exact ⟨rfl, by omega⟩
          · simp at h
      have hb := rread_back hm (by rw [hg.1]; exact f0) (by rw [hg.1]; exact f1) (by rw [hp]; exact hg.2)
      rw [hp] at hb
      exact hz (by rw [hb])
    rcases rread_errs s with h | ⟨hl, h⟩ | ⟨hl, h⟩
    · exact absurd h hz
    · rw [h, read, if_pos hl]
    · rw [h]
      unfold read at hr ⊢
      rw [if_neg hl] at hr ⊢
      split
      · rename_i hh; rw [if_pos hh] at hr; exact absurd rfl hr
      · rfl

end Go.Proofs.YtiiaamkmnbegdaaDoor.Val
