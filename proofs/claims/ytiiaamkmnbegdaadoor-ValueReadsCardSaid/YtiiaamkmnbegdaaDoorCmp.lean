/- How values and texts stand, in plain Lean. -/
import Derived.Test.YtiiaamkmnbegdaaDoorVal
import Derived.Lib.Bytealg
import Derived.Lib.Small
import Derived.Lib.TrimByte
import GoSem.Op.String
namespace Go.Proofs.YtiiaamkmnbegdaaDoor.Val
set_option maxRecDepth 100000
set_option linter.unusedVariables false
set_option linter.unusedSimpArgs false

/-- how two texts stand under a collation -/
def texts (a b : List UInt8) (c : Int) : Int := Lib.compareBytes (Txt.fold a c) (Txt.fold b c)
/-- how two values stand under a collation -/
def cmp (a b : V) (c : Int) : Int :=
  if may a = true ∧ may b = true then
    (if a.kind ≠ b.kind then Lib.compareInt a.kind b.kind
     else if a.kind = 2 then texts a.text b.text c
     else if a.int ≠ b.int then Lib.compareInt a.int b.int else Lib.compareBytes a.text b.text)
  else 0

theorem u8_lt {x y : UInt8} : x < y ↔ x.toNat < y.toNat := UInt8.lt_iff_toNat_lt
theorem u8_eq {x y : UInt8} : x = y ↔ x.toNat = y.toNat := UInt8.toNat_inj.symm

theorem cb_refl (a : List UInt8) : Lib.compareBytes a a = 0 := by
  induction a with
  | nil => rfl
  | cons x a ih => simp [Lib.compareBytes, ih]
theorem cb_range (a b : List UInt8) : Lib.compareBytes a b = -1 ∨ Lib.compareBytes a b = 0 ∨ Lib.compareBytes a b = 1 := by
  induction a generalizing b with
  | nil => cases b <;> simp [Lib.compareBytes]
  | cons x a ih =>
    cases b with
    | nil => simp [Lib.compareBytes]
    | cons y b =>
      simp only [Lib.compareBytes]
      split
      · simp
      · split
        · simp
        · exact ih b
theorem cb_zero (a b : List UInt8) : Lib.compareBytes a b = 0 ↔ a = b := by
  induction a generalizing b with
  | nil => cases b <;> simp [Lib.compareBytes]
  | cons x a ih =>
    cases b with
    | nil => simp [Lib.compareBytes]
    | cons y b =>
      simp only [Lib.compareBytes, u8_lt, List.cons.injEq]
      split
      · simp [u8_eq]; omega
      · split
        · simp [u8_eq]; omega
        · rw [ih, u8_eq]
          constructor
          · intro h; exact ⟨by omega, h⟩
          · intro h; exact h.2
theorem cb_neg (a b : List UInt8) : Lib.compareBytes b a = - Lib.compareBytes a b := by
  induction a generalizing b with
  | nil => cases b <;> simp [Lib.compareBytes]
  | cons x a ih =>
    cases b with
    | nil => simp [Lib.compareBytes]
    | cons y b =>
      simp only [Lib.compareBytes, u8_lt]
      rw [ih]
      split
      · rw [if_neg (by omega)]
      · split
        · rfl
        · rfl
theorem cb_trans (a b c : List UInt8) (h1 : Lib.compareBytes a b ≤ 0) (h2 : Lib.compareBytes b c ≤ 0) : Lib.compareBytes a c ≤ 0 := by
  induction a generalizing b c with
  | nil => cases c <;> simp [Lib.compareBytes]
  | cons x a ih =>
    cases b with
    | nil => simp [Lib.compareBytes] at h1
    | cons y b =>
      cases c with
      | nil => simp [Lib.compareBytes] at h2
      | cons z c =>
        simp only [Lib.compareBytes, u8_lt] at h1 h2 ⊢
        by_cases h3 : x.toNat < z.toNat
        · rw [if_pos h3]; omega
        · rw [if_neg h3]
          by_cases hxy : x.toNat < y.toNat
          · by_cases hyz : y.toNat < z.toNat
            · omega
            · rw [if_neg hyz] at h2
              by_cases hzy : z.toNat < y.toNat
              · rw [if_pos hzy] at h2; omega
              · omega
          · rw [if_neg hxy] at h1
            by_cases hyx : y.toNat < x.toNat
            · rw [if_pos hyx] at h1; omega
            · rw [if_neg hyx] at h1
              by_cases hyz : y.toNat < z.toNat
              · omega
              · rw [if_neg hyz] at h2
                by_cases hzy : z.toNat < y.toNat
                · rw [if_pos hzy] at h2; omega
                · rw [if_neg hzy] at h2
                  rw [if_neg (by omega)]
                  exact ih b c h1 h2
theorem less_cb (a b : List UInt8) : Op.bytesLess a b = decide (Lib.compareBytes a b = -1) := by
  induction a generalizing b with
  | nil => cases b <;> simp [Lib.compareBytes, Op.bytesLess]
  | cons x a ih =>
    cases b with
    | nil => simp [Lib.compareBytes, Op.bytesLess]
    | cons y b =>
      simp only [Lib.compareBytes, Op.bytesLess, u8_lt]
      by_cases h : x.toNat < y.toNat
      · simp [h]
      · by_cases h2 : y.toNat < x.toNat
        · have : ¬ x = y := by rw [u8_eq]; omega
          simp [h, h2, this]
        · have : x = y := by rw [u8_eq]; omega
          simp [this, ih]

theorem ci_neg (x y : Int) : Lib.compareInt y x = - Lib.compareInt x y := by
  unfold Lib.compareInt
  split <;> split <;> (first | omega | (split <;> omega) | skip)

/-- the order is total -/
theorem cmp_range (a b : V) (c : Int) : cmp a b c = -1 ∨ cmp a b c = 0 ∨ cmp a b c = 1 := by
  have hci : ∀ x y : Int, Lib.compareInt x y = -1 ∨ Lib.compareInt x y = 0 ∨ Lib.compareInt x y = 1 := by
    intro x y; unfold Lib.compareInt; split
    · simp
    · split <;> simp
  unfold cmp texts
  split
  · split
    · exact hci _ _
    · split
      · exact cb_range _ _
      · split
        · exact hci _ _
        · exact cb_range _ _
  · simp
theorem cmp_neg (a b : V) (c : Int) : cmp b a c = - cmp a b c := by
  unfold cmp texts
  by_cases hm : may a = true ∧ may b = true
  · have hm2 : may b = true ∧ may a = true := ⟨hm.2, hm.1⟩
    simp only [hm, hm2, and_self, if_true, ne_eq]
    by_cases hk : a.kind = b.kind
    · have hk2 : b.kind = a.kind := hk.symm
      simp only [hk, not_true_eq_false, if_false]
      by_cases h2 : b.kind = 2
      · simp only [h2, if_true]; exact cb_neg _ _
      · simp only [h2, if_false]
        by_cases hi : a.int = b.int
        · simp only [hi, not_true_eq_false, if_false]; exact cb_neg _ _
        · have hi2 : ¬ b.int = a.int := fun h => hi h.symm
          simp only [hi, hi2, not_false_eq_true, if_true]; exact ci_neg _ _
    · have hk2 : ¬ b.kind = a.kind := fun h => hk h.symm
      simp only [hk, hk2, not_false_eq_true, if_true]; exact ci_neg _ _
  · have hm2 : ¬ (may b = true ∧ may a = true) := fun h => hm ⟨h.2, h.1⟩
    simp only [hm, hm2, if_false]; rfl
theorem cmp_self (a : V) (c : Int) : cmp a a c = 0 := by
  unfold cmp texts
  simp [cb_refl]
theorem ci_le {x y : Int} : Lib.compareInt x y ≤ 0 ↔ x ≤ y := by
  unfold Lib.compareInt
  split
  · omega
  · split <;> omega
theorem cmp_trans (a b d : V) (c : Int) (ha : may a = true) (hb : may b = true) (hd : may d = true) (h1 : cmp a b c ≤ 0) (h2 : cmp b d c ≤ 0) : cmp a d c ≤ 0 := by
  unfold cmp texts at h1 h2 ⊢
  rw [if_pos ⟨ha, hb⟩] at h1
  rw [if_pos ⟨hb, hd⟩] at h2
  rw [if_pos ⟨ha, hd⟩]
  by_cases k1 : a.kind = b.kind
  · rw [if_neg (by simp [k1])] at h1
    by_cases k2 : b.kind = d.kind
    · rw [if_neg (by simp [k2])] at h2
      rw [if_neg (by simp [k1, k2])]
      by_cases t : a.kind = 2
      · rw [if_pos t] at h1 ⊢
        rw [if_pos (by omega)] at h2
        exact cb_trans _ _ _ h1 h2
      · rw [if_neg t] at h1 ⊢
        rw [if_neg (by omega)] at h2
        by_cases i1 : a.int = b.int
        · rw [if_neg (by simp [i1])] at h1
          by_cases i2 : b.int = d.int
          · rw [if_neg (by simp [i2])] at h2
            rw [if_neg (by simp [i1, i2])]
            exact cb_trans _ _ _ h1 h2
          · rw [if_pos i2, ci_le] at h2
            rw [if_pos (by omega), ci_le]; omega
        · rw [if_pos i1, ci_le] at h1
          by_cases i2 : b.int = d.int
          · rw [if_pos (by omega), ci_le]; omega
          · rw [if_pos i2, ci_le] at h2
            rw [if_pos (by omega), ci_le]; omega
    · rw [if_pos k2, ci_le] at h2
      rw [if_pos (by omega), ci_le]; omega
  · rw [if_pos k1, ci_le] at h1
    by_cases k2 : b.kind = d.kind
    · rw [if_pos (by omega), ci_le]; omega
    · rw [if_pos k2, ci_le] at h2
      rw [if_pos (by omega), ci_le]; omega
theorem cmp_one (a b : V) (ha : may a = true) (hb : may b = true) (h : cmp a b 0 = 0) : a = b := by
  have hci : ∀ {x y : Int}, Lib.compareInt x y = 0 → x = y := by
    intro x y h
    unfold Lib.compareInt at h
    split at h
    · omega
    · split at h <;> omega
  unfold cmp texts at h
  rw [if_pos ⟨ha, hb⟩] at h
  obtain ⟨ka, ia, ta⟩ := a
  obtain ⟨kb, ib, tb⟩ := b
  simp only [may_iff] at ha hb
  simp only at h ha hb
  by_cases hk : ka = kb
  · rw [if_neg (by simp [hk])] at h
    by_cases t : ka = 2
    · rw [if_pos t] at h
      simp only [Txt.fold] at h
      rw [if_neg (by decide), if_neg (by decide), if_neg (by decide), if_neg (by decide), cb_zero] at h
      have : ia = ib := by omega
      subst hk h this; rfl
    · rw [if_neg t] at h
      by_cases hi : ia = ib
      · rw [if_neg (by simp [hi]), cb_zero] at h
        subst hk h hi; rfl
      · rw [if_pos hi] at h
        exact absurd (hci h) hi
  · rw [if_pos hk] at h
    exact absurd (hci h) hk

end Go.Proofs.YtiiaamkmnbegdaaDoor.Val
