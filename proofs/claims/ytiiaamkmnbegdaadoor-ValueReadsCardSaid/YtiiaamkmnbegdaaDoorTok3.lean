/- The reference's way through the tokens, in plain Lean: the same places, the same texts. -/
import Derived.Test.YtiiaamkmnbegdaaDoorTok2
import Derived.Test.YtiiaamkmnbegdaaDoorText
namespace Go.Proofs.YtiiaamkmnbegdaaDoor.Tok
set_option maxRecDepth 100000
set_option linter.unusedVariables false
set_option linter.unusedSimpArgs false
open Txt (lower nib unq unhex)

/-- a byte that is not d -/
def non (d c : UInt8) : Bool := decide (c.toNat ≠ d.toNat)

theorem drop_at {l : List UInt8} {i : Nat} (h : i < l.length) : l.drop i = l[i] :: l.drop (i + 1) := List.drop_eq_getElem_cons h
theorem getD_at {l : List UInt8} {i : Nat} (h : i < l.length) : l.getD i 0 = l[i] := by
  rw [List.getD_eq_getElem?_getD, List.getElem?_eq_getElem h]; rfl

theorem indexByte_ge' (l : List UInt8) (c : UInt8) : -1 ≤ Lib.indexByte l c := by
  induction l with
  | nil => simp [Lib.indexByte]
  | cons b l ih => unfold Lib.indexByte; split <;> (first | omega | (split <;> omega))

theorem runEnd_index (d : UInt8) (l : List UInt8) (i : Nat) (h : i ≤ l.length) :
    (Lib.indexByte (l.drop i) d < 0 ∧ runEnd (non d) l i = l.length) ∨ (0 ≤ Lib.indexByte (l.drop i) d ∧ runEnd (non d) l i = i + (Lib.indexByte (l.drop i) d).toNat) := by
  induction hn : l.length - i generalizing i with
  | zero =>
    have : i = l.length := by omega
    subst this
    rw [runEnd_end (Nat.le_refl _), List.drop_length]
    left; simp [Lib.indexByte]
  | succ n ih =>
    have hlt : i < l.length := by omega
    have hg := indexByte_ge' (l.drop (i + 1)) d
    rw [drop_at hlt]
    by_cases hd : l[i] = d
    · rw [runEnd_stop hlt (by simp [non, hd])]
      right; simp [Lib.indexByte, hd]
    · have hd' : ¬ l[i].toNat = d.toNat := fun h => hd (UInt8.toNat_inj.1 h)
      rw [← runEnd_step hlt (by simp [non, hd'])]
      rcases ih (i + 1) (by omega) (by omega) with ⟨h1, h2⟩ | ⟨h1, h2⟩
      · left
        refine ⟨?_, h2⟩
        have : Lib.indexByte (l.drop (i + 1)) d = -1 := by omega
        simp [Lib.indexByte, hd, this]
      · right
        have hne : ¬ Lib.indexByte (l.drop (i + 1)) d = -1 := by omega
        simp only [Lib.indexByte, beq_iff_eq, hd, if_false, hne]
        rw [h2]
        first | omega | (simp [hne]; omega)

theorem runEnd_not {p : UInt8 → Bool} {l : List UInt8} {i : Nat} (h : runEnd p l i < l.length) : p l[runEnd p l i] = false := by
  induction hn : l.length - i using Nat.strongRecOn generalizing i with
  | _ n ih =>
    by_cases hi : i < l.length
    · cases hp : p l[i] with
      | false => have e := runEnd_stop hi hp; simp only [e]; exact hp
      | true =>
        have e := runEnd_step hi hp
        have h' : runEnd p l (i + 1) < l.length := by rw [e]; exact h
        have := ih (l.length - (i + 1)) (by omega) h' rfl
        simp only [e] at this; exact this
    · have e := runEnd_end (p := p) (l := l) (i := i) (by omega)
      omega

theorem dash {l : List UInt8} {i : Nat} (h : i < l.length) : Lib.hasPrefix (l.drop i) [45, 45] = decide (l[i].toNat = 45 ∧ i + 1 < l.length ∧ (l.getD (i + 1) 0).toNat = 45) := by
  have e (c : UInt8) : ((45 : UInt8) == c) = decide (c.toNat = 45) := by
    rw [Bool.eq_iff_iff]; simp only [beq_iff_eq, decide_eq_true_eq, ← UInt8.toNat_inj, show (45 : UInt8).toNat = 45 from rfl]; omega
  rw [drop_at h]
  by_cases h1 : i + 1 < l.length
  · rw [drop_at h1, getD_at h1]
    simp only [Lib.hasPrefix, List.isPrefixOf, e, Bool.and_true, h1, true_and, Bool.decide_and]
  · rw [List.drop_of_length_le (by omega)]
    simp only [Lib.hasPrefix, List.isPrefixOf, h1, false_and, and_false, decide_false, Bool.and_false]

/-- over a remark: to its line's end -/
theorem skip_remark {l : List UInt8} {i : Nat} (h : i < l.length) (hb : blank l[i] = false) (hp : l[i].toNat = 45 ∧ i + 1 < l.length ∧ (l.getD (i + 1) 0).toNat = 45) : skip l (runEnd (non 10) l i) = skip l i := by
  have hpre : Lib.hasPrefix (l.drop i) [45, 45] = true := by rw [dash h]; exact decide_eq_true hp
  rcases runEnd_index 10 l i (by omega) with ⟨h1, h2⟩ | ⟨h1, h2⟩
  · rw [h2, skip_none h hb hpre h1, skip_end (Nat.le_refl _)]
  · have hj := indexByte_lt (l.drop i) 10
    rw [List.length_drop] at hj
    have hlt : runEnd (non 10) l i < l.length := by omega
    have hn := runEnd_not hlt
    have hbl : blank l[runEnd (non 10) l i] = true := by
      simp [non] at hn
      simp [blank, hn]
    rw [← skip_blank hlt hbl, h2, Nat.add_assoc, skip_line h hb hpre h1]

/-- a place, or -1 -/
def fin (q : Nat × Bool) : Int := if q.2 = true then (q.1 : Int) else -1

theorem hex_lower (c : UInt8) : nib (lower c) = hex c := by
  have hc := c.toNat_lt
  by_cases hu : 65 ≤ c.toNat ∧ c.toNat ≤ 90
  · have hl := Txt.lower_up hu
    simp only [nib, hex, digit, hl, decide_eq_true_eq]
    repeat' split
    all_goals omega
  · rw [Txt.lower_no hu]
    simp only [nib, hex, digit, decide_eq_true_eq]
    repeat' split
    all_goals omega
theorem hex_quote {c : UInt8} (h : c.toNat = 39) : hex c = -1 := by unfold hex digit; rw [if_neg (by simp; omega), if_neg (by omega), if_neg (by omega)]

theorem pairs_some (l : List UInt8) (i e : Nat) (acc b : List UInt8) (h : pairs l i e acc = some b) : (e - i) % 2 = 0 → ∀ m, i ≤ m → m < e → 0 ≤ hex (l.getD m 0) := by
  induction hn : e - i using Nat.strongRecOn generalizing i acc with
  | _ n ih =>
    intro hev m hm hme
    have hlt : i < e := by omega
    by_cases hb : hex (l.getD i 0) < 0 ∨ hex (l.getD (i + 1) 0) < 0
    · rw [pairs_bad hlt hb] at h; simp at h
    · rw [← pairs_step hlt (by omega) (by omega)] at h
      have := ih (e - (i + 2)) (by omega) (i + 2) _ h rfl (by omega)
      by_cases h1 : m = i
      · subst h1; omega
      · by_cases h2 : m = i + 1
        · subst h2; omega
        · exact this m (by omega) hme

theorem cut_nil {l : List UInt8} {i e : Nat} (h : e ≤ i) : cut l i e = [] := by simp [cut, show e - i = 0 by omega]
theorem cut_cons {l : List UInt8} {i e : Nat} (h : i < e) (hi : i < l.length) : cut l i e = l[i] :: cut l (i + 1) e := by
  rw [cut, drop_at hi, show e - i = (e - (i + 1)) + 1 by omega, List.take_succ_cons]; rfl

theorem pairs_unhex (l : List UInt8) (i e : Nat) (acc : List UInt8) (he : e ≤ l.length) (hev : (e - i) % 2 = 0) (hh : ∀ m, i ≤ m → m < e → 0 ≤ hex (l.getD m 0)) :
    pairs l i e acc = some (unhex ((cut l i e).map lower) acc).1 := by
  induction hn : e - i using Nat.strongRecOn generalizing i acc with
  | _ n ih =>
    by_cases hlt : i < e
    · have ha := hh i (by omega) hlt
      have hb := hh (i + 1) (by omega) (by omega)
      rw [← pairs_step hlt ha hb, ih (e - (i + 2)) (by omega) (i + 2) _ (by omega) (fun m h1 h2 => hh m (by omega) h2) rfl]
      rw [cut_cons hlt (by omega), cut_cons (show i + 1 < e by omega) (by omega), List.map_cons, List.map_cons, Txt.unhex_pair]
      · rw [hex_lower, hex_lower, getD_at (by omega), getD_at (show i + 1 < l.length by omega)]
      · rw [hex_lower, ← getD_at]; exact ha
      · rw [hex_lower, ← getD_at (show i + 1 < l.length by omega)]; exact hb
    · rw [pairs_end (by omega), cut_nil (by omega)]; rfl

theorem index_at {l : List UInt8} {i j : Nat} (hij : i ≤ j) (hj : j < l.length) (hh : ∀ m, i ≤ m → m < j → 0 ≤ hex (l.getD m 0)) : runEnd (non 39) l i = runEnd (non 39) l j := by
  induction hn : j - i generalizing i with
  | zero => rw [show i = j by omega]
  | succ n ih =>
    have h0 := hh i (by omega) (by omega)
    rw [getD_at (by omega)] at h0
    have hne : l[i].toNat ≠ 39 := fun h => by rw [hex_quote h] at h0; omega
    rw [← runEnd_step (i := i) (by omega) (by simp [non]; exact hne)]
    exact ih (by omega) (fun m h1 h2 => hh m (by omega) h2) (by omega)

theorem blob_quote {l : List UInt8} {i j : Nat} (hij : i + 1 ≤ j) (hj : j < l.length) (hh : ∀ m, i + 1 ≤ m → m < j → 0 ≤ hex (l.getD m 0)) (hq : l[j].toNat = 39) :
    fin (blob l i).2 = if (j - (i + 1)) % 2 = 1 then -1 else (j : Int) + 1 := by
  have hr := index_at hij hj hh
  rw [runEnd_stop hj (by simp [non]; exact hq)] at hr
  rcases runEnd_index 39 l (i + 1) (by omega) with ⟨h1, h2⟩ | ⟨h1, h2⟩
  · omega
  · split
    · rw [blob_none (by omega)]; rfl
    · rw [blob_some (by omega) (pairs_unhex l (i + 1) _ [] (by omega) (by omega) (fun m h3 h4 => hh m h3 (by omega)))]
      simp [fin]; omega

theorem blob_not {l : List UInt8} {i j : Nat} (hij : i + 1 ≤ j) (hj : j < l.length) (hh : ∀ m, i + 1 ≤ m → m < j → 0 ≤ hex (l.getD m 0)) (hq : l[j].toNat ≠ 39) (hx : hex l[j] < 0) :
    fin (blob l i).2 = -1 := by
  have hr := index_at hij hj hh
  have hj1 := runEnd_le (non 39) l (j + 1) (by omega)
  rw [← runEnd_step hj (by simp [non]; exact hq)] at hr
  by_cases hb : Lib.indexByte (l.drop (i + 1)) 39 < 0 ∨ Lib.indexByte (l.drop (i + 1)) 39 % 2 = 1
  · rw [blob_none hb]; rfl
  · rcases runEnd_index 39 l (i + 1) (by omega) with ⟨h1, h2⟩ | ⟨h1, h2⟩
    · omega
    · cases hp : pairs l (i + 1) (i + 1 + (Lib.indexByte (l.drop (i + 1)) 39).toNat) [] with
      | none => rw [blob_bad hb hp]; rfl
      | some b =>
        have := pairs_some _ _ _ _ _ hp (by omega) j (by omega) (by omega)
        rw [getD_at hj] at this
        omega

theorem blob_open {l : List UInt8} {i : Nat} (hi : i + 1 ≤ l.length) (hh : ∀ m, i + 1 ≤ m → m < l.length → 0 ≤ hex (l.getD m 0)) : fin (blob l i).2 = -1 := by
  have hr : runEnd (non 39) l (i + 1) = l.length := by
    rcases Nat.lt_or_ge (i + 1) l.length with h | h
    · have := index_at (l := l) (i := i + 1) (j := l.length - 1) (by omega) (by omega) (fun m h1 h2 => hh m h1 (by omega))
      have hl := hh (l.length - 1) (by omega) (by omega)
      rw [getD_at (by omega)] at hl
      rw [this, ← runEnd_step (by omega) (by simp [non]; exact fun h => by rw [hex_quote h] at hl; omega), runEnd_end (by omega)]; omega
    · rw [runEnd_end h]; omega
  have hj := indexByte_lt (l.drop (i + 1)) 39
  rw [List.length_drop] at hj
  rcases runEnd_index 39 l (i + 1) hi with ⟨h1, _⟩ | ⟨h1, h2⟩
  · rw [blob_none (.inl h1)]; rfl
  · omega

theorem quoted_unq (l : List UInt8) (i : Nat) (acc : List UInt8) (h : (quoted l i acc).2.2 = true) : (unq (cut l i ((quoted l i acc).2.1 - 1)) acc).1 = (quoted l i acc).1 := by
  induction hn : l.length - i using Nat.strongRecOn generalizing i acc with
  | _ n ih =>
    by_cases hi : i < l.length
    · by_cases hc : l[i].toNat = 39
      · by_cases h1 : i + 1 < l.length
        · by_cases hd : l[i + 1].toNat = 39
          · rw [← quoted_pair h1 hc hd] at h ⊢
            have he := quoted_end _ _ _ h
            rw [cut_cons (by omega) hi, cut_cons (by omega) h1, Txt.unq_pair _ _ hc hd]
            exact ih _ (by omega) (i + 2) _ h rfl
          · rw [quoted_close h1 hc hd, cut_nil (by simp)]; rfl
        · rw [quoted_last hi hc h1, cut_nil (by simp)]; rfl
      · rw [← quoted_byte hi hc] at h ⊢
        have he := quoted_end _ _ _ h
        rw [cut_cons (by omega) hi, Txt.unq_byte _ _ hc]
        exact ih _ (by omega) (i + 1) _ h rfl
    · rw [quoted_open (by omega)] at h; simp at h

/-- the bytes that a token's text says -/
def rtext (k : Nat) (l : List UInt8) : List UInt8 :=
  if k = 3 then (unq (cut l 1 (l.length - 1)) []).1
  else if k = 4 then (unhex ((cut l 2 (l.length - 1)).map lower) []).1
  else if k = 5 then l.drop 1
  else l

theorem cut_len {l : List UInt8} {i e : Nat} (h : e ≤ l.length) : (cut l i e).length = e - i := by simp [cut]; omega
theorem cut_cut (l : List UInt8) (i e a b : Nat) (h : e ≤ l.length) (hb : b ≤ e - i) : cut (cut l i e) a b = cut l (i + a) (i + b) := by
  apply List.ext_getElem?
  intro m
  simp only [cut, List.getElem?_take, List.getElem?_drop]
  by_cases hm : m < b - a
  · rw [if_pos hm, if_pos (by omega), if_pos (by omega), Nat.add_assoc]
  · rw [if_neg hm, if_neg (by omega)]

end Go.Proofs.YtiiaamkmnbegdaaDoor.Tok
