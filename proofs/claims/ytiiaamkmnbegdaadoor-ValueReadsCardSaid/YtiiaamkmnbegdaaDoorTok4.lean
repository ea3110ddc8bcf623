/- The token that begins at a place, as the reference finds it, in plain Lean. -/
import Derived.Test.YtiiaamkmnbegdaaDoorTok3
namespace Go.Proofs.YtiiaamkmnbegdaaDoor.Tok
set_option maxRecDepth 100000
set_option linter.unusedVariables false
set_option linter.unusedSimpArgs false

theorem letter_not {c : UInt8} (h : letter c = true) : c.toNat ≠ 39 ∧ c.toNat ≠ 63 ∧ digit c = false := by
  simp [letter] at h; simp [digit]; omega
theorem digit_not {c : UInt8} (h : digit c = true) : c.toNat ≠ 39 ∧ c.toNat ≠ 63 ∧ c.toNat ≠ 120 ∧ c.toNat ≠ 88 := by
  simp [digit] at h; omega

/-- is it a blob's beginning -/
abbrev isBlob (l : List UInt8) (i : Nat) : Prop := ((l.getD i 0).toNat = 120 ∨ (l.getD i 0).toNat = 88) ∧ i + 1 < l.length ∧ (l.getD (i + 1) 0).toNat = 39

theorem one_quote {l : List UInt8} {i : Nat} (h : (l.getD i 0).toNat = 39) : (fin (one l i).2, (one l i).1.kind) = (fin (quoted l (i + 1) []).2, 3) := by
  rw [one, if_pos h]
theorem one_blob {l : List UInt8} {i : Nat} (h : (l.getD i 0).toNat ≠ 39) (hb : isBlob l i) : (fin (one l i).2, (one l i).1.kind) = (fin (blob l (i + 1)).2, 4) := by
  rw [one, if_neg h, if_pos hb]
theorem one_letter {l : List UInt8} {i : Nat} (hi : i < l.length) (hb : ¬ isBlob l i) (hl : letter (l.getD i 0) = true) : (fin (one l i).2, (one l i).1.kind) = ((runEnd word l (i + 1) : Int), 1) := by
  have hn := letter_not hl
  have hw : word l[i] = true := by rw [← getD_at hi, word, hl]; rfl
  have hle := runEnd_le word l (i + 1) hi
  rw [one, if_neg hn.1, if_neg hb, if_neg hn.2.1, if_pos hl]
  rw [← runEnd_step hi hw]
  simp only [fin]
  rw [if_pos (decide_eq_true (by omega))]
theorem one_mark {l : List UInt8} {i : Nat} (h : (l.getD i 0).toNat = 63) : (fin (one l i).2, (one l i).1.kind) = ((runEnd digit l (i + 1) : Int), 5) := by
  rw [one, if_neg (by omega), if_neg (fun hb => by have := hb.1; omega), if_pos h]
  rfl
theorem one_digit {l : List UInt8} {i : Nat} (hi : i < l.length) (hl : digit (l.getD i 0) = true) : (fin (one l i).2, (one l i).1.kind) = ((runEnd digit l (i + 1) : Int), 2) := by
  have hn := digit_not hl
  have hw : digit l[i] = true := by rw [← getD_at hi, hl]
  have hle := runEnd_le digit l (i + 1) hi
  have hlet : letter (l.getD i 0) = false := by
    cases hq : letter (l.getD i 0) with
    | false => rfl
    | true => have := (letter_not hq).2.2; rw [hl] at this; cases this
  rw [one, if_neg hn.1, if_neg (fun hb => by have := hb.1; omega), if_neg hn.2.1, if_neg (by rw [hlet]; decide), if_pos hl]
  rw [← runEnd_step hi hw]
  simp only [fin]
  rw [if_pos (decide_eq_true (by omega))]
theorem one_other {l : List UInt8} {i : Nat} (h : (l.getD i 0).toNat ≠ 39) (hb : ¬ isBlob l i) (h63 : (l.getD i 0).toNat ≠ 63) (hl : letter (l.getD i 0) = false) (hd : digit (l.getD i 0) = false) :
    one l i = (⟨6, i, cut l i (i + sign l i)⟩, i + sign l i, decide (i < i + sign l i)) := by
  rw [one, if_neg h, if_neg hb, if_neg h63, if_neg (by rw [hl]; decide), if_neg (by rw [hd]; decide)]
theorem one_two {l : List UInt8} {i : Nat} (h : (l.getD i 0).toNat ≠ 39) (hb : ¬ isBlob l i) (h63 : (l.getD i 0).toNat ≠ 63) (hl : letter (l.getD i 0) = false) (hd : digit (l.getD i 0) = false)
    (h2 : i + 1 < l.length) (hp : pair (l.getD i 0) (l.getD (i + 1) 0) = true) : (fin (one l i).2, (one l i).1.kind) = ((i : Int) + 2, 6) := by
  rw [one_other h hb h63 hl hd, sign_two h2 hp]; simp [fin]
theorem one_single {l : List UInt8} {i : Nat} (h : (l.getD i 0).toNat ≠ 39) (hb : ¬ isBlob l i) (h63 : (l.getD i 0).toNat ≠ 63) (hl : letter (l.getD i 0) = false) (hd : digit (l.getD i 0) = false)
    (hp : ¬ (i + 1 < l.length ∧ pair (l.getD i 0) (l.getD (i + 1) 0) = true)) (hs : single (l.getD i 0) = true) : (fin (one l i).2, (one l i).1.kind) = ((i : Int) + 1, 6) := by
  rw [one_other h hb h63 hl hd, sign_one hp hs]; simp [fin]
theorem one_none {l : List UInt8} {i : Nat} (h : (l.getD i 0).toNat ≠ 39) (hb : ¬ isBlob l i) (h63 : (l.getD i 0).toNat ≠ 63) (hl : letter (l.getD i 0) = false) (hd : digit (l.getD i 0) = false)
    (hp : ¬ (i + 1 < l.length ∧ pair (l.getD i 0) (l.getD (i + 1) 0) = true)) (hs : single (l.getD i 0) = false) : (fin (one l i).2, (one l i).1.kind) = (-1, 6) := by
  rw [one_other h hb h63 hl hd, sign_none hp hs]; simp [fin]

theorem fin_neg {q : Nat × Bool} : fin q < 0 ↔ q.2 = false := by
  unfold fin; cases q.2 <;> simp
theorem fin_pos {q : Nat × Bool} (h : q.2 = true) : fin q = (q.1 : Int) := by rw [fin, if_pos h]

theorem blob_text (l : List UInt8) (i : Nat) (h : (blob l i).2.2 = true) : (Txt.unhex ((cut l (i + 1) ((blob l i).2.1 - 1)).map Txt.lower) []).1 = (blob l i).1 ∧ i + 2 ≤ (blob l i).2.1 ∧ (blob l i).2.1 ≤ l.length := by
  have hj := indexByte_lt (l.drop (i + 1)) 39
  rw [List.length_drop] at hj
  by_cases hb : Lib.indexByte (l.drop (i + 1)) 39 < 0 ∨ Lib.indexByte (l.drop (i + 1)) 39 % 2 = 1
  · rw [blob_none hb] at h; simp at h
  · cases hp : pairs l (i + 1) (i + 1 + (Lib.indexByte (l.drop (i + 1)) 39).toNat) [] with
    | none => rw [blob_bad hb hp] at h; simp at h
    | some b =>
      have hh := pairs_some _ _ _ _ _ hp (by omega)
      have hu := pairs_unhex l (i + 1) _ [] (by omega) (by omega) hh
      rw [hp] at hu
      rw [blob_some hb hp]
      simp only
      rw [show i + (Lib.indexByte (l.drop (i + 1)) 39).toNat + 2 - 1 = i + 1 + (Lib.indexByte (l.drop (i + 1)) 39).toNat by omega]
      exact ⟨(Option.some.inj hu).symm, by omega, by omega⟩

/-- the reference's text of a token is the token's -/
theorem one_rtext {l : List UInt8} {i : Nat} (hi : i < l.length) (ho : (one l i).2.2 = true) :
    rtext (one l i).1.kind (cut l i (one l i).2.1) = (one l i).1.text ∧ ((one l i).1.kind = 3 → 2 ≤ (one l i).2.1 - i) ∧ ((one l i).1.kind = 4 → 3 ≤ (one l i).2.1 - i) ∧ (one l i).1.at_ = i := by
  have hend := one_end l i hi ho
  by_cases h1 : (l.getD i 0).toNat = 39
  · have e : one l i = (⟨3, i, (quoted l (i + 1) []).1⟩, (quoted l (i + 1) []).2.1, (quoted l (i + 1) []).2.2) := by rw [one, if_pos h1]
    rw [e] at ho hend ⊢
    simp only at ho hend ⊢
    have hq := quoted_end _ _ _ ho
    refine ⟨?_, fun _ => by omega, fun h => by omega, trivial⟩
    rw [rtext, if_pos rfl, cut_len hend.2, cut_cut _ _ _ _ _ hend.2 (by omega), show i + ((quoted l (i + 1) []).2.1 - i - 1) = (quoted l (i + 1) []).2.1 - 1 by omega]
    exact quoted_unq l (i + 1) [] ho
  · by_cases h2 : isBlob l i
    · have e : one l i = (⟨4, i, (blob l (i + 1)).1⟩, (blob l (i + 1)).2.1, (blob l (i + 1)).2.2) := by rw [one, if_neg h1, if_pos h2]
      rw [e] at ho hend ⊢
      simp only at ho hend ⊢
      have hb := blob_text l (i + 1) ho
      refine ⟨?_, fun h => by omega, fun _ => by omega, trivial⟩
      rw [rtext, if_neg (by decide), if_pos rfl, cut_len hend.2, cut_cut _ _ _ _ _ hend.2 (by omega), show i + ((blob l (i + 1)).2.1 - i - 1) = (blob l (i + 1)).2.1 - 1 by omega]
      exact hb.1
    · by_cases h3 : (l.getD i 0).toNat = 63
      · have e : one l i = (⟨5, i, cut l (i + 1) (runEnd digit l (i + 1))⟩, runEnd digit l (i + 1), true) := by rw [one, if_neg h1, if_neg h2, if_pos h3]
        rw [e] at ho hend ⊢
        simp only at ho hend ⊢
        refine ⟨?_, fun h => by omega, fun h => by omega, trivial⟩
        rw [rtext, if_neg (by decide), if_neg (by decide), if_pos rfl, cut_cons hend.1 hi]
        rfl
      · by_cases h4 : letter (l.getD i 0) = true
        · have e : one l i = (⟨1, i, cut l i (runEnd word l i)⟩, runEnd word l i, decide (i < runEnd word l i)) := by rw [one, if_neg h1, if_neg h2, if_neg h3, if_pos h4]
          rw [e]
          exact ⟨by simp [rtext], fun h => by simp at h, fun h => by simp at h, rfl⟩
        · by_cases h5 : digit (l.getD i 0) = true
          · have e : one l i = (⟨2, i, cut l i (runEnd digit l i)⟩, runEnd digit l i, decide (i < runEnd digit l i)) := by rw [one, if_neg h1, if_neg h2, if_neg h3, if_neg h4, if_pos h5]
            rw [e]
            exact ⟨by simp [rtext], fun h => by simp at h, fun h => by simp at h, rfl⟩
          · have e : one l i = (⟨6, i, cut l i (i + sign l i)⟩, i + sign l i, decide (i < i + sign l i)) := by rw [one, if_neg h1, if_neg h2, if_neg h3, if_neg h4, if_neg h5]
            rw [e]
            exact ⟨by simp [rtext], fun h => by simp at h, fun h => by simp at h, rfl⟩

end Go.Proofs.YtiiaamkmnbegdaaDoor.Tok
