/- The tokens of a whole text, in plain Lean. -/
import Derived.Test.YtiiaamkmnbegdaaDoorTok
namespace Go.Proofs.YtiiaamkmnbegdaaDoor.Tok
set_option maxRecDepth 100000
set_option linter.unusedVariables false
set_option linter.unusedSimpArgs false

theorem skip_ge (l : List UInt8) (i : Nat) : i ≤ skip l i := by
  induction hn : l.length - i using Nat.strongRecOn generalizing i with
  | _ n ih =>
    rw [skip]
    split
    · rename_i h
      split
      · have := ih (l.length - (i + 1)) (by omega) (i + 1) rfl; omega
      · split
        · split
          · omega
          · have := ih (l.length - (i + ((Lib.indexByte (l.drop i) 10).toNat + 1))) (by omega) _ rfl; omega
        · omega
    · omega
theorem skip_le (l : List UInt8) (i : Nat) (hi : i ≤ l.length) : skip l i ≤ l.length := by
  induction hn : l.length - i using Nat.strongRecOn generalizing i with
  | _ n ih =>
    rw [skip]
    split
    · rename_i h
      split
      · exact ih (l.length - (i + 1)) (by omega) (i + 1) (by omega) rfl
      · split
        · split
          · omega
          · have hj := indexByte_lt (l.drop i) 10
            rw [List.length_drop] at hj
            exact ih (l.length - (i + ((Lib.indexByte (l.drop i) 10).toNat + 1))) (by omega) _ (by omega) rfl
        · omega
    · omega

theorem quoted_end (l : List UInt8) (i : Nat) (acc : List UInt8) (h : (quoted l i acc).2.2 = true) : i < (quoted l i acc).2.1 ∧ (quoted l i acc).2.1 ≤ l.length := by
  induction hn : l.length - i using Nat.strongRecOn generalizing i acc with
  | _ n ih =>
    by_cases hi : i < l.length
    · by_cases hc : l[i].toNat = 39
      · by_cases h1 : i + 1 < l.length
        · by_cases hd : l[i + 1].toNat = 39
          · rw [← quoted_pair h1 hc hd] at h ⊢
            have := ih _ (by omega) (i + 2) _ h rfl
            omega
          · rw [quoted_close h1 hc hd]; simp; omega
        · rw [quoted_last hi hc h1]; simp; omega
      · rw [← quoted_byte hi hc] at h ⊢
        have := ih _ (by omega) (i + 1) _ h rfl
        omega
    · rw [quoted_open (by omega)] at h; simp at h

theorem blob_end (l : List UInt8) (i : Nat) (h : (blob l i).2.2 = true) : i < (blob l i).2.1 ∧ (blob l i).2.1 ≤ l.length := by
  have hj := indexByte_lt (l.drop (i + 1)) 39
  rw [List.length_drop] at hj
  by_cases hb : Lib.indexByte (l.drop (i + 1)) 39 < 0 ∨ Lib.indexByte (l.drop (i + 1)) 39 % 2 = 1
  · rw [blob_none hb] at h; simp at h
  · cases hp : pairs l (i + 1) (i + 1 + (Lib.indexByte (l.drop (i + 1)) 39).toNat) [] with
    | none => rw [blob_bad hb hp] at h; simp at h
    | some b => rw [blob_some hb hp]; simp; omega

theorem one_end (l : List UInt8) (i : Nat) (hi : i < l.length) (h : (one l i).2.2 = true) : i < (one l i).2.1 ∧ (one l i).2.1 ≤ l.length := by
  have r1 := runEnd_le digit l (i + 1) hi
  have r2 := runEnd_le word l i (by omega)
  have r3 := runEnd_le digit l i (by omega)
  have r4 := sign_le l i hi
  unfold one at h ⊢
  split
  · rename_i hc; rw [if_pos hc] at h; have := quoted_end _ _ _ h; simp only at this ⊢; omega
  · rename_i hc
    rw [if_neg hc] at h
    split
    · rename_i hc; rw [if_pos hc] at h; have := blob_end _ _ h; simp only at this ⊢; omega
    · rename_i hc
      rw [if_neg hc] at h
      split
      · simp only; omega
      · rename_i hc
        rw [if_neg hc] at h
        split
        · rename_i hc; rw [if_pos hc] at h; simp at h ⊢; omega
        · rename_i hc
          rw [if_neg hc] at h
          split
          · rename_i hc; rw [if_pos hc] at h; simp at h ⊢; omega
          · rename_i hc; rw [if_neg hc] at h; simp at h ⊢; omega

/-- the tokens from a place on, each with where it ends, and the first place that is wrong -/
def toks (l : List UInt8) (i : Nat) : List (T × Nat) × Option Nat :=
  if _h : skip l i < l.length then
    (if _h' : (one l (skip l i)).2.2 = true then
      (((one l (skip l i)).1, (one l (skip l i)).2.1) :: (toks l (one l (skip l i)).2.1).1, (toks l (one l (skip l i)).2.1).2)
     else ([], some (skip l i)))
  else ([], none)
termination_by l.length - i
decreasing_by
  all_goals
    have h1 := skip_ge l i
    have h2 := one_end l (skip l i) _h _h'
    omega

theorem toks_end {l : List UInt8} {i : Nat} (h : l.length ≤ skip l i) : toks l i = ([], none) := by
  rw [toks, dif_neg (by omega)]
theorem toks_bad {l : List UInt8} {i : Nat} (h : skip l i < l.length) (ho : (one l (skip l i)).2.2 = false) : toks l i = ([], some (skip l i)) := by
  rw [toks, dif_pos h, dif_neg (by rw [ho]; decide)]
theorem toks_step {l : List UInt8} {i : Nat} (h : skip l i < l.length) (ho : (one l (skip l i)).2.2 = true) :
    toks l i = (((one l (skip l i)).1, (one l (skip l i)).2.1) :: (toks l (one l (skip l i)).2.1).1, (toks l (one l (skip l i)).2.1).2) := by
  rw [toks.eq_def l i, dif_pos h, dif_pos ho]


/-- Scan: the tokens, the place of a fault, the error's number -/
def scan (l : List UInt8) : List T × Nat × Nat :=
  if 2000 < l.length then ([], 0, 3)
  else match (toks l 0).2 with
    | none => ((toks l 0).1.map (·.1), 0, 0)
    | some b => ([], b, 250)
theorem scan_long {l : List UInt8} (h : 2000 < l.length) : scan l = ([], 0, 3) := by rw [scan, if_pos h]
theorem scan_ok {l : List UInt8} {ys : List (T × Nat)} (h : ¬ 2000 < l.length) (ht : toks l 0 = (ys, none)) : scan l = (ys.map (·.1), 0, 0) := by rw [scan, if_neg h, ht]
theorem scan_bad {l : List UInt8} {ys : List (T × Nat)} {b : Nat} (h : ¬ 2000 < l.length) (ht : toks l 0 = (ys, some b)) : scan l = ([], b, 250) := by rw [scan, if_neg h, ht]

theorem toks_len (l : List UInt8) (i : Nat) : (toks l i).1.length ≤ l.length - i := by
  induction hn : l.length - i using Nat.strongRecOn generalizing i with
  | _ n ih =>
    by_cases h : skip l i < l.length
    · cases ho : (one l (skip l i)).2.2 with
      | false => rw [toks_bad h ho]; simp
      | true =>
        have h1 := skip_ge l i
        have h2 := one_end l (skip l i) h ho
        rw [toks_step h ho]
        have := ih (l.length - (one l (skip l i)).2.1) (by omega) _ rfl
        simp only [List.length_cons]
        omega
    · rw [toks_end (by omega)]; simp

end Go.Proofs.YtiiaamkmnbegdaaDoor.Tok
