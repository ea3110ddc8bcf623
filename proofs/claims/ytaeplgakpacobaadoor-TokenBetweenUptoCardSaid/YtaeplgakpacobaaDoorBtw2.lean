/- How long the texts of tokens are, in plain Lean. -/
import Derived.Test.YtaeplgakpacobaaDoorBtw
set_option maxRecDepth 100000
set_option linter.unusedVariables false
set_option linter.unusedSimpArgs false
namespace Go.Proofs.YtaeplgakpacobaaDoor.Tok

theorem quoted_len (l : List UInt8) (i : Nat) (acc : List UInt8) : (quoted l i acc).1.length ≤ acc.length + (l.length - i) := by
  induction hn : l.length - i using Nat.strongRecOn generalizing i acc with
  | _ n ih =>
    by_cases hi : i < l.length
    · by_cases hc : l[i].toNat = 39
      · by_cases h1 : i + 1 < l.length
        · by_cases hd : l[i + 1].toNat = 39
          · rw [← quoted_pair h1 hc hd]
            have := ih _ (by omega) (i + 2) (acc ++ [l[i + 1]]) rfl
            simp at this; omega
          · rw [quoted_close h1 hc hd]; simp
        · rw [quoted_last hi hc h1]; simp
      · rw [← quoted_byte hi hc]
        have := ih _ (by omega) (i + 1) (acc ++ [l[i]]) rfl
        simp at this; omega
    · rw [quoted_open (by omega)]; simp
theorem pairs_len {l b : List UInt8} {i e : Nat} {acc : List UInt8} (h : pairs l i e acc = some b) : b.length ≤ acc.length + (e - i) := by
  induction hn : e - i using Nat.strongRecOn generalizing i acc with
  | _ n ih =>
    by_cases hi : i < e
    · by_cases hb : hex (l.getD i 0) < 0 ∨ hex (l.getD (i + 1) 0) < 0
      · rw [pairs_bad hi hb] at h; cases h
      · rw [← pairs_step hi (by omega) (by omega)] at h
        have := ih (e - (i + 2)) (by omega) h rfl
        simp at this; omega
    · rw [pairs_end (by omega)] at h; cases h; omega
theorem blob_len (l : List UInt8) (i : Nat) : (blob l i).1.length ≤ l.length := by
  have hj := indexByte_lt (l.drop (i + 1)) 39
  rw [List.length_drop] at hj
  by_cases hb : Lib.indexByte (l.drop (i + 1)) 39 < 0 ∨ Lib.indexByte (l.drop (i + 1)) 39 % 2 = 1
  · rw [blob_none hb]; simp
  · cases hp : pairs l (i + 1) (i + 1 + (Lib.indexByte (l.drop (i + 1)) 39).toNat) [] with
    | none => rw [blob_bad hb hp]; simp
    | some b =>
      rw [blob_some hb hp]
      have := pairs_len hp
      simp at this ⊢; omega
theorem cut_le (l : List UInt8) (i e : Nat) : (cut l i e).length ≤ l.length := by
  simp [cut]; omega
theorem one_len (l : List UInt8) (i : Nat) : (one l i).1.text.length ≤ l.length := by
  unfold one
  repeat' split
  · have := quoted_len l (i + 1) []
    simp only [List.length_nil] at this ⊢; omega
  · exact blob_len l (i + 1)
  all_goals exact cut_le _ _ _
theorem toks_text (l : List UInt8) (i : Nat) : ∀ t ∈ (toks l i).1.map (·.1), t.text.length ≤ l.length ∧ t.at_ < l.length := by
  intro t ht
  obtain ⟨y, hy, rfl⟩ := List.mem_map.1 ht
  obtain ⟨k, hk, rfl⟩ := List.mem_iff_getElem.1 hy
  obtain ⟨j, _, h2, h3, h4⟩ := toks_found l i k _ (List.getElem?_eq_getElem hk)
  rw [h4]
  exact ⟨one_len l j, by simp only; rw [one_at]; exact h2⟩

end Go.Proofs.YtaeplgakpacobaaDoor.Tok
