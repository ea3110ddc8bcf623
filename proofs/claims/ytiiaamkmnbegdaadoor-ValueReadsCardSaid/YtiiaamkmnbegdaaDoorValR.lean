/- What the guess of a text's value holds, in plain Lean. -/
import Derived.Test.YtiiaamkmnbegdaaDoorVal
namespace Go.Proofs.YtiiaamkmnbegdaaDoor.Val
set_option maxRecDepth 100000
set_option linter.unusedVariables false
set_option linter.unusedSimpArgs false

theorem replaceK_len (old new : List UInt8) : ∀ (k : Nat) (s : List UInt8), (Lib.replaceK old new k s).length ≤ s.length + k * new.length
  | 0, s => by simp [Lib.replaceK]
  | k + 1, s => by
    rw [Lib.replaceK]
    split
    · omega
    · have := replaceK_len old new k (s.drop ((Lib.index s old).toNat + old.length))
      rw [List.length_append, List.length_append, List.length_take, Nat.add_mul, Nat.one_mul]
      rw [List.length_drop] at this
      omega
theorem replaceAll_len (s old new : List UInt8) : (Lib.replaceAll s old new).length ≤ s.length + (s.length + 1) * new.length := by
  rw [Lib.replaceAll, Lib.replace]
  split
  · omega
  · have h1 := replaceK_len old new (Lib.replaceNum s old (-1)) s
    have h2 : Lib.replaceNum s old (-1) ≤ s.length + 1 := by
      rw [Lib.replaceNum, if_pos (by omega)]; exact Lib.count_le s old
    have h3 : Lib.replaceNum s old (-1) * new.length ≤ (s.length + 1) * new.length := Nat.mul_le_mul_right _ h2
    omega
theorem unhex_len : ∀ (l acc : List UInt8), (Txt.unhex l acc).1.length ≤ acc.length + l.length
  | [], acc => by simp [Txt.unhex]
  | [_], acc => by simp [Txt.unhex]
  | c :: d :: r, acc => by
    rw [Txt.unhex]
    split
    · simp
    · have := unhex_len r (acc ++ [UInt8.ofNat ((Txt.nib c).toNat * 16 + (Txt.nib d).toNat)])
      simp at this ⊢; omega
theorem guess_fits (s : List UInt8) : (guess s).text.length ≤ 2 * s.length + 1 ∧ -9223372036854775808 ≤ (guess s).int ∧ (guess s).int ≤ 9223372036854775807 := by
  by_cases hok : ∃ n, Lib.parseIntB 64 s = .ok n
  · obtain ⟨n, hn⟩ := hok
    rw [guess_ok hn]
    refine ⟨by simp, ?_⟩
    simp only
    unfold Lib.parseIntB at hn
    split at hn
    · cases hn
    · simp only at hn
      split at hn
      · cases hn
      · cases hn
      · rename_i u _
        split at hn
        · cases hn
        · split at hn
          · cases hn
          · rename_i h1 h2
            cases hn
            split <;> simp_all <;> omega
  · have h : ∀ n, Lib.parseIntB 64 s ≠ .ok n := fun n hn => hok ⟨n, hn⟩
    rw [guess_else h]
    have hc : ∀ i e, (Tok.cut s i e).length ≤ s.length := fun i e => by simp [Tok.cut]; omega
    split
    · refine ⟨?_, by simp, by simp⟩
      have h1 := replaceAll_len (Tok.cut s 1 (s.length - 1)) [39, 39] [39]
      have h2 := hc 1 (s.length - 1)
      simp only [List.length_cons, List.length_nil] at h1 ⊢
      omega
    · split
      · refine ⟨?_, by simp, by simp⟩
        have h1 := unhex_len (Tok.cut s 2 (s.length - 1)) []
        have h2 := hc 2 (s.length - 1)
        simp only [List.length_nil] at h1 ⊢
        omega
      · simp [zero]

end Go.Proofs.YtiiaamkmnbegdaaDoor.Val
