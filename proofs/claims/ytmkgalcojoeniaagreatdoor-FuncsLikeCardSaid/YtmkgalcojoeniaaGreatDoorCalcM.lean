/- What the operators' values look like, for the walks. -/
import Derived.Test.YtmkgalcojoeniaaGreatDoorCalcWs
import Derived.Test.YtmkgalcojoeniaaGreatDoorPlain
set_option maxRecDepth 100000
set_option linter.unusedVariables false
set_option linter.unusedSimpArgs false
namespace Go.Proofs.YtmkgalcojoeniaaGreatDoor
open Go.RowKit

theorem zero_form {k n : Int} {t : ByteArray} (h : Val.zero = ⟨k, n, t.data.toList⟩) : k = 0 ∧ n = 0 ∧ t = ⟨#[]⟩ := by
  simp only [Val.zero, Val.V.mk.injEq] at h
  exact ⟨h.1.symm, h.2.1.symm, text_nil h.2.2.symm⟩
theorem mk_zero' {k n : Int} (h : Val.zero = ⟨k, n, []⟩) : k = 0 ∧ n = 0 := by
  simp only [Val.zero, Val.V.mk.injEq, and_true] at h
  exact ⟨h.1.symm, h.2.symm⟩
theorem num_form {k n : Int} {t : ByteArray} (h : Val.inr n) : ∃ k' n', Val.num ⟨k, n, t.data.toList⟩ = ⟨k', n', []⟩ ∧ Val.inr n' ∧ (k' = 0 ∧ n' = 0 ∨ k' = 1) ∧ Val.num ⟨k', n', []⟩ = ⟨k', n', []⟩ := by
  rcases Val.num_cases (v := ⟨k, n, t.data.toList⟩) h with h1 | ⟨m, h1, h2, h3⟩
  · exact ⟨0, 0, h1, ⟨by decide, by decide⟩, .inl ⟨rfl, rfl⟩, by decide⟩
  · exact ⟨1, m, h1, ⟨h2, h3⟩, .inr rfl, Val.num_mk m⟩
theorem pshow_may {k n : Int} {t : ByteArray} (hm : Val.may ⟨k, n, t.data.toList⟩ = true) (hn : Val.inr n) (h0 : k ≠ 0) : ∃ s : ByteArray, Val.pshow ⟨k, n, t.data.toList⟩ = ⟨2, 0, s.data.toList⟩ ∧ s.size ≤ 400 := by
  by_cases h1 : k = 1
  · exact ⟨bs (Lib.itoa n), Val.pshow_int hm h1, itoa_size hn.1 hn.2⟩
  · exact ⟨t, Val.pshow_text hm h0 h1, may_len hm⟩
theorem append_data (a b : ByteArray) : (a ++ b).data.toList = a.data.toList ++ b.data.toList := by simp
theorem makes_cmp {op : Int} {a b : Val.V} {c : Int} (h : 13 ≤ op ∧ op ≤ 18) : Val.makes op a b c = if a.kind = 0 ∨ b.kind = 0 then Val.zero else Val.pbool (Val.compare op (Val.cmp a b c)) := by
  rw [Val.makes, if_neg (by omega), if_neg (by omega), if_neg (by omega), if_neg (by omega)]
  by_cases h1 : a.kind = 0 ∨ b.kind = 0
  · rw [if_pos ⟨by omega, h1⟩, if_pos h1]
  · rw [if_neg (fun h => h1 h.2), if_neg h1]
theorem makes_is {op : Int} {a b : Val.V} {c : Int} (h : op = 19 ∨ op = 20) : Val.makes op a b c = Val.pbool (Val.compare op (Val.cmp a b c)) := by
  rw [Val.makes, if_neg (by omega), if_neg (by omega), if_neg (by omega), if_neg (by omega), if_neg (by omega)]
theorem makes_empty {op : Int} (hop : op ≠ 12) (a b : Val.V) (c : Int) (ha : Val.fits a) (hb : Val.fits b) : (Val.makes op a b c).text = [] := by
  have hz : Val.zero.text = [] := rfl
  have hf : ∀ n, (Val.fit n).text = [] := by intro n; unfold Val.fit; split <;> rfl
  have ht : ∀ n, (Val.three n).text = [] := by intro n; unfold Val.three; split <;> rfl
  have hl : ∀ s x y, (Val.logic s x y).text = [] := by
    intro s x y
    unfold Val.logic
    split
    · exact ht _
    · split
      · rfl
      · exact ht _
  have har : ∀ o x y, (Val.arith o x y).text = [] := by
    intro o x y
    unfold Val.arith
    repeat' split
    all_goals first | rfl | exact hf _
  rw [Val.makes]
  by_cases h1 : op ≤ 11
  · rw [if_pos h1]
    split
    · rfl
    · exact har _ _ _
  · rw [if_neg h1, if_neg hop]
    split
    · exact hl _ _ _
    · split
      · exact hl _ _ _
      · split <;> rfl

end Go.Proofs.YtmkgalcojoeniaaGreatDoor
