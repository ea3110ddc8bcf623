/- What the operators' values look like, for the walks. -/
import Derived.Test.YtmkgalcojoeniaaGreatDoorCalcWs
import Derived.Test.YtmkgalcojoeniaaGreatDoorPlain
set_option maxRecDepth 100000
set_option linter.unusedVariables false
set_option linter.unusedSimpArgs false
namespace Go.Proofs.YtmkgalcojoeniaaGreatDoor
open Go.RowKit

theorem zero_form {k n : Int} {t : ByteArray} (h : Val.zero = ⟨k, n, t.data.toList⟩) : k = 0 ∧ n = 0 ∧ t = ⟨#[]⟩ := by
  simp only [Val.zero, Val.V.mk.injEq] at h
  exact ⟨h.1.symm, h.2.1.symm, text_nil h.2.2.symm⟩
theorem num_form {k n : Int} {t : ByteArray} (h : Val.inr n) : ∃ k' n', Val.num ⟨k, n, t.data.toList⟩ = ⟨k', n', []⟩ ∧ Val.inr n' ∧ (k' = 0 ∧ n' = 0 ∨ k' = 1) ∧ Val.num ⟨k', n', []⟩ = ⟨k', n', []⟩ := by
  rcases Val.num_cases (v := ⟨k, n, t.data.toList⟩) h with h1 | ⟨m, h1, h2, h3⟩
  · exact ⟨0, 0, h1, ⟨by decide, by decide⟩, .inl ⟨rfl, rfl⟩, by decide⟩
  · exact ⟨1, m, h1, ⟨h2, h3⟩, .inr rfl, Val.num_mk m⟩
end Go.Proofs.YtmkgalcojoeniaaGreatDoor
