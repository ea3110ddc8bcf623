/- What truth values look like, for the walk of the law CalcLogic. -/
import Derived.Test.YthdpgekjbkpomaaGreatDoorCalcM
set_option maxRecDepth 100000
set_option linter.unusedVariables false
set_option linter.unusedSimpArgs false
namespace Go.Proofs.YthdpgekjbkpomaaGreatDoor
open Go.RowKit

theorem three_form {m : Int} (h : m = -1 ∨ m = 0 ∨ m = 1) : ∃ k n, Val.three m = ⟨k, n, []⟩ ∧ Val.inr n := by
  rcases h with rfl | rfl | rfl
  · exact ⟨0, 0, rfl, by decide, by decide⟩
  · exact ⟨1, 0, rfl, by decide, by decide⟩
  · exact ⟨1, 1, rfl, by decide, by decide⟩
theorem nott_form {v : Val.V} (h : Val.may v = true) : ∃ k n, Val.nott v = ⟨k, n, []⟩ ∧ Val.inr n := by
  rw [Val.nott_may h]
  refine three_form ?_
  rcases Val.tru_cases v with h | h | h <;> rw [h] <;> decide
theorem logic_form {s x y : Int} (hs : s = 0 ∨ s = 1) : ∃ k n, Val.logic s x y = ⟨k, n, []⟩ ∧ Val.inr n := by
  unfold Val.logic
  split
  · exact three_form (by omega)
  · split
    · exact ⟨0, 0, rfl, by decide, by decide⟩
    · exact three_form (by omega)
theorem pbool_form (b : Bool) : ∃ k n, Val.pbool b = ⟨k, n, []⟩ ∧ Val.inr n := by
  cases b
  · exact ⟨1, 0, rfl, by decide, by decide⟩
  · exact ⟨1, 1, rfl, by decide, by decide⟩
theorem two_form {op : Int} {a b : Val.V} {c : Int} (h : 13 ≤ op ∧ op ≤ 22) (ha : Val.may a = true) (hb : Val.may b = true) : ∃ k n, Val.two op a b c = ⟨k, n, []⟩ ∧ Val.inr n := by
  rw [Val.two_makes (by omega) ha hb, Val.makes, if_neg (by omega), if_neg (by omega)]
  split
  · exact logic_form (.inl rfl)
  · split
    · exact logic_form (.inr rfl)
    · split
      · exact ⟨0, 0, rfl, by decide, by decide⟩
      · exact pbool_form _

end Go.Proofs.YthdpgekjbkpomaaGreatDoor
