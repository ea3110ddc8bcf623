/- Walks: May of package value and of the reference of layer 2. -/
import Derived.Test.YtiiaamkmnbegdaaDoorVal
import Derived.Test.YtiiaamkmnbegdaaDoorBuild
namespace Go.Proofs.YtiiaamkmnbegdaaDoor
set_option maxRecDepth 100000
set_option linter.unusedVariables false
set_option linter.unusedSimpArgs false
open Go.RowKit

theorem may_any (k n : Int) (t : ByteArray) (w : World) :
    Calls Tryd.prog 27 #[.agg #[.int .i64 k, .int .i64 n, .string t]] w fun e w' => e = .returned (.bool (Val.may ⟨k, n, t.data.toList⟩)) ∧ Below w.heap.size w w' := by
  have hl : t.data.toList.length = t.size := rfl
  go_enter Tryd.func27, Tryd.ntmps27
  go_wp2
  all_goals go_ret
  all_goals (refine ⟨ret_bool ?_, (Below.refl _ w).alloc (Nat.le_refl _) _⟩; rw [Bool.eq_iff_iff])
  all_goals simp_all [Val.may, Lib.toList_data]
  all_goals (try omega)

theorem rmay_any (k n : Int) (t : ByteArray) (w : World) :
    Calls Tryd.prog 31 #[.agg #[.int .i64 k, .int .i64 n, .string t]] w fun e w' => e = .returned (.bool (Val.may ⟨k, n, t.data.toList⟩)) ∧ Below w.heap.size w w' := by
  have hl : t.data.toList.length = t.size := rfl
  go_enter Tryd.func31, Tryd.ntmps31
  go_wp2
  all_goals go_ret
  all_goals (refine ⟨ret_bool ?_, (Below.refl _ w).alloc (Nat.le_refl _) _⟩; rw [Bool.eq_iff_iff])
  all_goals simp_all [Val.may, Lib.toList_data]
  all_goals (try omega)

end Go.Proofs.YtiiaamkmnbegdaaDoor
