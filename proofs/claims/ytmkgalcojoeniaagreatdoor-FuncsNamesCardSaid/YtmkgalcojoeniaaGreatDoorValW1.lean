/- Walks: May of package value and of the reference of layer 2. -/
import Derived.Test.YtmkgalcojoeniaaGreatDoorPlain
import Derived.Test.YtmkgalcojoeniaaGreatDoorBuild
set_option maxRecDepth 100000
set_option linter.unusedVariables false
set_option linter.unusedSimpArgs false
namespace Go.Proofs.YtmkgalcojoeniaaGreatDoor
open Go.RowKit

theorem may_any (k n : Int) (t : ByteArray) (w : World) :
    Calls Tryz.prog 18 #[.agg #[.int .i64 k, .int .i64 n, .string t]] w fun e w' => e = .returned (.bool (Val.may ⟨k, n, t.data.toList⟩)) ∧ Below w.heap.size w w' := by
  have hl : t.data.toList.length = t.size := rfl
  go_enter Tryz.func18, Tryz.ntmps18
  go_wp2
  all_goals go_ret
  all_goals (refine ⟨ret_bool ?_, (Below.refl _ w).alloc (Nat.le_refl _) _⟩; rw [Bool.eq_iff_iff])
  all_goals simp_all [Val.may, Lib.toList_data]
  all_goals (try omega)

theorem rmay_any (k n : Int) (t : ByteArray) (w : World) :
    Calls Tryz.prog 57 #[.agg #[.int .i64 k, .int .i64 n, .string t]] w fun e w' => e = .returned (.bool (Val.may ⟨k, n, t.data.toList⟩)) ∧ Below w.heap.size w w' := by
  have hl : t.data.toList.length = t.size := rfl
  go_enter Tryz.func57, Tryz.ntmps57
  go_wp2
  all_goals go_ret
  all_goals (refine ⟨ret_bool ?_, (Below.refl _ w).alloc (Nat.le_refl _) _⟩; rw [Bool.eq_iff_iff])
  all_goals simp_all [Val.may, Lib.toList_data]
  all_goals (try omega)

theorem may_is {b : Bool} (k n : Int) (t : ByteArray) (w : World) (h : Hid (Val.may ⟨k, n, t.data.toList⟩ = b)) :
    Calls Tryz.prog 18 #[.agg #[.int .i64 k, .int .i64 n, .string t]] w fun e w' => e = .returned (.bool b) ∧ Below w.heap.size w w' :=
  (may_any k n t w).mono fun _ _ ⟨h1, h2⟩ => ⟨by rw [h1, h.out], h2⟩

theorem rmay_is {b : Bool} (k n : Int) (t : ByteArray) (w : World) (h : Hid (Val.may ⟨k, n, t.data.toList⟩ = b)) :
    Calls Tryz.prog 57 #[.agg #[.int .i64 k, .int .i64 n, .string t]] w fun e w' => e = .returned (.bool b) ∧ Below w.heap.size w w' :=
  (rmay_any k n t w).mono fun _ _ ⟨h1, h2⟩ => ⟨by rw [h1, h.out], h2⟩

end Go.Proofs.YtmkgalcojoeniaaGreatDoor
