/- Walks: Equal of package value. -/
import Derived.Test.YtdapnemcdgjeeaaGreatDoorCmpW6
set_option maxRecDepth 100000
set_option linter.unusedVariables false
set_option linter.unusedSimpArgs false
namespace Go.Proofs.YtdapnemcdgjeeaaGreatDoor
open Go.RowKit

theorem vequal_is (a b : ByteArray) (c : Int) (w : World) (ha : a.size ≤ 1048576) (hb : b.size ≤ 1048576) (q : Bool) (hq : Hid ((Val.texts a.data.toList b.data.toList c == 0) = q)) :
    Calls Tryz.prog 76 #[.string a, .string b, .int .i64 c] w fun e w' => e = .returned (.bool q) ∧ Below w.heap.size w w' := by
  go_enter Tryz.func76, Tryz.ntmps76
  go_wp2_with (go_at_call 90; refine (vtexts_any _ _ _ _ ha hb).mono ?_; rintro e w1 ⟨rfl, hb1⟩; have hq' := hq.out)
  go_ret
  exact ⟨by first | rfl | exact ret_bool rfl, hb1⟩

end Go.Proofs.YtdapnemcdgjeeaaGreatDoor
