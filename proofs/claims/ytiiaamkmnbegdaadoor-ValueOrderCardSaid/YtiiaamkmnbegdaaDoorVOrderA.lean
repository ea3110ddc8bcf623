/- The law ValueOrder, of values of any size. -/
import Derived.Test.YtiiaamkmnbegdaaDoorVOrder
import Derived.Test.YtiiaamkmnbegdaaDoorPrtIt
namespace Go.Proofs.YtiiaamkmnbegdaaDoor
set_option maxRecDepth 100000
set_option linter.unusedVariables false
set_option linter.unusedSimpArgs false
open Go.RowKit

theorem value_order_all (ka na : Int) (ta : ByteArray) (kb nb : Int) (tb : ByteArray) (kd nd : Int) (td : ByteArray) (c : Int) (w : World) (hL : Lits w) :
    Calls Tryd.prog 11 #[.agg #[.int .i64 ka, .int .i64 na, .string ta], .agg #[.int .i64 kb, .int .i64 nb, .string tb], .agg #[.int .i64 kd, .int .i64 nd, .string td], .int .i64 c] w fun e w' => e = .returned (.bool true) ∧ Below w.heap.size w w' := by
  cases hma : Val.may ⟨ka, na, ta.data.toList⟩ with
  | false => exact vorder_not1 ka na ta kb nb tb kd nd td c w hL (Lib.hid hma)
  | true =>
    cases hmb : Val.may ⟨kb, nb, tb.data.toList⟩ with
    | false => exact vorder_not2 ka na ta kb nb tb kd nd td c w hL (Lib.hid hma) (Lib.hid hmb)
    | true =>
      cases hmd : Val.may ⟨kd, nd, td.data.toList⟩ with
      | false => exact vorder_not3 ka na ta kb nb tb kd nd td c w hL (Lib.hid hma) (Lib.hid hmb) (Lib.hid hmd)
      | true => exact value_order ka na ta kb nb tb kd nd td c w (may_size hma) (may_size hmb) (may_size hmd) hL

end Go.Proofs.YtiiaamkmnbegdaaDoor
