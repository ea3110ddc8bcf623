/- Walks: the law CalcUnary. -/
import Derived.Test.YthdpgekjbkpomaaGreatDoorCalcH
import Derived.Test.YthdpgekjbkpomaaGreatDoorCalcR4
set_option maxRecDepth 100000
set_option linter.unusedVariables false
set_option linter.unusedSimpArgs false
namespace Go.Proofs.YthdpgekjbkpomaaGreatDoor
open Go.RowKit

set_option maxHeartbeats 2000000 in
theorem calc_unary_at (op k n : Int) (t : ByteArray) (w : World) (hL : Lits w) (ha : Val.inr n) (k2 n2 : Int) (t2 : ByteArray) (E : Int) (hv : Hid (Val.unary op ⟨k, n, t.data.toList⟩ = (⟨k2, n2, t2.data.toList⟩, E))) :
    Calls Tryz.prog 4 #[.int .i64 op, .agg #[.int .i64 k, .int .i64 n, .string t]] w fun e w' => e = .returned (.bool true) ∧ Below w.heap.size w w' := by
  have hS := start1 w (.int .i64 k) (.int .i64 n) (.string t) 24
  have hL0 : Lits (w.alloc (.cells #[.int .i64 k, .int .i64 n, .string t] 24)) := hL.alloc _
  replace ha := Lib.hid ha
  go_enter Tryz.func4, Tryz.ntmps4
  go_wp2_with (first
    | (go_at_call 18; refine (cunary_is _ _ _ _ _ hL0 ha.out _ _ _ _ hv).mono ?_; rintro e w1 ⟨rfl, hb1⟩; have hS1 := keep1 (keep1 hS hb1) (below_new w1 (.cells #[.int .i64 k2, .int .i64 n2, .string t2] 24)); obtain ⟨ca0, ca1, ca2, ca3, ca4, ca5, hz, hB⟩ := id hS1; have hL1 := (hL0.below hb1).alloc (.cells #[.int .i64 k2, .int .i64 n2, .string t2] 24))
    | (go_at_call 19; refine (runary_is _ _ _ _ _ hL1 ha.out _ _ _ _ hv).mono ?_; rintro e w2 ⟨rfl, hb2⟩; have hS2 := keep1 (keep1 hS1 hb2) (below_new w2 (.cells #[.int .i64 k2, .int .i64 n2, .string t2] 24)); have hL2 := (hL1.below hb2).alloc (.cells #[.int .i64 k2, .int .i64 n2, .string t2] 24))
    | (go_at_call 13; refine (head3_any _ hL2).mono ?_; rintro e w3 ⟨rfl, hb3⟩; have hS3 := keep1 hS2 hb3; obtain ⟨cb0, cb1, cb2, cb3, cb4, cb5, hz3, hB3⟩ := id hS3; obtain ⟨x0, x1, x2, x3, x4, x5⟩ := cells3 ((hb2.trans ((below_new w2 (.cells #[.int .i64 k2, .int .i64 n2, .string t2] 24)).mono hb2.size)).trans (hb3.mono (Nat.le_trans hb2.size (below_new w2 (.cells #[.int .i64 k2, .int .i64 n2, .string t2] 24)).size))) (by simp) (heap_new w1 (.cells #[.int .i64 k2, .int .i64 n2, .string t2] 24)); obtain ⟨y0, y1, y2, y3, y4, y5⟩ := cells3 hb3 (by simp) (heap_new w2 (.cells #[.int .i64 k2, .int .i64 n2, .string t2] 24))))
  go_ret
  exact ⟨rfl, hB3⟩

theorem calc_unary (op k n : Int) (t : ByteArray) (w : World) (ha : Val.inr n) (hL : Lits w) :
    Calls Tryz.prog 4 #[.int .i64 op, .agg #[.int .i64 k, .int .i64 n, .string t]] w fun e w' => e = .returned (.bool true) ∧ Below w.heap.size w w' :=
  calc_unary_at op k n t w hL ha (Val.unary op ⟨k, n, t.data.toList⟩).1.kind (Val.unary op ⟨k, n, t.data.toList⟩).1.int (bs (Val.unary op ⟨k, n, t.data.toList⟩).1.text) (Val.unary op ⟨k, n, t.data.toList⟩).2 (Lib.hid rfl)

end Go.Proofs.YthdpgekjbkpomaaGreatDoor
