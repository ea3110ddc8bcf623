/- Walks: the law CalcBinary. -/
import Derived.Test.YthdpgekjbkpomaaGreatDoorCalcH
import Derived.Test.YthdpgekjbkpomaaGreatDoorCalcR4
set_option maxRecDepth 100000
set_option linter.unusedVariables false
set_option linter.unusedSimpArgs false
namespace Go.Proofs.YthdpgekjbkpomaaGreatDoor
open Go.RowKit

set_option maxHeartbeats 2000000 in
theorem calc_binary_at (op ka na : Int) (ta : ByteArray) (kb nb : Int) (tb : ByteArray) (c : Int) (w : World) (hL : Lits w) (ha : Val.inr na) (hb : Val.inr nb) (k2 n2 : Int) (t2 : ByteArray) (E : Int) (hv : Hid (Val.binary op ⟨ka, na, ta.data.toList⟩ ⟨kb, nb, tb.data.toList⟩ c = (⟨k2, n2, t2.data.toList⟩, E))) :
    Calls Tryz.prog 5 #[.int .i64 op, .agg #[.int .i64 ka, .int .i64 na, .string ta], .agg #[.int .i64 kb, .int .i64 nb, .string tb], .int .i64 c] w fun e w' => e = .returned (.bool true) ∧ Below w.heap.size w w' := by
  have hS := start2 w (.int .i64 ka) (.int .i64 na) (.string ta) (.int .i64 kb) (.int .i64 nb) (.string tb) 24 24
  have hL0 : Lits ((w.alloc (.cells #[.int .i64 ka, .int .i64 na, .string ta] 24)).alloc (.cells #[.int .i64 kb, .int .i64 nb, .string tb] 24)) := (hL.alloc _).alloc _
  replace ha := Lib.hid ha
  replace hb := Lib.hid hb
  go_enter Tryz.func5, Tryz.ntmps5
  go_wp2_with (first
    | (go_at_call 20; refine (cbinary_is _ _ _ _ _ _ _ _ _ hL0 ha.out hb.out _ _ _ _ hv).mono ?_; rintro e w1 ⟨rfl, hb1⟩; have hS1 := keep2 (keep2 hS hb1) (below_new w1 (.cells #[.int .i64 k2, .int .i64 n2, .string t2] 24)); obtain ⟨ca0, ca1, ca2, ca3, ca4, ca5, ca6, ca7, ca8, ca9, ca10, ca11, hz, hB⟩ := id hS1; have hL1 := (hL0.below hb1).alloc (.cells #[.int .i64 k2, .int .i64 n2, .string t2] 24))
    | (go_at_call 21; refine (rbinary_is _ _ _ _ _ _ _ _ _ hL1 ha.out hb.out _ _ _ _ hv).mono ?_; rintro e w2 ⟨rfl, hb2⟩; have hS2 := keep2 (keep2 hS1 hb2) (below_new w2 (.cells #[.int .i64 k2, .int .i64 n2, .string t2] 24)); have hL2 := (hL1.below hb2).alloc (.cells #[.int .i64 k2, .int .i64 n2, .string t2] 24))
    | (go_at_call 13; refine (head3_any _ hL2).mono ?_; rintro e w3 ⟨rfl, hb3⟩; have hS3 := keep2 hS2 hb3; obtain ⟨cb0, cb1, cb2, cb3, cb4, cb5, cb6, cb7, cb8, cb9, cb10, cb11, hz3, hB3⟩ := id hS3; obtain ⟨x0, x1, x2, x3, x4, x5⟩ := cells3 ((hb2.trans ((below_new w2 (.cells #[.int .i64 k2, .int .i64 n2, .string t2] 24)).mono hb2.size)).trans (hb3.mono (Nat.le_trans hb2.size (below_new w2 (.cells #[.int .i64 k2, .int .i64 n2, .string t2] 24)).size))) (by simp) (heap_new w1 (.cells #[.int .i64 k2, .int .i64 n2, .string t2] 24)); obtain ⟨y0, y1, y2, y3, y4, y5⟩ := cells3 hb3 (by simp) (heap_new w2 (.cells #[.int .i64 k2, .int .i64 n2, .string t2] 24))))
  go_ret
  exact ⟨rfl, hB3⟩

theorem calc_binary (op ka na : Int) (ta : ByteArray) (kb nb : Int) (tb : ByteArray) (c : Int) (w : World) (ha : Val.inr na) (hb : Val.inr nb) (hL : Lits w) :
    Calls Tryz.prog 5 #[.int .i64 op, .agg #[.int .i64 ka, .int .i64 na, .string ta], .agg #[.int .i64 kb, .int .i64 nb, .string tb], .int .i64 c] w fun e w' => e = .returned (.bool true) ∧ Below w.heap.size w w' :=
  calc_binary_at op ka na ta kb nb tb c w hL ha hb (Val.binary op ⟨ka, na, ta.data.toList⟩ ⟨kb, nb, tb.data.toList⟩ c).1.kind (Val.binary op ⟨ka, na, ta.data.toList⟩ ⟨kb, nb, tb.data.toList⟩ c).1.int (bs (Val.binary op ⟨ka, na, ta.data.toList⟩ ⟨kb, nb, tb.data.toList⟩ c).1.text) (Val.binary op ⟨ka, na, ta.data.toList⟩ ⟨kb, nb, tb.data.toList⟩ c).2 (Lib.hid rfl)

end Go.Proofs.YthdpgekjbkpomaaGreatDoor
