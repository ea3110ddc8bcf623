/- Walks: the law CalcCast. -/
import Derived.Test.YthdpgekjbkpomaaGreatDoorCalcH
import Derived.Test.YthdpgekjbkpomaaGreatDoorCalcS1
set_option maxRecDepth 100000
set_option linter.unusedVariables false
set_option linter.unusedSimpArgs false
namespace Go.Proofs.YthdpgekjbkpomaaGreatDoor
open Go.RowKit

set_option maxHeartbeats 2000000 in
theorem calc_cast_at (k n : Int) (t name : ByteArray) (w : World) (hn : name.size ≤ 1048576) (hL : Lits w) (ha : Val.inr n) (f : Int) (ok : Bool) (hf : Hid (Val.affOf name.data.toList = (f, ok))) (k2 n2 : Int) (t2 : ByteArray) (E : Int) (hv : Hid (Val.cast ⟨k, n, t.data.toList⟩ name.data.toList = (⟨k2, n2, t2.data.toList⟩, E))) :
    Calls Tryz.prog 8 #[.agg #[.int .i64 k, .int .i64 n, .string t], .string name] w fun e w' => e = .returned (.bool true) ∧ Below w.heap.size w w' := by
  have hS := start1 w (.int .i64 k) (.int .i64 n) (.string t) 24
  have hL0 : Lits (w.alloc (.cells #[.int .i64 k, .int .i64 n, .string t] 24)) := hL.alloc _
  replace ha := Lib.hid ha
  go_enter Tryz.func8, Tryz.ntmps8
  go_wp2_with (first
    | (go_at_call 28; refine (caffof_is _ _ hn _ _ hf).mono ?_; rintro e w1 ⟨rfl, hb1⟩; have hS1 := keep1 hS hb1; have hL1 := hL0.below hb1)
    | (go_at_call 29; refine (raffof_is _ _ hn _ _ hf).mono ?_; rintro e w2 ⟨rfl, hb2⟩; have hS2 := keep1 hS1 hb2; obtain ⟨cp0, cp1, cp2, cp3, cp4, cp5, hz2, hB2⟩ := id hS2; have hL2 := hL1.below hb2)
    | (go_at_call 30; refine (ccast_is _ _ _ _ _ hn hL2 ha.out _ _ _ _ hv).mono ?_; rintro e w3 ⟨rfl, hb3⟩; have hS3 := keep1 (keep1 hS2 hb3) (below_new w3 (.cells #[.int .i64 k2, .int .i64 n2, .string t2] 24)); obtain ⟨ca0, ca1, ca2, ca3, ca4, ca5, hz, hB⟩ := id hS3; have hL3 := (hL2.below hb3).alloc (.cells #[.int .i64 k2, .int .i64 n2, .string t2] 24))
    | (go_at_call 31; refine (rcast_is _ _ _ _ _ hn hL3 ha.out _ _ _ _ hv).mono ?_; rintro e w4 ⟨rfl, hb4⟩; have hS4 := keep1 (keep1 hS3 hb4) (below_new w4 (.cells #[.int .i64 k2, .int .i64 n2, .string t2] 24)); have hL4 := (hL3.below hb4).alloc (.cells #[.int .i64 k2, .int .i64 n2, .string t2] 24))
    | (go_at_call 13; refine (head3_any _ hL4).mono ?_; rintro e w5 ⟨rfl, hb5⟩; have hS5 := keep1 hS4 hb5; obtain ⟨cb0, cb1, cb2, cb3, cb4, cb5, hz5, hB5⟩ := id hS5; obtain ⟨x0, x1, x2, x3, x4, x5⟩ := cells3 ((hb4.trans ((below_new w4 (.cells #[.int .i64 k2, .int .i64 n2, .string t2] 24)).mono hb4.size)).trans (hb5.mono (Nat.le_trans hb4.size (below_new w4 (.cells #[.int .i64 k2, .int .i64 n2, .string t2] 24)).size))) (by simp) (heap_new w3 (.cells #[.int .i64 k2, .int .i64 n2, .string t2] 24)); obtain ⟨y0, y1, y2, y3, y4, y5⟩ := cells3 hb5 (by simp) (heap_new w4 (.cells #[.int .i64 k2, .int .i64 n2, .string t2] 24))))
  go_ret
  exact ⟨rfl, hB5⟩

theorem calc_cast (k n : Int) (t name : ByteArray) (w : World) (hn : name.size ≤ 1048576) (ha : Val.inr n) (hL : Lits w) :
    Calls Tryz.prog 8 #[.agg #[.int .i64 k, .int .i64 n, .string t], .string name] w fun e w' => e = .returned (.bool true) ∧ Below w.heap.size w w' :=
  calc_cast_at k n t name w hn hL ha (Val.affOf name.data.toList).1 (Val.affOf name.data.toList).2 (Lib.hid rfl) (Val.cast ⟨k, n, t.data.toList⟩ name.data.toList).1.kind (Val.cast ⟨k, n, t.data.toList⟩ name.data.toList).1.int (bs (Val.cast ⟨k, n, t.data.toList⟩ name.data.toList).1.text) (Val.cast ⟨k, n, t.data.toList⟩ name.data.toList).2 (Lib.hid rfl)

end Go.Proofs.YthdpgekjbkpomaaGreatDoor
