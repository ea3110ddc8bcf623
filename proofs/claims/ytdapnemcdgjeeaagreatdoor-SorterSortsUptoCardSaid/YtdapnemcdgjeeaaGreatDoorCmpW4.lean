/- Walks: Cmp of the program and of the reference. -/
import Derived.Test.YtdapnemcdgjeeaaGreatDoorCmpA
import Derived.Deep.RegionHeld3
set_option maxRecDepth 100000
set_option linter.unusedVariables false
set_option linter.unusedSimpArgs false
namespace Go.Proofs.YtdapnemcdgjeeaaGreatDoor
open Go.RowKit

theorem keepT {w W W' : World} {ka na : Int} {ta : ByteArray} {kb nb : Int} {tb : ByteArray} (h : W.cell? ⟨w.heap.size, 0, none⟩ = some (.int .i64 ka) ∧ W.cell? ⟨w.heap.size, 1, none⟩ = some (.int .i64 na) ∧ W.cell? ⟨w.heap.size, 2, none⟩ = some (.string ta) ∧ W.cell? ⟨w.heap.size + 1, 0, none⟩ = some (.int .i64 kb) ∧ W.cell? ⟨w.heap.size + 1, 1, none⟩ = some (.int .i64 nb) ∧ W.cell? ⟨w.heap.size + 1, 2, none⟩ = some (.string tb) ∧ w.heap.size + 1 < W.heap.size ∧ Below w.heap.size w W) (hb : Below W.heap.size W W') : W'.cell? ⟨w.heap.size, 0, none⟩ = some (.int .i64 ka) ∧ W'.cell? ⟨w.heap.size, 1, none⟩ = some (.int .i64 na) ∧ W'.cell? ⟨w.heap.size, 2, none⟩ = some (.string ta) ∧ W'.cell? ⟨w.heap.size + 1, 0, none⟩ = some (.int .i64 kb) ∧ W'.cell? ⟨w.heap.size + 1, 1, none⟩ = some (.int .i64 nb) ∧ W'.cell? ⟨w.heap.size + 1, 2, none⟩ = some (.string tb) ∧ w.heap.size + 1 < W'.heap.size ∧ Below w.heap.size w W' :=
  have l0 : w.heap.size < W.heap.size := Nat.lt_of_succ_lt h.2.2.2.2.2.2.1
  have l1 : w.heap.size + 1 < W.heap.size := h.2.2.2.2.2.2.1
  ⟨(hb.cell (p := ⟨w.heap.size, 0, none⟩) l0).trans h.1, (hb.cell (p := ⟨w.heap.size, 1, none⟩) l0).trans h.2.1, (hb.cell (p := ⟨w.heap.size, 2, none⟩) l0).trans h.2.2.1, (hb.cell (p := ⟨w.heap.size + 1, 0, none⟩) l1).trans h.2.2.2.1, (hb.cell (p := ⟨w.heap.size + 1, 1, none⟩) l1).trans h.2.2.2.2.1, (hb.cell (p := ⟨w.heap.size + 1, 2, none⟩) l1).trans h.2.2.2.2.2.1, Nat.lt_of_lt_of_le l1 hb.size, h.2.2.2.2.2.2.2.trans (hb.mono h.2.2.2.2.2.2.2.size)⟩
theorem keepT0 {w W : World} {ka na : Int} {ta : ByteArray} {kb nb : Int} {tb : ByteArray} (h : W.cell? ⟨w.heap.size, 0, none⟩ = some (.int .i64 ka) ∧ W.cell? ⟨w.heap.size, 1, none⟩ = some (.int .i64 na) ∧ W.cell? ⟨w.heap.size, 2, none⟩ = some (.string ta) ∧ W.cell? ⟨w.heap.size + 1, 0, none⟩ = some (.int .i64 kb) ∧ W.cell? ⟨w.heap.size + 1, 1, none⟩ = some (.int .i64 nb) ∧ W.cell? ⟨w.heap.size + 1, 2, none⟩ = some (.string tb) ∧ w.heap.size + 1 < W.heap.size ∧ Below w.heap.size w W) : W.drew.cell? ⟨w.heap.size, 0, none⟩ = some (.int .i64 ka) ∧ W.drew.cell? ⟨w.heap.size, 1, none⟩ = some (.int .i64 na) ∧ W.drew.cell? ⟨w.heap.size, 2, none⟩ = some (.string ta) ∧ W.drew.cell? ⟨w.heap.size + 1, 0, none⟩ = some (.int .i64 kb) ∧ W.drew.cell? ⟨w.heap.size + 1, 1, none⟩ = some (.int .i64 nb) ∧ W.drew.cell? ⟨w.heap.size + 1, 2, none⟩ = some (.string tb) ∧ w.heap.size + 1 < W.drew.heap.size ∧ Below w.heap.size w W.drew :=
  ⟨h.1, h.2.1, h.2.2.1, h.2.2.2.1, h.2.2.2.2.1, h.2.2.2.2.2.1, h.2.2.2.2.2.2.1, h.2.2.2.2.2.2.2.drew⟩

set_option maxHeartbeats 1000000 in
theorem vcmp_not1 (ka na : Int) (ta : ByteArray) (kb nb : Int) (tb : ByteArray) (c : Int) (w : World) (ha : Hid (Val.may ⟨ka, na, ta.data.toList⟩ = false)) :
    Calls Tryz.prog 65 #[.agg #[.int .i64 ka, .int .i64 na, .string ta], .agg #[.int .i64 kb, .int .i64 nb, .string tb], .int .i64 c] w (CmpP 0 w) := by
  go_enter Tryz.func65, Tryz.ntmps65
  go_wp2_with (go_at_call 50; refine (may_is _ _ _ _ (by assumption)).mono ?_; first
    | (have hq := hb1; rintro e w2 ⟨rfl, hb2⟩; have hb12 := hb1.trans (hb2.mono hb1.size); obtain ⟨c0, c1, c2, _, _, _⟩ := cells3 hb12 (two_lt _ _ _).1 (heap_two _ _ _).1; obtain ⟨d0, d1, d2, _, _, _⟩ := cells3 hb12 (two_lt _ _ _).2 (heap_two _ _ _).2; have hB := two_below _ _ _ hb12; have hZ : w.heap.size + 1 < w2.heap.size := Nat.lt_of_lt_of_le (two_lt _ _ _).2 hb12.size; clear hq hb1 hb2 hb12)
    | (rintro e w1 ⟨rfl, hb1⟩; obtain ⟨c0, c1, c2, _, _, _⟩ := cells3 hb1 (two_lt _ _ _).1 (heap_two _ _ _).1; obtain ⟨d0, d1, d2, _, _, _⟩ := cells3 hb1 (two_lt _ _ _).2 (heap_two _ _ _).2; have hB1 := two_below _ _ _ hb1))
  go_ret
  exact ⟨rfl, hB1⟩
set_option maxHeartbeats 1000000 in
theorem vcmp_not2 (ka na : Int) (ta : ByteArray) (kb nb : Int) (tb : ByteArray) (c : Int) (w : World) (ha : Hid (Val.may ⟨ka, na, ta.data.toList⟩ = true)) (hbm : Hid (Val.may ⟨kb, nb, tb.data.toList⟩ = false)) :
    Calls Tryz.prog 65 #[.agg #[.int .i64 ka, .int .i64 na, .string ta], .agg #[.int .i64 kb, .int .i64 nb, .string tb], .int .i64 c] w (CmpP 0 w) := by
  go_enter Tryz.func65, Tryz.ntmps65
  go_wp2_with (go_at_call 50; refine (may_is _ _ _ _ (by assumption)).mono ?_; first
    | (have hq := hb1; rintro e w2 ⟨rfl, hb2⟩; have hb12 := hb1.trans (hb2.mono hb1.size); obtain ⟨c0, c1, c2, _, _, _⟩ := cells3 hb12 (two_lt _ _ _).1 (heap_two _ _ _).1; obtain ⟨d0, d1, d2, _, _, _⟩ := cells3 hb12 (two_lt _ _ _).2 (heap_two _ _ _).2; have hB := two_below _ _ _ hb12; have hZ : w.heap.size + 1 < w2.heap.size := Nat.lt_of_lt_of_le (two_lt _ _ _).2 hb12.size; clear hq hb1 hb2 hb12)
    | (rintro e w1 ⟨rfl, hb1⟩; obtain ⟨c0, c1, c2, _, _, _⟩ := cells3 hb1 (two_lt _ _ _).1 (heap_two _ _ _).1; obtain ⟨d0, d1, d2, _, _, _⟩ := cells3 hb1 (two_lt _ _ _).2 (heap_two _ _ _).2; have hB1 := two_below _ _ _ hb1))
  go_ret
  exact ⟨rfl, hB⟩

set_option maxHeartbeats 1000000 in
theorem rcmp_not1 (ka na : Int) (ta : ByteArray) (kb nb : Int) (tb : ByteArray) (c : Int) (w : World) (ha : Hid (Val.may ⟨ka, na, ta.data.toList⟩ = false)) :
    Calls Tryz.prog 59 #[.agg #[.int .i64 ka, .int .i64 na, .string ta], .agg #[.int .i64 kb, .int .i64 nb, .string tb], .int .i64 c] w (CmpP 0 w) := by
  go_enter Tryz.func59, Tryz.ntmps59
  go_wp2_with (go_at_call 29; refine (rmay_is _ _ _ _ (by assumption)).mono ?_; first
    | (have hq := hb1; rintro e w2 ⟨rfl, hb2⟩; have hb12 := hb1.trans (hb2.mono hb1.size); obtain ⟨c0, c1, c2, _, _, _⟩ := cells3 hb12 (two_lt _ _ _).1 (heap_two _ _ _).1; obtain ⟨d0, d1, d2, _, _, _⟩ := cells3 hb12 (two_lt _ _ _).2 (heap_two _ _ _).2; have hB := two_below _ _ _ hb12; have hZ : w.heap.size + 1 < w2.heap.size := Nat.lt_of_lt_of_le (two_lt _ _ _).2 hb12.size; clear hq hb1 hb2 hb12)
    | (rintro e w1 ⟨rfl, hb1⟩; obtain ⟨c0, c1, c2, _, _, _⟩ := cells3 hb1 (two_lt _ _ _).1 (heap_two _ _ _).1; obtain ⟨d0, d1, d2, _, _, _⟩ := cells3 hb1 (two_lt _ _ _).2 (heap_two _ _ _).2; have hB1 := two_below _ _ _ hb1))
  go_ret
  exact ⟨rfl, hB1⟩
set_option maxHeartbeats 1000000 in
theorem rcmp_not2 (ka na : Int) (ta : ByteArray) (kb nb : Int) (tb : ByteArray) (c : Int) (w : World) (ha : Hid (Val.may ⟨ka, na, ta.data.toList⟩ = true)) (hbm : Hid (Val.may ⟨kb, nb, tb.data.toList⟩ = false)) :
    Calls Tryz.prog 59 #[.agg #[.int .i64 ka, .int .i64 na, .string ta], .agg #[.int .i64 kb, .int .i64 nb, .string tb], .int .i64 c] w (CmpP 0 w) := by
  go_enter Tryz.func59, Tryz.ntmps59
  go_wp2_with (go_at_call 29; refine (rmay_is _ _ _ _ (by assumption)).mono ?_; first
    | (have hq := hb1; rintro e w2 ⟨rfl, hb2⟩; have hb12 := hb1.trans (hb2.mono hb1.size); obtain ⟨c0, c1, c2, _, _, _⟩ := cells3 hb12 (two_lt _ _ _).1 (heap_two _ _ _).1; obtain ⟨d0, d1, d2, _, _, _⟩ := cells3 hb12 (two_lt _ _ _).2 (heap_two _ _ _).2; have hB := two_below _ _ _ hb12; have hZ : w.heap.size + 1 < w2.heap.size := Nat.lt_of_lt_of_le (two_lt _ _ _).2 hb12.size; clear hq hb1 hb2 hb12)
    | (rintro e w1 ⟨rfl, hb1⟩; obtain ⟨c0, c1, c2, _, _, _⟩ := cells3 hb1 (two_lt _ _ _).1 (heap_two _ _ _).1; obtain ⟨d0, d1, d2, _, _, _⟩ := cells3 hb1 (two_lt _ _ _).2 (heap_two _ _ _).2; have hB1 := two_below _ _ _ hb1))
  go_ret
  exact ⟨rfl, hB⟩

set_option maxHeartbeats 1000000 in
theorem vcmp_kind (ka na : Int) (ta : ByteArray) (kb nb : Int) (tb : ByteArray) (c : Int) (w : World) (ha : Hid (Val.may ⟨ka, na, ta.data.toList⟩ = true)) (hbm : Hid (Val.may ⟨kb, nb, tb.data.toList⟩ = true)) (hk : (ka != kb) = true) (r : Int) (hr : Hid (Lib.compareInt ka kb = r)) :
    Calls Tryz.prog 65 #[.agg #[.int .i64 ka, .int .i64 na, .string ta], .agg #[.int .i64 kb, .int .i64 nb, .string tb], .int .i64 c] w (CmpP r w) := by
  go_enter Tryz.func65, Tryz.ntmps65
  go_wp2_with (first
    | (go_at_call 50; refine (may_is _ _ _ _ (by assumption)).mono ?_; first
    | (have hq := hb1; rintro e w2 ⟨rfl, hb2⟩; have hb12 := hb1.trans (hb2.mono hb1.size); obtain ⟨c0, c1, c2, _, _, _⟩ := cells3 hb12 (two_lt _ _ _).1 (heap_two _ _ _).1; obtain ⟨d0, d1, d2, _, _, _⟩ := cells3 hb12 (two_lt _ _ _).2 (heap_two _ _ _).2; have hB := two_below _ _ _ hb12; have hZ : w.heap.size + 1 < w2.heap.size := Nat.lt_of_lt_of_le (two_lt _ _ _).2 hb12.size; clear hq hb1 hb2 hb12)
    | (rintro e w1 ⟨rfl, hb1⟩; obtain ⟨c0, c1, c2, _, _, _⟩ := cells3 hb1 (two_lt _ _ _).1 (heap_two _ _ _).1; obtain ⟨d0, d1, d2, _, _, _⟩ := cells3 hb1 (two_lt _ _ _).2 (heap_two _ _ _).2; have hB1 := two_below _ _ _ hb1))
    | (go_at_call 89; refine (compare_kind _ _ _).mono ?_; rintro e w3 ⟨rfl, rfl⟩; rw [hr.out]))
  go_ret
  exact ⟨rfl, hB⟩
set_option maxHeartbeats 1000000 in
theorem vcmp_text (ka na : Int) (ta : ByteArray) (kb nb : Int) (tb : ByteArray) (c : Int) (w : World) (ha : Hid (Val.may ⟨ka, na, ta.data.toList⟩ = true)) (hbm : Hid (Val.may ⟨kb, nb, tb.data.toList⟩ = true)) (hk : (ka != kb) = false) (hk2 : (ka == 2) = true) (hsa : ta.size ≤ 1048576) (hsb : tb.size ≤ 1048576) (r : Int) (hr : Hid (Val.texts ta.data.toList tb.data.toList c = r)) :
    Calls Tryz.prog 65 #[.agg #[.int .i64 ka, .int .i64 na, .string ta], .agg #[.int .i64 kb, .int .i64 nb, .string tb], .int .i64 c] w (CmpP r w) := by
  go_enter Tryz.func65, Tryz.ntmps65
  go_wp2_with (first
    | (go_at_call 50; refine (may_is _ _ _ _ (by assumption)).mono ?_; first
    | (have hq := hb1; rintro e w2 ⟨rfl, hb2⟩; have hb12 := hb1.trans (hb2.mono hb1.size); obtain ⟨c0, c1, c2, _, _, _⟩ := cells3 hb12 (two_lt _ _ _).1 (heap_two _ _ _).1; obtain ⟨d0, d1, d2, _, _, _⟩ := cells3 hb12 (two_lt _ _ _).2 (heap_two _ _ _).2; have hB := two_below _ _ _ hb12; have hZ : w.heap.size + 1 < w2.heap.size := Nat.lt_of_lt_of_le (two_lt _ _ _).2 hb12.size; clear hq hb1 hb2 hb12)
    | (rintro e w1 ⟨rfl, hb1⟩; obtain ⟨c0, c1, c2, _, _, _⟩ := cells3 hb1 (two_lt _ _ _).1 (heap_two _ _ _).1; obtain ⟨d0, d1, d2, _, _, _⟩ := cells3 hb1 (two_lt _ _ _).2 (heap_two _ _ _).2; have hB1 := two_below _ _ _ hb1))
    | (go_at_call 90; refine (vtexts_any _ _ _ _ hsa hsb).mono ?_; rintro e w3 ⟨rfl, hb3⟩; rw [hr.out]))
  go_ret
  exact ⟨rfl, hB.trans (hb3.mono hB.size)⟩
set_option maxHeartbeats 2000000 in
theorem vcmp_else (ka na : Int) (ta : ByteArray) (kb nb : Int) (tb : ByteArray) (c : Int) (w : World) (ha : Hid (Val.may ⟨ka, na, ta.data.toList⟩ = true)) (hbm : Hid (Val.may ⟨kb, nb, tb.data.toList⟩ = true)) (hk : (ka != kb) = false) (hk2 : (ka == 2) = false) (x y r : Int) (hx : Hid (Lib.compareInt na nb = x)) (hy : Hid (Lib.compareBytes ta.data.toList tb.data.toList = y)) (hr : Hid ((if x ≠ 0 then x else y) = r)) :
    Calls Tryz.prog 65 #[.agg #[.int .i64 ka, .int .i64 na, .string ta], .agg #[.int .i64 kb, .int .i64 nb, .string tb], .int .i64 c] w (CmpP r w) := by
  go_enter Tryz.func65, Tryz.ntmps65
  go_wp2_with (go_at_call 50; refine (may_is _ _ _ _ (by assumption)).mono ?_; first
    | (have hq := hb1; rintro e w2 ⟨rfl, hb2⟩; have hb12 := hb1.trans (hb2.mono hb1.size); obtain ⟨c0, c1, c2, _, _, _⟩ := cells3 hb12 (two_lt _ _ _).1 (heap_two _ _ _).1; obtain ⟨d0, d1, d2, _, _, _⟩ := cells3 hb12 (two_lt _ _ _).2 (heap_two _ _ _).2; have hB := two_below _ _ _ hb12; have hZ : w.heap.size + 1 < w2.heap.size := Nat.lt_of_lt_of_le (two_lt _ _ _).2 hb12.size; clear hq hb1 hb2 hb12)
    | (rintro e w1 ⟨rfl, hb1⟩; obtain ⟨c0, c1, c2, _, _, _⟩ := cells3 hb1 (two_lt _ _ _).1 (heap_two _ _ _).1; obtain ⟨d0, d1, d2, _, _, _⟩ := cells3 hb1 (two_lt _ _ _).2 (heap_two _ _ _).2; have hB1 := two_below _ _ _ hb1))
  have H0 : w2.cell? ⟨w.heap.size, 0, none⟩ = some (.int .i64 ka) ∧ w2.cell? ⟨w.heap.size, 1, none⟩ = some (.int .i64 na) ∧ w2.cell? ⟨w.heap.size, 2, none⟩ = some (.string ta) ∧ w2.cell? ⟨w.heap.size + 1, 0, none⟩ = some (.int .i64 kb) ∧ w2.cell? ⟨w.heap.size + 1, 1, none⟩ = some (.int .i64 nb) ∧ w2.cell? ⟨w.heap.size + 1, 2, none⟩ = some (.string tb) ∧ w.heap.size + 1 < w2.heap.size ∧ Below w.heap.size w w2 := ⟨c0, c1, c2, d0, d1, d2, hZ, hB⟩

  go_region_held3 (fun W => W.cell? ⟨w.heap.size, 0, none⟩ = some (.int .i64 ka) ∧ W.cell? ⟨w.heap.size, 1, none⟩ = some (.int .i64 na) ∧ W.cell? ⟨w.heap.size, 2, none⟩ = some (.string ta) ∧ W.cell? ⟨w.heap.size + 1, 0, none⟩ = some (.int .i64 kb) ∧ W.cell? ⟨w.heap.size + 1, 1, none⟩ = some (.int .i64 nb) ∧ W.cell? ⟨w.heap.size + 1, 2, none⟩ = some (.string tb) ∧ w.heap.size + 1 < W.heap.size ∧ Below w.heap.size w W) (first | exact keepT (by assumption) (by assumption) | exact keepT0 (by assumption) | exact keepT (by assumption) ((Below.refl _ _).alloc (Nat.le_refl _) _) | exact keepT H0 (((Below.refl _ _).alloc (Nat.le_refl _) _).drew)) (first
    | (go_at_call 91; refine (compare_i64 _ _ _).mono ?_; rintro e w3 ⟨rfl, rfl⟩; rw [hx.out])
    | (go_at_call 92; refine (Tryz.strings_Compare _ _ _).mono ?_; rintro e w3 ⟨rfl, hww⟩; obtain rfl := hww.symm; rw [hy.out])
    | (go_at_call 73; refine (or_any _ x y _ _ (by simp) (by simp)).mono ?_; rintro e w3 ⟨rfl, rfl⟩; rw [hr.out]))
  all_goals (
    go_wp2
    go_ret
    exact ⟨rfl, by rename_i hh; exact hh.2.2.2.2.2.2.2⟩)

end Go.Proofs.YtdapnemcdgjeeaaGreatDoor
