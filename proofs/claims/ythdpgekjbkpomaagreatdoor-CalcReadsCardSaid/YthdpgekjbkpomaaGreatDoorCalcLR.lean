/- Walks: the law CalcReads. -/
import Derived.Test.YthdpgekjbkpomaaGreatDoorCalcH
import Derived.Test.YthdpgekjbkpomaaGreatDoorCalcR2
set_option maxRecDepth 100000
set_option linter.unusedVariables false
set_option linter.unusedSimpArgs false
namespace Go.Proofs.YthdpgekjbkpomaaGreatDoor
open Go.RowKit

theorem bBelow1 {w W : World} {x00 x01 x02 : Value} (h : W.cell? ⟨w.heap.size, 0, none⟩ = some x00 ∧ W.cell? ⟨w.heap.size, 1, none⟩ = some x01 ∧ W.cell? ⟨w.heap.size, 2, none⟩ = some x02 ∧ W.frozen? ⟨w.heap.size, 0, none⟩ = false ∧ W.frozen? ⟨w.heap.size, 1, none⟩ = false ∧ W.frozen? ⟨w.heap.size, 2, none⟩ = false ∧ w.heap.size < W.heap.size ∧ Below w.heap.size w W) : Below w.heap.size w W := h.2.2.2.2.2.2.2
set_option maxHeartbeats 4000000 in
theorem calc_reads_m (k n : Int) (t : ByteArray) (w : World) (hL : Lits w) (ha : Val.inr n) (hr : Hid (Val.tru ⟨k, n, t.data.toList⟩ = -1)) (k1 n1 : Int) (h1 : Hid (Val.num ⟨k, n, t.data.toList⟩ = ⟨k1, n1, []⟩)) (k2 : Int) (t2 : ByteArray) (h2 : Hid (Val.pshow ⟨k, n, t.data.toList⟩ = ⟨k2, 0, t2.data.toList⟩)) :
    Calls Tryz.prog 3 #[.agg #[.int .i64 k, .int .i64 n, .string t]] w fun e w' => e = .returned (.bool true) ∧ Below w.heap.size w w' := by
  have hS := start1 w (.int .i64 k) (.int .i64 n) (.string t) 24
  have hL0 : Lits (w.alloc (.cells #[.int .i64 k, .int .i64 n, .string t] 24)) := hL.alloc _
  replace ha := Lib.hid ha
  go_enter Tryz.func3, Tryz.ntmps3
  go_wp2_with (first
    | (go_at_call 11; refine (ctru_is k n t _ ha.out.1 ha.out.2 hL0 (-1) false false hr (Lib.hid (by decide)) (Lib.hid (by decide))).mono ?_; rintro e w1 ⟨rfl, hb1⟩; have hS1 := keep1 hS hb1; obtain ⟨ca0, ca1, ca2, ca3, ca4, ca5, hz, hB⟩ := id hS1; have hL1 := hL0.below hb1)
    | (go_at_call 12; refine (rtru_is k n t _ ha.out.1 ha.out.2 hL1 _ hr).mono ?_; rintro e w2 ⟨rfl, hb2⟩; have hS2 := keep1 hS1 hb2; have hL2 := hL1.below hb2))
  clear hS hS1
  go_region_held3 (fun W => W.cell? ⟨w.heap.size, 0, none⟩ = some (.int .i64 k) ∧ W.cell? ⟨w.heap.size, 1, none⟩ = some (.int .i64 n) ∧ W.cell? ⟨w.heap.size, 2, none⟩ = some (.string t) ∧ W.frozen? ⟨w.heap.size, 0, none⟩ = false ∧ W.frozen? ⟨w.heap.size, 1, none⟩ = false ∧ W.frozen? ⟨w.heap.size, 2, none⟩ = false ∧ w.heap.size < W.heap.size ∧ Below w.heap.size w W) (first | assumption | exact keep1 (by assumption) (by assumption) | exact keepd1 (by assumption)) (first
    | (go_at_call 13; refine (head3_any _ (hL.below (bBelow1 (by assumption)))).mono ?_; rintro e w5 ⟨rfl, hb5⟩)
    | (go_at_call 14; refine (cnum_is _ _ _ _ (hL.below (bBelow1 (by assumption))) _ _ h1).mono ?_; rintro e w5 ⟨rfl, hb5⟩)
    | (go_at_call 15; refine (rnum03_is _ _ _ _ (hL.below (bBelow1 (by assumption))) _ _ h1).mono ?_; rintro e w5 ⟨rfl, hb5⟩)
    | (go_at_call 16; refine (cshow_is _ _ _ _ ha.out.1 ha.out.2 (hL.below (bBelow1 (by assumption))) _ _ h2).mono ?_; rintro e w5 ⟨rfl, hb5⟩)
    | (go_at_call 17; refine (rshow_is _ _ _ _ ha.out.1 ha.out.2 (hL.below (bBelow1 (by assumption))) _ _ h2).mono ?_; rintro e w5 ⟨rfl, hb5⟩))
  all_goals (
    go_wp2
    go_ret
    exact ⟨rfl, by rename_i hh; exact bBelow1 hh⟩)
set_option maxHeartbeats 4000000 in
theorem calc_reads_z (k n : Int) (t : ByteArray) (w : World) (hL : Lits w) (ha : Val.inr n) (hr : Hid (Val.tru ⟨k, n, t.data.toList⟩ = 0)) (k1 n1 : Int) (h1 : Hid (Val.num ⟨k, n, t.data.toList⟩ = ⟨k1, n1, []⟩)) (k2 : Int) (t2 : ByteArray) (h2 : Hid (Val.pshow ⟨k, n, t.data.toList⟩ = ⟨k2, 0, t2.data.toList⟩)) :
    Calls Tryz.prog 3 #[.agg #[.int .i64 k, .int .i64 n, .string t]] w fun e w' => e = .returned (.bool true) ∧ Below w.heap.size w w' := by
  have hS := start1 w (.int .i64 k) (.int .i64 n) (.string t) 24
  have hL0 : Lits (w.alloc (.cells #[.int .i64 k, .int .i64 n, .string t] 24)) := hL.alloc _
  replace ha := Lib.hid ha
  go_enter Tryz.func3, Tryz.ntmps3
  go_wp2_with (first
    | (go_at_call 11; refine (ctru_is k n t _ ha.out.1 ha.out.2 hL0 (0) false true hr (Lib.hid (by decide)) (Lib.hid (by decide))).mono ?_; rintro e w1 ⟨rfl, hb1⟩; have hS1 := keep1 hS hb1; obtain ⟨ca0, ca1, ca2, ca3, ca4, ca5, hz, hB⟩ := id hS1; have hL1 := hL0.below hb1)
    | (go_at_call 12; refine (rtru_is k n t _ ha.out.1 ha.out.2 hL1 _ hr).mono ?_; rintro e w2 ⟨rfl, hb2⟩; have hS2 := keep1 hS1 hb2; have hL2 := hL1.below hb2))
  clear hS hS1
  go_region_held3 (fun W => W.cell? ⟨w.heap.size, 0, none⟩ = some (.int .i64 k) ∧ W.cell? ⟨w.heap.size, 1, none⟩ = some (.int .i64 n) ∧ W.cell? ⟨w.heap.size, 2, none⟩ = some (.string t) ∧ W.frozen? ⟨w.heap.size, 0, none⟩ = false ∧ W.frozen? ⟨w.heap.size, 1, none⟩ = false ∧ W.frozen? ⟨w.heap.size, 2, none⟩ = false ∧ w.heap.size < W.heap.size ∧ Below w.heap.size w W) (first | assumption | exact keep1 (by assumption) (by assumption) | exact keepd1 (by assumption)) (first
    | (go_at_call 13; refine (head3_any _ (hL.below (bBelow1 (by assumption)))).mono ?_; rintro e w5 ⟨rfl, hb5⟩)
    | (go_at_call 14; refine (cnum_is _ _ _ _ (hL.below (bBelow1 (by assumption))) _ _ h1).mono ?_; rintro e w5 ⟨rfl, hb5⟩)
    | (go_at_call 15; refine (rnum03_is _ _ _ _ (hL.below (bBelow1 (by assumption))) _ _ h1).mono ?_; rintro e w5 ⟨rfl, hb5⟩)
    | (go_at_call 16; refine (cshow_is _ _ _ _ ha.out.1 ha.out.2 (hL.below (bBelow1 (by assumption))) _ _ h2).mono ?_; rintro e w5 ⟨rfl, hb5⟩)
    | (go_at_call 17; refine (rshow_is _ _ _ _ ha.out.1 ha.out.2 (hL.below (bBelow1 (by assumption))) _ _ h2).mono ?_; rintro e w5 ⟨rfl, hb5⟩))
  all_goals (
    go_wp2
    go_ret
    exact ⟨rfl, by rename_i hh; exact bBelow1 hh⟩)
set_option maxHeartbeats 4000000 in
theorem calc_reads_o (k n : Int) (t : ByteArray) (w : World) (hL : Lits w) (ha : Val.inr n) (hr : Hid (Val.tru ⟨k, n, t.data.toList⟩ = 1)) (k1 n1 : Int) (h1 : Hid (Val.num ⟨k, n, t.data.toList⟩ = ⟨k1, n1, []⟩)) (k2 : Int) (t2 : ByteArray) (h2 : Hid (Val.pshow ⟨k, n, t.data.toList⟩ = ⟨k2, 0, t2.data.toList⟩)) :
    Calls Tryz.prog 3 #[.agg #[.int .i64 k, .int .i64 n, .string t]] w fun e w' => e = .returned (.bool true) ∧ Below w.heap.size w w' := by
  have hS := start1 w (.int .i64 k) (.int .i64 n) (.string t) 24
  have hL0 : Lits (w.alloc (.cells #[.int .i64 k, .int .i64 n, .string t] 24)) := hL.alloc _
  replace ha := Lib.hid ha
  go_enter Tryz.func3, Tryz.ntmps3
  go_wp2_with (first
    | (go_at_call 11; refine (ctru_is k n t _ ha.out.1 ha.out.2 hL0 (1) true true hr (Lib.hid (by decide)) (Lib.hid (by decide))).mono ?_; rintro e w1 ⟨rfl, hb1⟩; have hS1 := keep1 hS hb1; obtain ⟨ca0, ca1, ca2, ca3, ca4, ca5, hz, hB⟩ := id hS1; have hL1 := hL0.below hb1)
    | (go_at_call 12; refine (rtru_is k n t _ ha.out.1 ha.out.2 hL1 _ hr).mono ?_; rintro e w2 ⟨rfl, hb2⟩; have hS2 := keep1 hS1 hb2; have hL2 := hL1.below hb2))
  clear hS hS1
  go_region_held3 (fun W => W.cell? ⟨w.heap.size, 0, none⟩ = some (.int .i64 k) ∧ W.cell? ⟨w.heap.size, 1, none⟩ = some (.int .i64 n) ∧ W.cell? ⟨w.heap.size, 2, none⟩ = some (.string t) ∧ W.frozen? ⟨w.heap.size, 0, none⟩ = false ∧ W.frozen? ⟨w.heap.size, 1, none⟩ = false ∧ W.frozen? ⟨w.heap.size, 2, none⟩ = false ∧ w.heap.size < W.heap.size ∧ Below w.heap.size w W) (first | assumption | exact keep1 (by assumption) (by assumption) | exact keepd1 (by assumption)) (first
    | (go_at_call 13; refine (head3_any _ (hL.below (bBelow1 (by assumption)))).mono ?_; rintro e w5 ⟨rfl, hb5⟩)
    | (go_at_call 14; refine (cnum_is _ _ _ _ (hL.below (bBelow1 (by assumption))) _ _ h1).mono ?_; rintro e w5 ⟨rfl, hb5⟩)
    | (go_at_call 15; refine (rnum03_is _ _ _ _ (hL.below (bBelow1 (by assumption))) _ _ h1).mono ?_; rintro e w5 ⟨rfl, hb5⟩)
    | (go_at_call 16; refine (cshow_is _ _ _ _ ha.out.1 ha.out.2 (hL.below (bBelow1 (by assumption))) _ _ h2).mono ?_; rintro e w5 ⟨rfl, hb5⟩)
    | (go_at_call 17; refine (rshow_is _ _ _ _ ha.out.1 ha.out.2 (hL.below (bBelow1 (by assumption))) _ _ h2).mono ?_; rintro e w5 ⟨rfl, hb5⟩))
  all_goals (
    go_wp2
    go_ret
    exact ⟨rfl, by rename_i hh; exact bBelow1 hh⟩)
theorem calc_reads (k n : Int) (t : ByteArray) (w : World) (ha : Val.inr n) (hL : Lits w) :
    Calls Tryz.prog 3 #[.agg #[.int .i64 k, .int .i64 n, .string t]] w fun e w' => e = .returned (.bool true) ∧ Below w.heap.size w w' := by
  obtain ⟨k1, n1, h1, _⟩ := num_form (k := k) (t := t) ha
  obtain ⟨k2, t2, h2⟩ : ∃ k2, ∃ t2 : ByteArray, Val.pshow ⟨k, n, t.data.toList⟩ = ⟨k2, 0, t2.data.toList⟩ := by
    unfold Val.pshow
    split
    · split
      · exact ⟨2, bs (Lib.itoa n), rfl⟩
      · exact ⟨2, t, rfl⟩
    · exact ⟨0, ⟨#[]⟩, rfl⟩
  rcases Val.tru_cases ⟨k, n, t.data.toList⟩ with h | h | h
  · exact calc_reads_m k n t w hL ha (Lib.hid h) k1 n1 (Lib.hid h1) k2 t2 (Lib.hid h2)
  · exact calc_reads_z k n t w hL ha (Lib.hid h) k1 n1 (Lib.hid h1) k2 t2 (Lib.hid h2)
  · exact calc_reads_o k n t w hL ha (Lib.hid h) k1 n1 (Lib.hid h1) k2 t2 (Lib.hid h2)

end Go.Proofs.YthdpgekjbkpomaaGreatDoor
