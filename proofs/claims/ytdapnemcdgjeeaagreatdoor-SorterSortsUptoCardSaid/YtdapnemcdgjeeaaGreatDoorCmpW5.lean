/- Walks: Cmp of the reference. -/
import Derived.Test.YtdapnemcdgjeeaaGreatDoorCmpW4
import Derived.Test.YtdapnemcdgjeeaaGreatDoorFoldW
set_option maxRecDepth 100000
set_option linter.unusedVariables false
set_option linter.unusedSimpArgs false
namespace Go.Proofs.YtdapnemcdgjeeaaGreatDoor
open Go.RowKit

set_option maxHeartbeats 2000000 in
theorem rcmp_kind (ka na : Int) (ta : ByteArray) (kb nb : Int) (tb : ByteArray) (c : Int) (w : World) (ha : Hid (Val.may ⟨ka, na, ta.data.toList⟩ = true)) (hbm : Hid (Val.may ⟨kb, nb, tb.data.toList⟩ = true)) (hk : (ka != kb) = true) (ia : 0 ≤ ka) (ja : ka ≤ 3) (ib : 0 ≤ kb) (jb : kb ≤ 3) (b : Bool) (hb : (decide (ka < kb)) = b) :
    Calls Tryz.prog 59 #[.agg #[.int .i64 ka, .int .i64 na, .string ta], .agg #[.int .i64 kb, .int .i64 nb, .string tb], .int .i64 c] w (CmpP (if b = true then -1 else 1) w) := by
  cases b
  all_goals (
    go_enter Tryz.func59, Tryz.ntmps59
    go_wp2_with (go_at_call 29; refine (rmay_is _ _ _ _ (by assumption)).mono ?_; first
      | (have hq := hb1; rintro e w2 ⟨rfl, hb2⟩; have hb12 := hb1.trans (hb2.mono hb1.size); obtain ⟨c0, c1, c2, _, _, _⟩ := cells3 hb12 (two_lt _ _ _).1 (heap_two _ _ _).1; obtain ⟨d0, d1, d2, _, _, _⟩ := cells3 hb12 (two_lt _ _ _).2 (heap_two _ _ _).2; have hB := two_below _ _ _ hb12; have hZ : w.heap.size + 1 < w2.heap.size := Nat.lt_of_lt_of_le (two_lt _ _ _).2 hb12.size; clear hq hb1 hb2 hb12)
      | (rintro e w1 ⟨rfl, hb1⟩; obtain ⟨c0, c1, c2, _, _, _⟩ := cells3 hb1 (two_lt _ _ _).1 (heap_two _ _ _).1; obtain ⟨d0, d1, d2, _, _, _⟩ := cells3 hb1 (two_lt _ _ _).2 (heap_two _ _ _).2; have hB1 := two_below _ _ _ hb1))
    have H0 : w2.cell? ⟨w.heap.size, 0, none⟩ = some (.int .i64 ka) ∧ w2.cell? ⟨w.heap.size, 1, none⟩ = some (.int .i64 na) ∧ w2.cell? ⟨w.heap.size, 2, none⟩ = some (.string ta) ∧ w2.cell? ⟨w.heap.size + 1, 0, none⟩ = some (.int .i64 kb) ∧ w2.cell? ⟨w.heap.size + 1, 1, none⟩ = some (.int .i64 nb) ∧ w2.cell? ⟨w.heap.size + 1, 2, none⟩ = some (.string tb) ∧ w.heap.size + 1 < w2.heap.size ∧ Below w.heap.size w w2 := ⟨c0, c1, c2, d0, d1, d2, hZ, hB⟩
    go_region_held3 (fun W => W.cell? ⟨w.heap.size, 0, none⟩ = some (.int .i64 ka) ∧ W.cell? ⟨w.heap.size, 1, none⟩ = some (.int .i64 na) ∧ W.cell? ⟨w.heap.size, 2, none⟩ = some (.string ta) ∧ W.cell? ⟨w.heap.size + 1, 0, none⟩ = some (.int .i64 kb) ∧ W.cell? ⟨w.heap.size + 1, 1, none⟩ = some (.int .i64 nb) ∧ W.cell? ⟨w.heap.size + 1, 2, none⟩ = some (.string tb) ∧ w.heap.size + 1 < W.heap.size ∧ Below w.heap.size w W) (first | assumption | exact keepT (by assumption) (by assumption) | exact keepT0 (by assumption)) (first | (go_at_call 85; refine (rrank_any _ _ (by assumption) (by assumption)).mono ?_; rintro e w3 ⟨rfl, rfl⟩))
    all_goals (
      go_wp2
      go_ret
      exact ⟨rfl, by rename_i hh; exact hh.2.2.2.2.2.2.2⟩))
set_option maxHeartbeats 2000000 in
theorem rcmp_text (ka na : Int) (ta : ByteArray) (kb nb : Int) (tb : ByteArray) (c : Int) (w : World) (ha : Hid (Val.may ⟨ka, na, ta.data.toList⟩ = true)) (hbm : Hid (Val.may ⟨kb, nb, tb.data.toList⟩ = true)) (hk : (ka != kb) = false) (hk2 : (ka == 2) = true) (hsa : ta.size ≤ 1048576) (hsb : tb.size ≤ 1048576) (fa fb : ByteArray) (hfa : Hid (bs (Txt.fold ta.data.toList c) = fa)) (hfb : Hid (bs (Txt.fold tb.data.toList c) = fb)) (r : Int) (hr : Hid (Lib.compareBytes fa.data.toList fb.data.toList = r)) :
    Calls Tryz.prog 59 #[.agg #[.int .i64 ka, .int .i64 na, .string ta], .agg #[.int .i64 kb, .int .i64 nb, .string tb], .int .i64 c] w (CmpP r w) := by
  go_enter Tryz.func59, Tryz.ntmps59
  go_wp2_with (go_at_call 29; refine (rmay_is _ _ _ _ (by assumption)).mono ?_; first
    | (have hq := hb1; rintro e w2 ⟨rfl, hb2⟩; have hb12 := hb1.trans (hb2.mono hb1.size); obtain ⟨c0, c1, c2, _, _, _⟩ := cells3 hb12 (two_lt _ _ _).1 (heap_two _ _ _).1; obtain ⟨d0, d1, d2, _, _, _⟩ := cells3 hb12 (two_lt _ _ _).2 (heap_two _ _ _).2; have hB := two_below _ _ _ hb12; have hZ : w.heap.size + 1 < w2.heap.size := Nat.lt_of_lt_of_le (two_lt _ _ _).2 hb12.size; clear hq hb1 hb2 hb12)
    | (rintro e w1 ⟨rfl, hb1⟩; obtain ⟨c0, c1, c2, _, _, _⟩ := cells3 hb1 (two_lt _ _ _).1 (heap_two _ _ _).1; obtain ⟨d0, d1, d2, _, _, _⟩ := cells3 hb1 (two_lt _ _ _).2 (heap_two _ _ _).2; have hB1 := two_below _ _ _ hb1))
  have H0 : w2.cell? ⟨w.heap.size, 0, none⟩ = some (.int .i64 ka) ∧ w2.cell? ⟨w.heap.size, 1, none⟩ = some (.int .i64 na) ∧ w2.cell? ⟨w.heap.size, 2, none⟩ = some (.string ta) ∧ w2.cell? ⟨w.heap.size + 1, 0, none⟩ = some (.int .i64 kb) ∧ w2.cell? ⟨w.heap.size + 1, 1, none⟩ = some (.int .i64 nb) ∧ w2.cell? ⟨w.heap.size + 1, 2, none⟩ = some (.string tb) ∧ w.heap.size + 1 < w2.heap.size ∧ Below w.heap.size w w2 := ⟨c0, c1, c2, d0, d1, d2, hZ, hB⟩
  go_region_held3 (fun W => W.cell? ⟨w.heap.size, 0, none⟩ = some (.int .i64 ka) ∧ W.cell? ⟨w.heap.size, 1, none⟩ = some (.int .i64 na) ∧ W.cell? ⟨w.heap.size, 2, none⟩ = some (.string ta) ∧ W.cell? ⟨w.heap.size + 1, 0, none⟩ = some (.int .i64 kb) ∧ W.cell? ⟨w.heap.size + 1, 1, none⟩ = some (.int .i64 nb) ∧ W.cell? ⟨w.heap.size + 1, 2, none⟩ = some (.string tb) ∧ w.heap.size + 1 < W.heap.size ∧ Below w.heap.size w W) (first | assumption | exact keepT (by assumption) (by assumption) | exact keepT0 (by assumption)) (first
    | (go_at_call 77; refine (rfold_is _ _ _ _ (by assumption) (by assumption)).mono ?_; rintro e w3 ⟨rfl, hb3⟩)
    | (go_at_call 86; refine (rtexts_any _ _ _).mono ?_; rintro e w3 ⟨rfl, rfl⟩; rw [hr.out]))
  all_goals (
    go_wp2
    go_ret
    exact ⟨rfl, by rename_i hh; exact hh.2.2.2.2.2.2.2⟩)
set_option maxHeartbeats 2000000 in
theorem rcmp_else (ka na : Int) (ta : ByteArray) (kb nb : Int) (tb : ByteArray) (c : Int) (w : World) (ha : Hid (Val.may ⟨ka, na, ta.data.toList⟩ = true)) (hbm : Hid (Val.may ⟨kb, nb, tb.data.toList⟩ = true)) (hk : (ka != kb) = false) (hk2 : (ka == 2) = false) (y r : Int) (hy : Hid (Lib.compareBytes ta.data.toList tb.data.toList = y)) (hr : (if Lib.compareInt na nb ≠ 0 then Lib.compareInt na nb else y) = r) :
    Calls Tryz.prog 59 #[.agg #[.int .i64 ka, .int .i64 na, .string ta], .agg #[.int .i64 kb, .int .i64 nb, .string tb], .int .i64 c] w (CmpP r w) := by
  by_cases h1 : na < nb
  · have b1 : decide (na < nb) = true := by simp; omega
    obtain rfl : -1 = r := by rw [← hr]; simp [Lib.compareInt, h1]
    clear hr h1
    go_enter Tryz.func59, Tryz.ntmps59
    go_wp2_with (go_at_call 29; refine (rmay_is _ _ _ _ (by assumption)).mono ?_; first
      | (have hq := hb1; rintro e w2 ⟨rfl, hb2⟩; have hb12 := hb1.trans (hb2.mono hb1.size); obtain ⟨c0, c1, c2, _, _, _⟩ := cells3 hb12 (two_lt _ _ _).1 (heap_two _ _ _).1; obtain ⟨d0, d1, d2, _, _, _⟩ := cells3 hb12 (two_lt _ _ _).2 (heap_two _ _ _).2; have hB := two_below _ _ _ hb12; have hZ : w.heap.size + 1 < w2.heap.size := Nat.lt_of_lt_of_le (two_lt _ _ _).2 hb12.size; clear hq hb1 hb2 hb12)
      | (rintro e w1 ⟨rfl, hb1⟩; obtain ⟨c0, c1, c2, _, _, _⟩ := cells3 hb1 (two_lt _ _ _).1 (heap_two _ _ _).1; obtain ⟨d0, d1, d2, _, _, _⟩ := cells3 hb1 (two_lt _ _ _).2 (heap_two _ _ _).2; have hB1 := two_below _ _ _ hb1))
    go_ret
    exact ⟨rfl, hB⟩
  · have b1 : decide (na < nb) = false := by simp; omega
    by_cases h2 : na > nb
    · have b2 : decide (na > nb) = true := by simp; omega
      obtain rfl : 1 = r := by rw [← hr]; simp [Lib.compareInt, h1]; omega
      clear hr h1 h2
      go_enter Tryz.func59, Tryz.ntmps59
      go_wp2_with (go_at_call 29; refine (rmay_is _ _ _ _ (by assumption)).mono ?_; first
        | (have hq := hb1; rintro e w2 ⟨rfl, hb2⟩; have hb12 := hb1.trans (hb2.mono hb1.size); obtain ⟨c0, c1, c2, _, _, _⟩ := cells3 hb12 (two_lt _ _ _).1 (heap_two _ _ _).1; obtain ⟨d0, d1, d2, _, _, _⟩ := cells3 hb12 (two_lt _ _ _).2 (heap_two _ _ _).2; have hB := two_below _ _ _ hb12; have hZ : w.heap.size + 1 < w2.heap.size := Nat.lt_of_lt_of_le (two_lt _ _ _).2 hb12.size; clear hq hb1 hb2 hb12)
        | (rintro e w1 ⟨rfl, hb1⟩; obtain ⟨c0, c1, c2, _, _, _⟩ := cells3 hb1 (two_lt _ _ _).1 (heap_two _ _ _).1; obtain ⟨d0, d1, d2, _, _, _⟩ := cells3 hb1 (two_lt _ _ _).2 (heap_two _ _ _).2; have hB1 := two_below _ _ _ hb1))
      go_ret
      exact ⟨rfl, hB⟩
    · have b2 : decide (na > nb) = false := by simp; omega
      obtain rfl : y = r := by rw [← hr, if_neg]; unfold Lib.compareInt; rw [if_neg h1, if_neg h2]; simp
      clear hr h1 h2
      go_enter Tryz.func59, Tryz.ntmps59
      go_wp2_with (first
        | (go_at_call 29; refine (rmay_is _ _ _ _ (by assumption)).mono ?_; first
          | (have hq := hb1; rintro e w2 ⟨rfl, hb2⟩; have hb12 := hb1.trans (hb2.mono hb1.size); obtain ⟨c0, c1, c2, _, _, _⟩ := cells3 hb12 (two_lt _ _ _).1 (heap_two _ _ _).1; obtain ⟨d0, d1, d2, _, _, _⟩ := cells3 hb12 (two_lt _ _ _).2 (heap_two _ _ _).2; have hB := two_below _ _ _ hb12; have hZ : w.heap.size + 1 < w2.heap.size := Nat.lt_of_lt_of_le (two_lt _ _ _).2 hb12.size; clear hq hb1 hb2 hb12)
          | (rintro e w1 ⟨rfl, hb1⟩; obtain ⟨c0, c1, c2, _, _, _⟩ := cells3 hb1 (two_lt _ _ _).1 (heap_two _ _ _).1; obtain ⟨d0, d1, d2, _, _, _⟩ := cells3 hb1 (two_lt _ _ _).2 (heap_two _ _ _).2; have hB1 := two_below _ _ _ hb1))
        | (go_at_call 86; refine (rtexts_any _ _ _).mono ?_; rintro e w3 ⟨rfl, rfl⟩; rw [hy.out]))
      go_ret
      exact ⟨rfl, hB⟩

end Go.Proofs.YtdapnemcdgjeeaaGreatDoor
