/- Walks: the law ValueOrder. -/
import Derived.Test.YtiiaamkmnbegdaaDoorCmpW6
namespace Go.Proofs.YtiiaamkmnbegdaaDoor
set_option maxRecDepth 100000
set_option linter.unusedVariables false
set_option linter.unusedSimpArgs false
open Go.RowKit

theorem keep9 {w W W' : World} {ka na : Int} {ta : ByteArray} {kb nb : Int} {tb : ByteArray} {kd nd : Int} {td : ByteArray} (h : W.cell? ⟨w.heap.size, 0, none⟩ = some (.int .i64 ka) ∧ W.cell? ⟨w.heap.size, 1, none⟩ = some (.int .i64 na) ∧ W.cell? ⟨w.heap.size, 2, none⟩ = some (.string ta) ∧ W.cell? ⟨w.heap.size + 1, 0, none⟩ = some (.int .i64 kb) ∧ W.cell? ⟨w.heap.size + 1, 1, none⟩ = some (.int .i64 nb) ∧ W.cell? ⟨w.heap.size + 1, 2, none⟩ = some (.string tb) ∧ W.cell? ⟨w.heap.size + 1 + 1, 0, none⟩ = some (.int .i64 kd) ∧ W.cell? ⟨w.heap.size + 1 + 1, 1, none⟩ = some (.int .i64 nd) ∧ W.cell? ⟨w.heap.size + 1 + 1, 2, none⟩ = some (.string td) ∧ w.heap.size + 1 + 1 < W.heap.size ∧ Below w.heap.size w W) (hb : Below W.heap.size W W') : W'.cell? ⟨w.heap.size, 0, none⟩ = some (.int .i64 ka) ∧ W'.cell? ⟨w.heap.size, 1, none⟩ = some (.int .i64 na) ∧ W'.cell? ⟨w.heap.size, 2, none⟩ = some (.string ta) ∧ W'.cell? ⟨w.heap.size + 1, 0, none⟩ = some (.int .i64 kb) ∧ W'.cell? ⟨w.heap.size + 1, 1, none⟩ = some (.int .i64 nb) ∧ W'.cell? ⟨w.heap.size + 1, 2, none⟩ = some (.string tb) ∧ W'.cell? ⟨w.heap.size + 1 + 1, 0, none⟩ = some (.int .i64 kd) ∧ W'.cell? ⟨w.heap.size + 1 + 1, 1, none⟩ = some (.int .i64 nd) ∧ W'.cell? ⟨w.heap.size + 1 + 1, 2, none⟩ = some (.string td) ∧ w.heap.size + 1 + 1 < W'.heap.size ∧ Below w.heap.size w W' :=
  have l2 : w.heap.size + 1 + 1 < W.heap.size := h.2.2.2.2.2.2.2.2.2.1
  have l1 : w.heap.size + 1 < W.heap.size := Nat.lt_of_succ_lt l2
  have l0 : w.heap.size < W.heap.size := Nat.lt_of_succ_lt l1
  ⟨(hb.cell (p := ⟨w.heap.size, 0, none⟩) l0).trans h.1, (hb.cell (p := ⟨w.heap.size, 1, none⟩) l0).trans h.2.1, (hb.cell (p := ⟨w.heap.size, 2, none⟩) l0).trans h.2.2.1, (hb.cell (p := ⟨w.heap.size + 1, 0, none⟩) l1).trans h.2.2.2.1, (hb.cell (p := ⟨w.heap.size + 1, 1, none⟩) l1).trans h.2.2.2.2.1, (hb.cell (p := ⟨w.heap.size + 1, 2, none⟩) l1).trans h.2.2.2.2.2.1, (hb.cell (p := ⟨w.heap.size + 1 + 1, 0, none⟩) l2).trans h.2.2.2.2.2.2.1, (hb.cell (p := ⟨w.heap.size + 1 + 1, 1, none⟩) l2).trans h.2.2.2.2.2.2.2.1, (hb.cell (p := ⟨w.heap.size + 1 + 1, 2, none⟩) l2).trans h.2.2.2.2.2.2.2.2.1, Nat.lt_of_lt_of_le l2 hb.size, h.2.2.2.2.2.2.2.2.2.2.trans (hb.mono h.2.2.2.2.2.2.2.2.2.2.size)⟩
theorem keep90 {w W : World} {ka na : Int} {ta : ByteArray} {kb nb : Int} {tb : ByteArray} {kd nd : Int} {td : ByteArray} (h : W.cell? ⟨w.heap.size, 0, none⟩ = some (.int .i64 ka) ∧ W.cell? ⟨w.heap.size, 1, none⟩ = some (.int .i64 na) ∧ W.cell? ⟨w.heap.size, 2, none⟩ = some (.string ta) ∧ W.cell? ⟨w.heap.size + 1, 0, none⟩ = some (.int .i64 kb) ∧ W.cell? ⟨w.heap.size + 1, 1, none⟩ = some (.int .i64 nb) ∧ W.cell? ⟨w.heap.size + 1, 2, none⟩ = some (.string tb) ∧ W.cell? ⟨w.heap.size + 1 + 1, 0, none⟩ = some (.int .i64 kd) ∧ W.cell? ⟨w.heap.size + 1 + 1, 1, none⟩ = some (.int .i64 nd) ∧ W.cell? ⟨w.heap.size + 1 + 1, 2, none⟩ = some (.string td) ∧ w.heap.size + 1 + 1 < W.heap.size ∧ Below w.heap.size w W) : W.drew.cell? ⟨w.heap.size, 0, none⟩ = some (.int .i64 ka) ∧ W.drew.cell? ⟨w.heap.size, 1, none⟩ = some (.int .i64 na) ∧ W.drew.cell? ⟨w.heap.size, 2, none⟩ = some (.string ta) ∧ W.drew.cell? ⟨w.heap.size + 1, 0, none⟩ = some (.int .i64 kb) ∧ W.drew.cell? ⟨w.heap.size + 1, 1, none⟩ = some (.int .i64 nb) ∧ W.drew.cell? ⟨w.heap.size + 1, 2, none⟩ = some (.string tb) ∧ W.drew.cell? ⟨w.heap.size + 1 + 1, 0, none⟩ = some (.int .i64 kd) ∧ W.drew.cell? ⟨w.heap.size + 1 + 1, 1, none⟩ = some (.int .i64 nd) ∧ W.drew.cell? ⟨w.heap.size + 1 + 1, 2, none⟩ = some (.string td) ∧ w.heap.size + 1 + 1 < W.drew.heap.size ∧ Below w.heap.size w W.drew :=
  ⟨h.1, h.2.1, h.2.2.1, h.2.2.2.1, h.2.2.2.2.1, h.2.2.2.2.2.1, h.2.2.2.2.2.2.1, h.2.2.2.2.2.2.2.1, h.2.2.2.2.2.2.2.2.1, h.2.2.2.2.2.2.2.2.2.1, h.2.2.2.2.2.2.2.2.2.2.drew⟩
theorem lits9 {w W : World} {ka na : Int} {ta : ByteArray} {kb nb : Int} {tb : ByteArray} {kd nd : Int} {td : ByteArray} (h : W.cell? ⟨w.heap.size, 0, none⟩ = some (.int .i64 ka) ∧ W.cell? ⟨w.heap.size, 1, none⟩ = some (.int .i64 na) ∧ W.cell? ⟨w.heap.size, 2, none⟩ = some (.string ta) ∧ W.cell? ⟨w.heap.size + 1, 0, none⟩ = some (.int .i64 kb) ∧ W.cell? ⟨w.heap.size + 1, 1, none⟩ = some (.int .i64 nb) ∧ W.cell? ⟨w.heap.size + 1, 2, none⟩ = some (.string tb) ∧ W.cell? ⟨w.heap.size + 1 + 1, 0, none⟩ = some (.int .i64 kd) ∧ W.cell? ⟨w.heap.size + 1 + 1, 1, none⟩ = some (.int .i64 nd) ∧ W.cell? ⟨w.heap.size + 1 + 1, 2, none⟩ = some (.string td) ∧ w.heap.size + 1 + 1 < W.heap.size ∧ Below w.heap.size w W) (hL : Lits w) : Lits W := hL.below h.2.2.2.2.2.2.2.2.2.2
theorem bytes_inj {a b : ByteArray} (h : a.data.toList = b.data.toList) : a = b := by rw [← bs_of a, ← bs_of b, h]
theorem heap_three (w : World) (A B C : Obj) : (((w.alloc A).alloc B).alloc C).heap[w.heap.size]? = some A ∧ (((w.alloc A).alloc B).alloc C).heap[w.heap.size + 1]? = some B ∧ (((w.alloc A).alloc B).alloc C).heap[w.heap.size + 1 + 1]? = some C := by
  have hb := (Below.refl ((w.alloc A).alloc B).heap.size ((w.alloc A).alloc B)).alloc (Nat.le_refl _) C
  refine ⟨(hb.block _ (two_lt _ _ _).1).trans (heap_two _ _ _).1, (hb.block _ (two_lt _ _ _).2).trans (heap_two _ _ _).2, ?_⟩
  have h2 := heap_new ((w.alloc A).alloc B) C
  simpa using h2
theorem start9 (w : World) (ka na : Int) (ta : ByteArray) (kb nb : Int) (tb : ByteArray) (kd nd : Int) (td : ByteArray) : (((w.alloc (.cells #[.int .i64 ka, .int .i64 na, .string ta] 42)).alloc (.cells #[.int .i64 kb, .int .i64 nb, .string tb] 42)).alloc (.cells #[.int .i64 kd, .int .i64 nd, .string td] 42)).cell? ⟨w.heap.size, 0, none⟩ = some (.int .i64 ka) ∧ (((w.alloc (.cells #[.int .i64 ka, .int .i64 na, .string ta] 42)).alloc (.cells #[.int .i64 kb, .int .i64 nb, .string tb] 42)).alloc (.cells #[.int .i64 kd, .int .i64 nd, .string td] 42)).cell? ⟨w.heap.size, 1, none⟩ = some (.int .i64 na) ∧ (((w.alloc (.cells #[.int .i64 ka, .int .i64 na, .string ta] 42)).alloc (.cells #[.int .i64 kb, .int .i64 nb, .string tb] 42)).alloc (.cells #[.int .i64 kd, .int .i64 nd, .string td] 42)).cell? ⟨w.heap.size, 2, none⟩ = some (.string ta) ∧ (((w.alloc (.cells #[.int .i64 ka, .int .i64 na, .string ta] 42)).alloc (.cells #[.int .i64 kb, .int .i64 nb, .string tb] 42)).alloc (.cells #[.int .i64 kd, .int .i64 nd, .string td] 42)).cell? ⟨w.heap.size + 1, 0, none⟩ = some (.int .i64 kb) ∧ (((w.alloc (.cells #[.int .i64 ka, .int .i64 na, .string ta] 42)).alloc (.cells #[.int .i64 kb, .int .i64 nb, .string tb] 42)).alloc (.cells #[.int .i64 kd, .int .i64 nd, .string td] 42)).cell? ⟨w.heap.size + 1, 1, none⟩ = some (.int .i64 nb) ∧ (((w.alloc (.cells #[.int .i64 ka, .int .i64 na, .string ta] 42)).alloc (.cells #[.int .i64 kb, .int .i64 nb, .string tb] 42)).alloc (.cells #[.int .i64 kd, .int .i64 nd, .string td] 42)).cell? ⟨w.heap.size + 1, 2, none⟩ = some (.string tb) ∧ (((w.alloc (.cells #[.int .i64 ka, .int .i64 na, .string ta] 42)).alloc (.cells #[.int .i64 kb, .int .i64 nb, .string tb] 42)).alloc (.cells #[.int .i64 kd, .int .i64 nd, .string td] 42)).cell? ⟨w.heap.size + 1 + 1, 0, none⟩ = some (.int .i64 kd) ∧ (((w.alloc (.cells #[.int .i64 ka, .int .i64 na, .string ta] 42)).alloc (.cells #[.int .i64 kb, .int .i64 nb, .string tb] 42)).alloc (.cells #[.int .i64 kd, .int .i64 nd, .string td] 42)).cell? ⟨w.heap.size + 1 + 1, 1, none⟩ = some (.int .i64 nd) ∧ (((w.alloc (.cells #[.int .i64 ka, .int .i64 na, .string ta] 42)).alloc (.cells #[.int .i64 kb, .int .i64 nb, .string tb] 42)).alloc (.cells #[.int .i64 kd, .int .i64 nd, .string td] 42)).cell? ⟨w.heap.size + 1 + 1, 2, none⟩ = some (.string td) ∧ w.heap.size + 1 + 1 < (((w.alloc (.cells #[.int .i64 ka, .int .i64 na, .string ta] 42)).alloc (.cells #[.int .i64 kb, .int .i64 nb, .string tb] 42)).alloc (.cells #[.int .i64 kd, .int .i64 nd, .string td] 42)).heap.size ∧ Below w.heap.size w (((w.alloc (.cells #[.int .i64 ka, .int .i64 na, .string ta] 42)).alloc (.cells #[.int .i64 kb, .int .i64 nb, .string tb] 42)).alloc (.cells #[.int .i64 kd, .int .i64 nd, .string td] 42)) := by
  have hbz := Below.refl (((w.alloc (.cells #[.int .i64 ka, .int .i64 na, .string ta] 42)).alloc (.cells #[.int .i64 kb, .int .i64 nb, .string tb] 42)).alloc (.cells #[.int .i64 kd, .int .i64 nd, .string td] 42)).heap.size (((w.alloc (.cells #[.int .i64 ka, .int .i64 na, .string ta] 42)).alloc (.cells #[.int .i64 kb, .int .i64 nb, .string tb] 42)).alloc (.cells #[.int .i64 kd, .int .i64 nd, .string td] 42))
  have l2 : w.heap.size + 1 + 1 < (((w.alloc (.cells #[.int .i64 ka, .int .i64 na, .string ta] 42)).alloc (.cells #[.int .i64 kb, .int .i64 nb, .string tb] 42)).alloc (.cells #[.int .i64 kd, .int .i64 nd, .string td] 42)).heap.size := by simp
  have l1 := Nat.lt_of_succ_lt l2
  have l0 := Nat.lt_of_succ_lt l1
  obtain ⟨c0, c1, c2, _, _, _⟩ := cells3 hbz l0 (heap_three _ _ _ _).1
  obtain ⟨d0, d1, d2, _, _, _⟩ := cells3 hbz l1 (heap_three _ _ _ _).2.1
  obtain ⟨e0, e1, e2, _, _, _⟩ := cells3 hbz l2 (heap_three _ _ _ _).2.2
  exact ⟨c0, c1, c2, d0, d1, d2, e0, e1, e2, l2, (((Below.refl _ w).alloc (Nat.le_refl _) _).alloc (by simp) _).alloc (by simp; omega) _⟩

set_option maxHeartbeats 4000000 in
theorem vorder_not1 (ka na : Int) (ta : ByteArray) (kb nb : Int) (tb : ByteArray) (kd nd : Int) (td : ByteArray) (c : Int) (w : World) (hL : Lits w) (hma : Hid (Val.may ⟨ka, na, ta.data.toList⟩ = false)) :
    Calls Tryd.prog 11 #[.agg #[.int .i64 ka, .int .i64 na, .string ta], .agg #[.int .i64 kb, .int .i64 nb, .string tb], .agg #[.int .i64 kd, .int .i64 nd, .string td], .int .i64 c] w fun e w' => e = .returned (.bool true) ∧ Below w.heap.size w w' := by
  go_enter Tryd.func11, Tryd.ntmps11
  go_wp2_with (first
    | (go_at_call 24; refine (head2_any _ (lits9 (start9 w ka na ta kb nb tb kd nd td) hL)).mono ?_; rintro e w1 ⟨rfl, hbN⟩; have hC := keep9 (start9 w ka na ta kb nb tb kd nd td) hbN; obtain ⟨ca0, ca1, ca2, cb0, cb1, cb2, cd0, cd1, cd2, hz, hB⟩ := id hC)
    | (go_at_call 27; refine (may_is _ _ _ _ (by assumption)).mono ?_; rintro e w1 ⟨rfl, hbN⟩; have hC := keep9 hC hbN; obtain ⟨ca0, ca1, ca2, cb0, cb1, cb2, cd0, cd1, cd2, hz, hB⟩ := id hC))
  go_ret
  exact ⟨rfl, hB⟩

set_option maxHeartbeats 4000000 in
theorem vorder_not2 (ka na : Int) (ta : ByteArray) (kb nb : Int) (tb : ByteArray) (kd nd : Int) (td : ByteArray) (c : Int) (w : World) (hL : Lits w) (hma : Hid (Val.may ⟨ka, na, ta.data.toList⟩ = true)) (hmb : Hid (Val.may ⟨kb, nb, tb.data.toList⟩ = false)) :
    Calls Tryd.prog 11 #[.agg #[.int .i64 ka, .int .i64 na, .string ta], .agg #[.int .i64 kb, .int .i64 nb, .string tb], .agg #[.int .i64 kd, .int .i64 nd, .string td], .int .i64 c] w fun e w' => e = .returned (.bool true) ∧ Below w.heap.size w w' := by
  go_enter Tryd.func11, Tryd.ntmps11
  go_wp2_with (first
    | (go_at_call 24; refine (head2_any _ (lits9 (start9 w ka na ta kb nb tb kd nd td) hL)).mono ?_; rintro e w1 ⟨rfl, hbN⟩; have hC := keep9 (start9 w ka na ta kb nb tb kd nd td) hbN; obtain ⟨ca0, ca1, ca2, cb0, cb1, cb2, cd0, cd1, cd2, hz, hB⟩ := id hC)
    | (go_at_call 27; refine (may_is _ _ _ _ (by assumption)).mono ?_; rintro e w1 ⟨rfl, hbN⟩; have hC := keep9 hC hbN; obtain ⟨ca0, ca1, ca2, cb0, cb1, cb2, cd0, cd1, cd2, hz, hB⟩ := id hC))
  go_ret
  exact ⟨rfl, hB⟩

set_option maxHeartbeats 4000000 in
theorem vorder_not3 (ka na : Int) (ta : ByteArray) (kb nb : Int) (tb : ByteArray) (kd nd : Int) (td : ByteArray) (c : Int) (w : World) (hL : Lits w) (hma : Hid (Val.may ⟨ka, na, ta.data.toList⟩ = true)) (hmb : Hid (Val.may ⟨kb, nb, tb.data.toList⟩ = true)) (hmd : Hid (Val.may ⟨kd, nd, td.data.toList⟩ = false)) :
    Calls Tryd.prog 11 #[.agg #[.int .i64 ka, .int .i64 na, .string ta], .agg #[.int .i64 kb, .int .i64 nb, .string tb], .agg #[.int .i64 kd, .int .i64 nd, .string td], .int .i64 c] w fun e w' => e = .returned (.bool true) ∧ Below w.heap.size w w' := by
  go_enter Tryd.func11, Tryd.ntmps11
  go_wp2_with (first
    | (go_at_call 24; refine (head2_any _ (lits9 (start9 w ka na ta kb nb tb kd nd td) hL)).mono ?_; rintro e w1 ⟨rfl, hbN⟩; have hC := keep9 (start9 w ka na ta kb nb tb kd nd td) hbN; obtain ⟨ca0, ca1, ca2, cb0, cb1, cb2, cd0, cd1, cd2, hz, hB⟩ := id hC)
    | (go_at_call 27; refine (may_is _ _ _ _ (by assumption)).mono ?_; rintro e w1 ⟨rfl, hbN⟩; have hC := keep9 hC hbN; obtain ⟨ca0, ca1, ca2, cb0, cb1, cb2, cd0, cd1, cd2, hz, hB⟩ := id hC))
  go_ret
  exact ⟨rfl, hB⟩

set_option maxHeartbeats 4000000 in
theorem vorder_yes (ka na : Int) (ta : ByteArray) (kb nb : Int) (tb : ByteArray) (kd nd : Int) (td : ByteArray) (c : Int) (w : World) (hL : Lits w) (hma : Hid (Val.may ⟨ka, na, ta.data.toList⟩ = true)) (hmb : Hid (Val.may ⟨kb, nb, tb.data.toList⟩ = true)) (hmd : Hid (Val.may ⟨kd, nd, td.data.toList⟩ = true)) (hsa : ta.size ≤ 1048576) (hsb : tb.size ≤ 1048576) (hsd : td.size ≤ 1048576) (x y z x' r0 : Int) (hx : Hid (Val.cmp ⟨ka, na, ta.data.toList⟩ ⟨kb, nb, tb.data.toList⟩ c = x)) (hy : Hid (Val.cmp ⟨kb, nb, tb.data.toList⟩ ⟨kd, nd, td.data.toList⟩ c = y)) (hz' : Hid (Val.cmp ⟨ka, na, ta.data.toList⟩ ⟨kd, nd, td.data.toList⟩ c = z)) (hx' : Hid (Val.cmp ⟨kb, nb, tb.data.toList⟩ ⟨ka, na, ta.data.toList⟩ c = x')) (haa : Hid (Val.cmp ⟨ka, na, ta.data.toList⟩ ⟨ka, na, ta.data.toList⟩ c = 0)) (hr0 : Hid (Val.cmp ⟨ka, na, ta.data.toList⟩ ⟨kb, nb, tb.data.toList⟩ 0 = r0)) (hcase : (x = 1 ∧ x' = -1) ∨ ((x = 0 ∧ x' = 0 ∨ x = -1 ∧ x' = 1) ∧ (decide (y ≤ 0) = false ∨ decide (y ≤ 0) = true ∧ decide (z > 0) = false))) (hlast : (r0 != 0) = true ∨ (r0 = 0 ∧ ka = kb ∧ na = nb ∧ ta = tb)) :
    Calls Tryd.prog 11 #[.agg #[.int .i64 ka, .int .i64 na, .string ta], .agg #[.int .i64 kb, .int .i64 nb, .string tb], .agg #[.int .i64 kd, .int .i64 nd, .string td], .int .i64 c] w fun e w' => e = .returned (.bool true) ∧ Below w.heap.size w w' := by
  go_enter Tryd.func11, Tryd.ntmps11
  go_wp2_with (first
    | (go_at_call 24; refine (head2_any _ (lits9 (start9 w ka na ta kb nb tb kd nd td) hL)).mono ?_; rintro e w1 ⟨rfl, hbN⟩; have hC := keep9 (start9 w ka na ta kb nb tb kd nd td) hbN; obtain ⟨ca0, ca1, ca2, cb0, cb1, cb2, cd0, cd1, cd2, hz, hB⟩ := id hC)
    | (go_at_call 27; refine (may_is _ _ _ _ (by assumption)).mono ?_; rintro e w1 ⟨rfl, hbN⟩; have hC := keep9 hC hbN; obtain ⟨ca0, ca1, ca2, cb0, cb1, cb2, cd0, cd1, cd2, hz, hB⟩ := id hC))
  go_region_held3 (fun W => W.cell? ⟨w.heap.size, 0, none⟩ = some (.int .i64 ka) ∧ W.cell? ⟨w.heap.size, 1, none⟩ = some (.int .i64 na) ∧ W.cell? ⟨w.heap.size, 2, none⟩ = some (.string ta) ∧ W.cell? ⟨w.heap.size + 1, 0, none⟩ = some (.int .i64 kb) ∧ W.cell? ⟨w.heap.size + 1, 1, none⟩ = some (.int .i64 nb) ∧ W.cell? ⟨w.heap.size + 1, 2, none⟩ = some (.string tb) ∧ W.cell? ⟨w.heap.size + 1 + 1, 0, none⟩ = some (.int .i64 kd) ∧ W.cell? ⟨w.heap.size + 1 + 1, 1, none⟩ = some (.int .i64 nd) ∧ W.cell? ⟨w.heap.size + 1 + 1, 2, none⟩ = some (.string td) ∧ w.heap.size + 1 + 1 < W.heap.size ∧ Below w.heap.size w W) (first | assumption | exact keep9 (by assumption) (by assumption) | exact keep90 (by assumption)) (first
    | (go_at_call 35; refine (vcmp_is _ _ _ _ _ _ _ _ (by assumption) (by assumption) _ (by assumption)).mono ?_; rintro e w1 ⟨rfl, hbN⟩))
  all_goals (
    rename_i hC
    obtain ⟨ca0, ca1, ca2, cb0, cb1, cb2, cd0, cd1, cd2, hz, hB⟩ := id hC
    rcases hcase with ⟨rfl, rfl⟩ | ⟨⟨rfl, rfl⟩ | ⟨rfl, rfl⟩, hyB | ⟨hyB, hzB⟩⟩
    all_goals (
      rcases hlast with hr | ⟨rfl, rfl, rfl, rfl⟩
      all_goals first
        | (exfalso; have hcon := hx.out.symm.trans haa.out; revert hcon; decide; done)
        | (go_wp2_with (first
          | (go_at_call 35; refine (vcmp_is _ _ _ _ _ _ _ _ (by assumption) (by assumption) _ (by assumption)).mono ?_; rintro e w1 ⟨rfl, hbN⟩; have hC := keep9 hC hbN; obtain ⟨ca0, ca1, ca2, cb0, cb1, cb2, cd0, cd1, cd2, hz, hB⟩ := id hC))
           go_ret
           exact ⟨rfl, hB⟩)))

theorem value_order (ka na : Int) (ta : ByteArray) (kb nb : Int) (tb : ByteArray) (kd nd : Int) (td : ByteArray) (c : Int) (w : World) (hsa : ta.size ≤ 1048576) (hsb : tb.size ≤ 1048576) (hsd : td.size ≤ 1048576) (hL : Lits w) :
    Calls Tryd.prog 11 #[.agg #[.int .i64 ka, .int .i64 na, .string ta], .agg #[.int .i64 kb, .int .i64 nb, .string tb], .agg #[.int .i64 kd, .int .i64 nd, .string td], .int .i64 c] w fun e w' => e = .returned (.bool true) ∧ Below w.heap.size w w' := by
  cases hma : Val.may ⟨ka, na, ta.data.toList⟩ with
  | false => exact vorder_not1 ka na ta kb nb tb kd nd td c w hL (Lib.hid hma)
  | true =>
    cases hmb : Val.may ⟨kb, nb, tb.data.toList⟩ with
    | false => exact vorder_not2 ka na ta kb nb tb kd nd td c w hL (Lib.hid hma) (Lib.hid hmb)
    | true =>
      cases hmd : Val.may ⟨kd, nd, td.data.toList⟩ with
      | false => exact vorder_not3 ka na ta kb nb tb kd nd td c w hL (Lib.hid hma) (Lib.hid hmb) (Lib.hid hmd)
      | true =>
        refine vorder_yes ka na ta kb nb tb kd nd td c w hL (Lib.hid hma) (Lib.hid hmb) (Lib.hid hmd) hsa hsb hsd _ _ _ _ _ (Lib.hid rfl) (Lib.hid rfl) (Lib.hid rfl) (Lib.hid rfl) (Lib.hid (Val.cmp_self _ _)) (Lib.hid rfl) ?_ ?_
        · have hn := Val.cmp_neg ⟨ka, na, ta.data.toList⟩ ⟨kb, nb, tb.data.toList⟩ c
          have ht := Val.cmp_trans ⟨ka, na, ta.data.toList⟩ ⟨kb, nb, tb.data.toList⟩ ⟨kd, nd, td.data.toList⟩ c hma hmb hmd
          rcases Val.cmp_range ⟨ka, na, ta.data.toList⟩ ⟨kb, nb, tb.data.toList⟩ c with h | h | h
          · right
            refine ⟨.inr ⟨h, by rw [hn, h]; rfl⟩, ?_⟩
            by_cases hy : Val.cmp ⟨kb, nb, tb.data.toList⟩ ⟨kd, nd, td.data.toList⟩ c ≤ 0
            · exact .inr ⟨decide_eq_true hy, decide_eq_false (by have := ht (by omega) hy; omega)⟩
            · exact .inl (decide_eq_false hy)
          · right
            refine ⟨.inl ⟨h, by rw [hn, h]; rfl⟩, ?_⟩
            by_cases hy : Val.cmp ⟨kb, nb, tb.data.toList⟩ ⟨kd, nd, td.data.toList⟩ c ≤ 0
            · exact .inr ⟨decide_eq_true hy, decide_eq_false (by have := ht (by omega) hy; omega)⟩
            · exact .inl (decide_eq_false hy)
          · left
            exact ⟨h, by rw [hn, h]⟩
        · by_cases h0 : Val.cmp ⟨ka, na, ta.data.toList⟩ ⟨kb, nb, tb.data.toList⟩ 0 = 0
          · right
            have e := Val.cmp_one _ _ hma hmb h0
            simp only [Val.V.mk.injEq] at e
            exact ⟨h0, e.1, e.2.1, bytes_inj e.2.2⟩
          · left
            simpa using h0

end Go.Proofs.YtiiaamkmnbegdaaDoor
