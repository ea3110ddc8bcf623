/- Walks: the law ValueRound. -/
import Derived.Test.YtiiaamkmnbegdaaDoorValW6
import Derived.Test.YtiiaamkmnbegdaaDoorValRnd
import Derived.Test.YtiiaamkmnbegdaaDoorPrtIt
namespace Go.Proofs.YtiiaamkmnbegdaaDoor
set_option maxRecDepth 100000
set_option linter.unusedVariables false
set_option linter.unusedSimpArgs false
open Go.RowKit

theorem read_is {k n : Int} {t : List UInt8} {E : Nat} (s : ByteArray) (w : World) (h : Hid (Val.read s.data.toList = (⟨k, n, t⟩, E))) (hL : Lits w) :
    Calls Tryd.prog 25 #[.string s] w fun e w' => e = .returned (.tuple #[.agg #[.int .i64 k, .int .i64 n, .string (bs t)], .int .i64 (E : Int)]) ∧ Below w.heap.size w w' :=
  (read_any s w hL).mono fun _ _ ⟨h1, h2⟩ => ⟨by rw [h1, h.out], h2⟩
theorem vprint_to {k n : Int} {t : List UInt8} (s : ByteArray) (w : World) (h : Hid (Val.print ⟨k, n, t⟩ = (s.data.toList, 0))) (hs : t.length ≤ 1048576) (h0 : -9223372036854775808 ≤ n) (h1 : n ≤ 9223372036854775807) (hL : Lits w) :
    Calls Tryd.prog 22 #[.agg #[.int .i64 k, .int .i64 n, .string (bs t)]] w fun e w' => e = .returned (.tuple #[.string s, .int .i64 0]) ∧ Below w.heap.size w w' :=
  (vprint_is (y := s.data.toList) (E := 0) k n (bs t) w (by rw [bs_data]; exact h) hs h0 h1 hL).mono fun _ _ ⟨h2, h3⟩ => ⟨by rw [h2, bs_of]; rfl, h3⟩
theorem may_yes {k n : Int} {t : List UInt8} (w : World) (h : Hid (Val.may ⟨k, n, t⟩ = true)) :
    Calls Tryd.prog 27 #[.agg #[.int .i64 k, .int .i64 n, .string (bs t)]] w fun e w' => e = .returned (.bool true) ∧ Below w.heap.size w w' := may_is k n (bs t) w h

/-- the second half of the law: a text that is read is written as it was -/
structure Half (s : ByteArray) (k n : Int) (t : List UInt8) (E : Nat) : Prop where
  read : Val.read s.data.toList = (⟨k, n, t⟩, E)
  errs : E = 0 ∨ E = 120 ∨ E = 3
  back : E = 0 → Val.print ⟨k, n, t⟩ = (s.data.toList, 0) ∧ Val.may ⟨k, n, t⟩ = true
  len : t.length ≤ 1048576
  lo : -9223372036854775808 ≤ n
  hi : n ≤ 9223372036854775807
theorem half_of (s : ByteArray) : ∃ k n t E, Half s k n t E := by
  obtain ⟨⟨⟨k, n, t⟩, E⟩, hr⟩ : ∃ q, Val.read s.data.toList = q := ⟨_, rfl⟩
  have hl : s.data.toList.length = s.size := rfl
  obtain ⟨f1, f2, f3⟩ := Val.guess_fits s.data.toList
  have hz : t.length ≤ 1048576 ∧ -9223372036854775808 ≤ n ∧ n ≤ 9223372036854775807 := by
    have hr' := hr
    unfold Val.read at hr'
    split at hr'
    · have := (Prod.mk.inj hr').1
      simp only [Val.zero, Val.V.mk.injEq] at this
      obtain ⟨rfl, rfl, rfl⟩ := this
      exact ⟨by simp, by decide, by decide⟩
    · rename_i hlong
      split at hr'
      · have := (Prod.mk.inj hr').1
        rw [this] at f1 f2 f3
        exact ⟨by simp only at f1; omega, f2, f3⟩
      · have := (Prod.mk.inj hr').1
        simp only [Val.zero, Val.V.mk.injEq] at this
        obtain ⟨rfl, rfl, rfl⟩ := this
        exact ⟨by simp, by decide, by decide⟩
  refine ⟨k, n, t, E, hr, ?_, ?_, hz.1, hz.2.1, hz.2.2⟩
  · have := Val.read_errs s.data.toList
    rw [hr] at this
    exact this
  · intro hE
    have := Val.print_read (s := s.data.toList) (by rw [hr]; exact hE)
    rw [hr] at this
    exact this

theorem read_back {k n : Int} {t : ByteArray} (y : List UInt8) (w : World) (h : Hid (Val.read y = (⟨k, n, t.data.toList⟩, 0))) (hL : Lits w) :
    Calls Tryd.prog 25 #[.string (bs y)] w fun e w' => e = .returned (.tuple #[.agg #[.int .i64 k, .int .i64 n, .string t], .int .i64 0]) ∧ Below w.heap.size w w' :=
  (read_is (k := k) (n := n) (t := t.data.toList) (E := 0) (bs y) w (by rw [bs_data]; exact h) hL).mono fun _ _ ⟨h1, h2⟩ => ⟨by rw [h1, bs_of]; rfl, h2⟩

set_option maxHeartbeats 1000000 in
theorem vround_n0 (k n : Int) (t s : ByteArray) (w : World) (h0 : -9223372036854775808 ≤ n) (h1 : n ≤ 9223372036854775807) (hL : Lits w) (k' n' : Int) (t' : List UInt8) (hlen : t'.length ≤ 1048576) (hlo : -9223372036854775808 ≤ n') (hhi : n' ≤ 9223372036854775807) (y : List UInt8) (hp : Hid (Val.print ⟨k, n, t.data.toList⟩ = (y, 2))) (hm : Hid (Val.may ⟨k, n, t.data.toList⟩ = false)) (hr : Hid (Val.read s.data.toList = (⟨k', n', t'⟩, 0))) (hbk : Hid (Val.print ⟨k', n', t'⟩ = (s.data.toList, 0))) (hmy : Hid (Val.may ⟨k', n', t'⟩ = true)) :
    Calls Tryd.prog 9 #[.agg #[.int .i64 k, .int .i64 n, .string t], .string s] w fun e w' => e = .returned (.bool true) ∧ Below w.heap.size w w' := by
  go_enter Tryd.func9, Tryd.ntmps9
  go_wp2_with (first
    | (go_at_call 24; refine (head2_any _ (hL.alloc _)).mono ?_; rintro e w1 ⟨rfl, hb1⟩; have hcell1 : w1.heap[w.heap.size]? = some (.cells #[.int .i64 k, .int .i64 n, .string t] 42 (0, 0)) := (hb1.block w.heap.size (by simp)).trans (heap_new _ _); obtain ⟨c10, c11, c12, _, _, _⟩ := cells3 hb1 (by simp) (heap_new _ _); have hz1 : w.heap.size < w1.heap.size := (by have := hb1.size; simp at this; omega); have hB1 : Below w.heap.size w w1 := ((Below.refl _ w).alloc (Nat.le_refl _) _).trans (hb1.mono (by simp)); have hL1 := (hL.alloc _).below hb1)
    | (go_at_call_of 22 (Value.agg #[.int .i64 k, .int .i64 n, .string t]); refine (vprint_it k n t _ hp h0 h1 hL1).mono ?_; rintro e w2 ⟨rfl, hb2⟩; have hcell2 : w2.heap[w.heap.size]? = some (.cells #[.int .i64 k, .int .i64 n, .string t] 42 (0, 0)) := (hb2.block w.heap.size hz1).trans hcell1; obtain ⟨c20, c21, c22, _, _, _⟩ := cells3 hb2 hz1 hcell1; have hz2 : w.heap.size < w2.heap.size := Nat.lt_of_lt_of_le hz1 hb2.size; have hB2 := hB1.trans (hb2.mono (Nat.le_of_lt hz1)); have hL2 := hL1.below hb2)
    | (go_at_call_of 27 (Value.agg #[.int .i64 k, .int .i64 n, .string t]); refine (may_is k n t _ hm).mono ?_; rintro e w3 ⟨rfl, hb3⟩; have hcell3 : w3.heap[w.heap.size]? = some (.cells #[.int .i64 k, .int .i64 n, .string t] 42 (0, 0)) := (hb3.block w.heap.size hz2).trans hcell2; obtain ⟨c30, c31, c32, _, _, _⟩ := cells3 hb3 hz2 hcell2; have hz3 : w.heap.size < w3.heap.size := Nat.lt_of_lt_of_le hz2 hb3.size; have hB3 := hB2.trans (hb3.mono (Nat.le_of_lt hz2)); have hL3 := hL2.below hb3)
    | (go_at_call_of 25 (Value.string s); refine (read_is s _ hr hL3).mono ?_; rintro e w6 ⟨rfl, hb6⟩; have hB6 := hB3.trans (hb6.mono (Nat.le_of_lt hz3)); have hz6 : w.heap.size < w6.heap.size := Nat.lt_of_lt_of_le hz3 hb6.size; have hL6 := (hL3.below hb6).alloc (.cells #[.int .i64 k', .int .i64 n', .string (bs t')] 42); have hB7 := hB6.alloc (Nat.le_of_lt hz6) (.cells #[.int .i64 k', .int .i64 n', .string (bs t')] 42))
    | (go_at_call 22; refine (vprint_to s _ hbk hlen hlo hhi hL6).mono ?_; rintro e w8 ⟨rfl, hb8⟩; obtain ⟨d0, d1, d2, _, _, _⟩ := cells3 hb8 (by simp) (heap_new _ _); have hB8 := hB7.trans (hb8.mono (by simp; omega)))
    | (go_at_call 27; refine (may_yes _ hmy).mono ?_; rintro e w9 ⟨rfl, hb9⟩))
  go_ret
  exact ⟨rfl, hB8.trans (hb9.mono hB8.size)⟩

set_option maxHeartbeats 1000000 in
theorem vround_n120 (k n : Int) (t s : ByteArray) (w : World) (h0 : -9223372036854775808 ≤ n) (h1 : n ≤ 9223372036854775807) (hL : Lits w) (k' n' : Int) (t' : List UInt8) (hlen : t'.length ≤ 1048576) (hlo : -9223372036854775808 ≤ n') (hhi : n' ≤ 9223372036854775807) (y : List UInt8) (hp : Hid (Val.print ⟨k, n, t.data.toList⟩ = (y, 2))) (hm : Hid (Val.may ⟨k, n, t.data.toList⟩ = false)) (hr : Hid (Val.read s.data.toList = (⟨k', n', t'⟩, 120))) :
    Calls Tryd.prog 9 #[.agg #[.int .i64 k, .int .i64 n, .string t], .string s] w fun e w' => e = .returned (.bool true) ∧ Below w.heap.size w w' := by
  go_enter Tryd.func9, Tryd.ntmps9
  go_wp2_with (first
    | (go_at_call 24; refine (head2_any _ (hL.alloc _)).mono ?_; rintro e w1 ⟨rfl, hb1⟩; have hcell1 : w1.heap[w.heap.size]? = some (.cells #[.int .i64 k, .int .i64 n, .string t] 42 (0, 0)) := (hb1.block w.heap.size (by simp)).trans (heap_new _ _); obtain ⟨c10, c11, c12, _, _, _⟩ := cells3 hb1 (by simp) (heap_new _ _); have hz1 : w.heap.size < w1.heap.size := (by have := hb1.size; simp at this; omega); have hB1 : Below w.heap.size w w1 := ((Below.refl _ w).alloc (Nat.le_refl _) _).trans (hb1.mono (by simp)); have hL1 := (hL.alloc _).below hb1)
    | (go_at_call_of 22 (Value.agg #[.int .i64 k, .int .i64 n, .string t]); refine (vprint_it k n t _ hp h0 h1 hL1).mono ?_; rintro e w2 ⟨rfl, hb2⟩; have hcell2 : w2.heap[w.heap.size]? = some (.cells #[.int .i64 k, .int .i64 n, .string t] 42 (0, 0)) := (hb2.block w.heap.size hz1).trans hcell1; obtain ⟨c20, c21, c22, _, _, _⟩ := cells3 hb2 hz1 hcell1; have hz2 : w.heap.size < w2.heap.size := Nat.lt_of_lt_of_le hz1 hb2.size; have hB2 := hB1.trans (hb2.mono (Nat.le_of_lt hz1)); have hL2 := hL1.below hb2)
    | (go_at_call_of 27 (Value.agg #[.int .i64 k, .int .i64 n, .string t]); refine (may_is k n t _ hm).mono ?_; rintro e w3 ⟨rfl, hb3⟩; have hcell3 : w3.heap[w.heap.size]? = some (.cells #[.int .i64 k, .int .i64 n, .string t] 42 (0, 0)) := (hb3.block w.heap.size hz2).trans hcell2; obtain ⟨c30, c31, c32, _, _, _⟩ := cells3 hb3 hz2 hcell2; have hz3 : w.heap.size < w3.heap.size := Nat.lt_of_lt_of_le hz2 hb3.size; have hB3 := hB2.trans (hb3.mono (Nat.le_of_lt hz2)); have hL3 := hL2.below hb3)
    | (go_at_call_of 25 (Value.string s); refine (read_is s _ hr hL3).mono ?_; rintro e w6 ⟨rfl, hb6⟩; have hB6 := hB3.trans (hb6.mono (Nat.le_of_lt hz3)); have hz6 : w.heap.size < w6.heap.size := Nat.lt_of_lt_of_le hz3 hb6.size; have hL6 := (hL3.below hb6).alloc (.cells #[.int .i64 k', .int .i64 n', .string (bs t')] 42); have hB7 := hB6.alloc (Nat.le_of_lt hz6) (.cells #[.int .i64 k', .int .i64 n', .string (bs t')] 42)))
  go_ret
  exact ⟨rfl, hB7⟩

set_option maxHeartbeats 1000000 in
theorem vround_n3 (k n : Int) (t s : ByteArray) (w : World) (h0 : -9223372036854775808 ≤ n) (h1 : n ≤ 9223372036854775807) (hL : Lits w) (k' n' : Int) (t' : List UInt8) (hlen : t'.length ≤ 1048576) (hlo : -9223372036854775808 ≤ n') (hhi : n' ≤ 9223372036854775807) (y : List UInt8) (hp : Hid (Val.print ⟨k, n, t.data.toList⟩ = (y, 2))) (hm : Hid (Val.may ⟨k, n, t.data.toList⟩ = false)) (hr : Hid (Val.read s.data.toList = (⟨k', n', t'⟩, 3))) :
    Calls Tryd.prog 9 #[.agg #[.int .i64 k, .int .i64 n, .string t], .string s] w fun e w' => e = .returned (.bool true) ∧ Below w.heap.size w w' := by
  go_enter Tryd.func9, Tryd.ntmps9
  go_wp2_with (first
    | (go_at_call 24; refine (head2_any _ (hL.alloc _)).mono ?_; rintro e w1 ⟨rfl, hb1⟩; have hcell1 : w1.heap[w.heap.size]? = some (.cells #[.int .i64 k, .int .i64 n, .string t] 42 (0, 0)) := (hb1.block w.heap.size (by simp)).trans (heap_new _ _); obtain ⟨c10, c11, c12, _, _, _⟩ := cells3 hb1 (by simp) (heap_new _ _); have hz1 : w.heap.size < w1.heap.size := (by have := hb1.size; simp at this; omega); have hB1 : Below w.heap.size w w1 := ((Below.refl _ w).alloc (Nat.le_refl _) _).trans (hb1.mono (by simp)); have hL1 := (hL.alloc _).below hb1)
    | (go_at_call_of 22 (Value.agg #[.int .i64 k, .int .i64 n, .string t]); refine (vprint_it k n t _ hp h0 h1 hL1).mono ?_; rintro e w2 ⟨rfl, hb2⟩; have hcell2 : w2.heap[w.heap.size]? = some (.cells #[.int .i64 k, .int .i64 n, .string t] 42 (0, 0)) := (hb2.block w.heap.size hz1).trans hcell1; obtain ⟨c20, c21, c22, _, _, _⟩ := cells3 hb2 hz1 hcell1; have hz2 : w.heap.size < w2.heap.size := Nat.lt_of_lt_of_le hz1 hb2.size; have hB2 := hB1.trans (hb2.mono (Nat.le_of_lt hz1)); have hL2 := hL1.below hb2)
    | (go_at_call_of 27 (Value.agg #[.int .i64 k, .int .i64 n, .string t]); refine (may_is k n t _ hm).mono ?_; rintro e w3 ⟨rfl, hb3⟩; have hcell3 : w3.heap[w.heap.size]? = some (.cells #[.int .i64 k, .int .i64 n, .string t] 42 (0, 0)) := (hb3.block w.heap.size hz2).trans hcell2; obtain ⟨c30, c31, c32, _, _, _⟩ := cells3 hb3 hz2 hcell2; have hz3 : w.heap.size < w3.heap.size := Nat.lt_of_lt_of_le hz2 hb3.size; have hB3 := hB2.trans (hb3.mono (Nat.le_of_lt hz2)); have hL3 := hL2.below hb3)
    | (go_at_call_of 25 (Value.string s); refine (read_is s _ hr hL3).mono ?_; rintro e w6 ⟨rfl, hb6⟩; have hB6 := hB3.trans (hb6.mono (Nat.le_of_lt hz3)); have hz6 : w.heap.size < w6.heap.size := Nat.lt_of_lt_of_le hz3 hb6.size; have hL6 := (hL3.below hb6).alloc (.cells #[.int .i64 k', .int .i64 n', .string (bs t')] 42); have hB7 := hB6.alloc (Nat.le_of_lt hz6) (.cells #[.int .i64 k', .int .i64 n', .string (bs t')] 42)))
  go_ret
  exact ⟨rfl, hB7⟩

set_option maxHeartbeats 1000000 in
theorem vround_y0 (k n : Int) (t s : ByteArray) (w : World) (h0 : -9223372036854775808 ≤ n) (h1 : n ≤ 9223372036854775807) (hL : Lits w) (k' n' : Int) (t' : List UInt8) (hlen : t'.length ≤ 1048576) (hlo : -9223372036854775808 ≤ n') (hhi : n' ≤ 9223372036854775807) (y : List UInt8) (hp : Hid (Val.print ⟨k, n, t.data.toList⟩ = (y, 0))) (hm : Hid (Val.may ⟨k, n, t.data.toList⟩ = true)) (hback : Hid (Val.read y = (⟨k, n, t.data.toList⟩, 0))) (hr : Hid (Val.read s.data.toList = (⟨k', n', t'⟩, 0))) (hbk : Hid (Val.print ⟨k', n', t'⟩ = (s.data.toList, 0))) (hmy : Hid (Val.may ⟨k', n', t'⟩ = true)) :
    Calls Tryd.prog 9 #[.agg #[.int .i64 k, .int .i64 n, .string t], .string s] w fun e w' => e = .returned (.bool true) ∧ Below w.heap.size w w' := by
  go_enter Tryd.func9, Tryd.ntmps9
  go_wp2_with (first
    | (go_at_call 24; refine (head2_any _ (hL.alloc _)).mono ?_; rintro e w1 ⟨rfl, hb1⟩; have hcell1 : w1.heap[w.heap.size]? = some (.cells #[.int .i64 k, .int .i64 n, .string t] 42 (0, 0)) := (hb1.block w.heap.size (by simp)).trans (heap_new _ _); obtain ⟨c10, c11, c12, _, _, _⟩ := cells3 hb1 (by simp) (heap_new _ _); have hz1 : w.heap.size < w1.heap.size := (by have := hb1.size; simp at this; omega); have hB1 : Below w.heap.size w w1 := ((Below.refl _ w).alloc (Nat.le_refl _) _).trans (hb1.mono (by simp)); have hL1 := (hL.alloc _).below hb1)
    | (go_at_call_of 22 (Value.agg #[.int .i64 k, .int .i64 n, .string t]); refine (vprint_it k n t _ hp h0 h1 hL1).mono ?_; rintro e w2 ⟨rfl, hb2⟩; have hcell2 : w2.heap[w.heap.size]? = some (.cells #[.int .i64 k, .int .i64 n, .string t] 42 (0, 0)) := (hb2.block w.heap.size hz1).trans hcell1; obtain ⟨c20, c21, c22, _, _, _⟩ := cells3 hb2 hz1 hcell1; have hz2 : w.heap.size < w2.heap.size := Nat.lt_of_lt_of_le hz1 hb2.size; have hB2 := hB1.trans (hb2.mono (Nat.le_of_lt hz1)); have hL2 := hL1.below hb2)
    | (go_at_call_of 27 (Value.agg #[.int .i64 k, .int .i64 n, .string t]); refine (may_is k n t _ hm).mono ?_; rintro e w3 ⟨rfl, hb3⟩; have hcell3 : w3.heap[w.heap.size]? = some (.cells #[.int .i64 k, .int .i64 n, .string t] 42 (0, 0)) := (hb3.block w.heap.size hz2).trans hcell2; obtain ⟨c30, c31, c32, _, _, _⟩ := cells3 hb3 hz2 hcell2; have hz3 : w.heap.size < w3.heap.size := Nat.lt_of_lt_of_le hz2 hb3.size; have hB3 := hB2.trans (hb3.mono (Nat.le_of_lt hz2)); have hL3 := hL2.below hb3)
    | (go_at_call_of 25 (Value.string (bs y)); refine (read_back y _ hback hL3).mono ?_; rintro e w4 ⟨rfl, hb4⟩; have hcell4 : w4.heap[w.heap.size]? = some (.cells #[.int .i64 k, .int .i64 n, .string t] 42 (0, 0)) := (hb4.block w.heap.size hz3).trans hcell3; obtain ⟨c40, c41, c42, _, _, _⟩ := cells3 hb4 hz3 hcell3; have hz4 : w.heap.size < w4.heap.size := Nat.lt_of_lt_of_le hz3 hb4.size; have hB4 := hB3.trans (hb4.mono (Nat.le_of_lt hz3)); have hL4 := (hL3.below hb4).alloc (.cells #[.int .i64 k, .int .i64 n, .string t] 42); have hB5 := hB4.alloc (Nat.le_of_lt hz4) (.cells #[.int .i64 k, .int .i64 n, .string t] 42); have hz5 : w.heap.size < (w4.alloc (.cells #[.int .i64 k, .int .i64 n, .string t] 42)).heap.size := (by simp; omega))
    | (go_at_call_of 25 (Value.string s); refine (read_is s _ hr hL4).mono ?_; rintro e w6 ⟨rfl, hb6⟩; have hB6 := hB5.trans (hb6.mono (Nat.le_of_lt hz5)); have hz6 : w.heap.size < w6.heap.size := Nat.lt_of_lt_of_le hz5 hb6.size; have hL6 := (hL4.below hb6).alloc (.cells #[.int .i64 k', .int .i64 n', .string (bs t')] 42); have hB7 := hB6.alloc (Nat.le_of_lt hz6) (.cells #[.int .i64 k', .int .i64 n', .string (bs t')] 42))
    | (go_at_call 22; refine (vprint_to s _ hbk hlen hlo hhi hL6).mono ?_; rintro e w8 ⟨rfl, hb8⟩; obtain ⟨d0, d1, d2, _, _, _⟩ := cells3 hb8 (by simp) (heap_new _ _); have hB8 := hB7.trans (hb8.mono (by simp; omega)))
    | (go_at_call 27; refine (may_yes _ hmy).mono ?_; rintro e w9 ⟨rfl, hb9⟩))
  go_ret
  exact ⟨rfl, hB8.trans (hb9.mono hB8.size)⟩

set_option maxHeartbeats 1000000 in
theorem vround_y120 (k n : Int) (t s : ByteArray) (w : World) (h0 : -9223372036854775808 ≤ n) (h1 : n ≤ 9223372036854775807) (hL : Lits w) (k' n' : Int) (t' : List UInt8) (hlen : t'.length ≤ 1048576) (hlo : -9223372036854775808 ≤ n') (hhi : n' ≤ 9223372036854775807) (y : List UInt8) (hp : Hid (Val.print ⟨k, n, t.data.toList⟩ = (y, 0))) (hm : Hid (Val.may ⟨k, n, t.data.toList⟩ = true)) (hback : Hid (Val.read y = (⟨k, n, t.data.toList⟩, 0))) (hr : Hid (Val.read s.data.toList = (⟨k', n', t'⟩, 120))) :
    Calls Tryd.prog 9 #[.agg #[.int .i64 k, .int .i64 n, .string t], .string s] w fun e w' => e = .returned (.bool true) ∧ Below w.heap.size w w' := by
  go_enter Tryd.func9, Tryd.ntmps9
  go_wp2_with (first
    | (go_at_call 24; refine (head2_any _ (hL.alloc _)).mono ?_; rintro e w1 ⟨rfl, hb1⟩; have hcell1 : w1.heap[w.heap.size]? = some (.cells #[.int .i64 k, .int .i64 n, .string t] 42 (0, 0)) := (hb1.block w.heap.size (by simp)).trans (heap_new _ _); obtain ⟨c10, c11, c12, _, _, _⟩ := cells3 hb1 (by simp) (heap_new _ _); have hz1 : w.heap.size < w1.heap.size := (by have := hb1.size; simp at this; omega); have hB1 : Below w.heap.size w w1 := ((Below.refl _ w).alloc (Nat.le_refl _) _).trans (hb1.mono (by simp)); have hL1 := (hL.alloc _).below hb1)
    | (go_at_call_of 22 (Value.agg #[.int .i64 k, .int .i64 n, .string t]); refine (vprint_it k n t _ hp h0 h1 hL1).mono ?_; rintro e w2 ⟨rfl, hb2⟩; have hcell2 : w2.heap[w.heap.size]? = some (.cells #[.int .i64 k, .int .i64 n, .string t] 42 (0, 0)) := (hb2.block w.heap.size hz1).trans hcell1; obtain ⟨c20, c21, c22, _, _, _⟩ := cells3 hb2 hz1 hcell1; have hz2 : w.heap.size < w2.heap.size := Nat.lt_of_lt_of_le hz1 hb2.size; have hB2 := hB1.trans (hb2.mono (Nat.le_of_lt hz1)); have hL2 := hL1.below hb2)
    | (go_at_call_of 27 (Value.agg #[.int .i64 k, .int .i64 n, .string t]); refine (may_is k n t _ hm).mono ?_; rintro e w3 ⟨rfl, hb3⟩; have hcell3 : w3.heap[w.heap.size]? = some (.cells #[.int .i64 k, .int .i64 n, .string t] 42 (0, 0)) := (hb3.block w.heap.size hz2).trans hcell2; obtain ⟨c30, c31, c32, _, _, _⟩ := cells3 hb3 hz2 hcell2; have hz3 : w.heap.size < w3.heap.size := Nat.lt_of_lt_of_le hz2 hb3.size; have hB3 := hB2.trans (hb3.mono (Nat.le_of_lt hz2)); have hL3 := hL2.below hb3)
    | (go_at_call_of 25 (Value.string (bs y)); refine (read_back y _ hback hL3).mono ?_; rintro e w4 ⟨rfl, hb4⟩; have hcell4 : w4.heap[w.heap.size]? = some (.cells #[.int .i64 k, .int .i64 n, .string t] 42 (0, 0)) := (hb4.block w.heap.size hz3).trans hcell3; obtain ⟨c40, c41, c42, _, _, _⟩ := cells3 hb4 hz3 hcell3; have hz4 : w.heap.size < w4.heap.size := Nat.lt_of_lt_of_le hz3 hb4.size; have hB4 := hB3.trans (hb4.mono (Nat.le_of_lt hz3)); have hL4 := (hL3.below hb4).alloc (.cells #[.int .i64 k, .int .i64 n, .string t] 42); have hB5 := hB4.alloc (Nat.le_of_lt hz4) (.cells #[.int .i64 k, .int .i64 n, .string t] 42); have hz5 : w.heap.size < (w4.alloc (.cells #[.int .i64 k, .int .i64 n, .string t] 42)).heap.size := (by simp; omega))
    | (go_at_call_of 25 (Value.string s); refine (read_is s _ hr hL4).mono ?_; rintro e w6 ⟨rfl, hb6⟩; have hB6 := hB5.trans (hb6.mono (Nat.le_of_lt hz5)); have hz6 : w.heap.size < w6.heap.size := Nat.lt_of_lt_of_le hz5 hb6.size; have hL6 := (hL4.below hb6).alloc (.cells #[.int .i64 k', .int .i64 n', .string (bs t')] 42); have hB7 := hB6.alloc (Nat.le_of_lt hz6) (.cells #[.int .i64 k', .int .i64 n', .string (bs t')] 42)))
  go_ret
  exact ⟨rfl, hB7⟩

set_option maxHeartbeats 1000000 in
theorem vround_y3 (k n : Int) (t s : ByteArray) (w : World) (h0 : -9223372036854775808 ≤ n) (h1 : n ≤ 9223372036854775807) (hL : Lits w) (k' n' : Int) (t' : List UInt8) (hlen : t'.length ≤ 1048576) (hlo : -9223372036854775808 ≤ n') (hhi : n' ≤ 9223372036854775807) (y : List UInt8) (hp : Hid (Val.print ⟨k, n, t.data.toList⟩ = (y, 0))) (hm : Hid (Val.may ⟨k, n, t.data.toList⟩ = true)) (hback : Hid (Val.read y = (⟨k, n, t.data.toList⟩, 0))) (hr : Hid (Val.read s.data.toList = (⟨k', n', t'⟩, 3))) :
    Calls Tryd.prog 9 #[.agg #[.int .i64 k, .int .i64 n, .string t], .string s] w fun e w' => e = .returned (.bool true) ∧ Below w.heap.size w w' := by
  go_enter Tryd.func9, Tryd.ntmps9
  go_wp2_with (first
    | (go_at_call 24; refine (head2_any _ (hL.alloc _)).mono ?_; rintro e w1 ⟨rfl, hb1⟩; have hcell1 : w1.heap[w.heap.size]? = some (.cells #[.int .i64 k, .int .i64 n, .string t] 42 (0, 0)) := (hb1.block w.heap.size (by simp)).trans (heap_new _ _); obtain ⟨c10, c11, c12, _, _, _⟩ := cells3 hb1 (by simp) (heap_new _ _); have hz1 : w.heap.size < w1.heap.size := (by have := hb1.size; simp at this; omega); have hB1 : Below w.heap.size w w1 := ((Below.refl _ w).alloc (Nat.le_refl _) _).trans (hb1.mono (by simp)); have hL1 := (hL.alloc _).below hb1)
    | (go_at_call_of 22 (Value.agg #[.int .i64 k, .int .i64 n, .string t]); refine (vprint_it k n t _ hp h0 h1 hL1).mono ?_; rintro e w2 ⟨rfl, hb2⟩; have hcell2 : w2.heap[w.heap.size]? = some (.cells #[.int .i64 k, .int .i64 n, .string t] 42 (0, 0)) := (hb2.block w.heap.size hz1).trans hcell1; obtain ⟨c20, c21, c22, _, _, _⟩ := cells3 hb2 hz1 hcell1; have hz2 : w.heap.size < w2.heap.size := Nat.lt_of_lt_of_le hz1 hb2.size; have hB2 := hB1.trans (hb2.mono (Nat.le_of_lt hz1)); have hL2 := hL1.below hb2)
    | (go_at_call_of 27 (Value.agg #[.int .i64 k, .int .i64 n, .string t]); refine (may_is k n t _ hm).mono ?_; rintro e w3 ⟨rfl, hb3⟩; have hcell3 : w3.heap[w.heap.size]? = some (.cells #[.int .i64 k, .int .i64 n, .string t] 42 (0, 0)) := (hb3.block w.heap.size hz2).trans hcell2; obtain ⟨c30, c31, c32, _, _, _⟩ := cells3 hb3 hz2 hcell2; have hz3 : w.heap.size < w3.heap.size := Nat.lt_of_lt_of_le hz2 hb3.size; have hB3 := hB2.trans (hb3.mono (Nat.le_of_lt hz2)); have hL3 := hL2.below hb3)
    | (go_at_call_of 25 (Value.string (bs y)); refine (read_back y _ hback hL3).mono ?_; rintro e w4 ⟨rfl, hb4⟩; have hcell4 : w4.heap[w.heap.size]? = some (.cells #[.int .i64 k, .int .i64 n, .string t] 42 (0, 0)) := (hb4.block w.heap.size hz3).trans hcell3; obtain ⟨c40, c41, c42, _, _, _⟩ := cells3 hb4 hz3 hcell3; have hz4 : w.heap.size < w4.heap.size := Nat.lt_of_lt_of_le hz3 hb4.size; have hB4 := hB3.trans (hb4.mono (Nat.le_of_lt hz3)); have hL4 := (hL3.below hb4).alloc (.cells #[.int .i64 k, .int .i64 n, .string t] 42); have hB5 := hB4.alloc (Nat.le_of_lt hz4) (.cells #[.int .i64 k, .int .i64 n, .string t] 42); have hz5 : w.heap.size < (w4.alloc (.cells #[.int .i64 k, .int .i64 n, .string t] 42)).heap.size := (by simp; omega))
    | (go_at_call_of 25 (Value.string s); refine (read_is s _ hr hL4).mono ?_; rintro e w6 ⟨rfl, hb6⟩; have hB6 := hB5.trans (hb6.mono (Nat.le_of_lt hz5)); have hz6 : w.heap.size < w6.heap.size := Nat.lt_of_lt_of_le hz5 hb6.size; have hL6 := (hL4.below hb6).alloc (.cells #[.int .i64 k', .int .i64 n', .string (bs t')] 42); have hB7 := hB6.alloc (Nat.le_of_lt hz6) (.cells #[.int .i64 k', .int .i64 n', .string (bs t')] 42)))
  go_ret
  exact ⟨rfl, hB7⟩

theorem value_round (k n : Int) (t s : ByteArray) (w : World) (h0 : -9223372036854775808 ≤ n) (h1 : n ≤ 9223372036854775807) (hL : Lits w) :
    Calls Tryd.prog 9 #[.agg #[.int .i64 k, .int .i64 n, .string t], .string s] w fun e w' => e = .returned (.bool true) ∧ Below w.heap.size w w' := by
  obtain ⟨k', n', t', E, H⟩ := half_of s
  obtain ⟨⟨y, F⟩, hp⟩ : ∃ q, Val.print ⟨k, n, t.data.toList⟩ = q := ⟨_, rfl⟩
  have hr := H.read
  have hpe := Val.print_errs ⟨k, n, t.data.toList⟩
  rw [hp] at hpe
  simp only at hpe
  rcases hpe with ⟨rfl, hm⟩ | ⟨rfl, hm⟩
  · have hback : Val.read y = (⟨k, n, t.data.toList⟩, 0) := by
      have := Val.read_print hm h0 h1
      rw [hp] at this; exact this
    rcases H.errs with rfl | rfl | rfl
    · exact vround_y0 k n t s w h0 h1 hL k' n' t' H.len H.lo H.hi y hp hm hback hr (H.back rfl).1 (H.back rfl).2
    · exact vround_y120 k n t s w h0 h1 hL k' n' t' H.len H.lo H.hi y hp hm hback hr
    · exact vround_y3 k n t s w h0 h1 hL k' n' t' H.len H.lo H.hi y hp hm hback hr
  · rcases H.errs with rfl | rfl | rfl
    · exact vround_n0 k n t s w h0 h1 hL k' n' t' H.len H.lo H.hi y hp hm hr (H.back rfl).1 (H.back rfl).2
    · exact vround_n120 k n t s w h0 h1 hL k' n' t' H.len H.lo H.hi y hp hm hr
    · exact vround_n3 k n t s w h0 h1 hL k' n' t' H.len H.lo H.hi y hp hm hr

end Go.Proofs.YtiiaamkmnbegdaaDoor
