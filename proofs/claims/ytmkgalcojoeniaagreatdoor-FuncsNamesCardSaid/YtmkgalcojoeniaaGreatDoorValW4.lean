/- Walks: Read of package value. -/
import Derived.Test.YtmkgalcojoeniaaGreatDoorValW3
import Derived.Test.YtmkgalcojoeniaaGreatDoorPlain
set_option maxRecDepth 100000
set_option linter.unusedVariables false
set_option linter.unusedSimpArgs false
namespace Go.Proofs.YtmkgalcojoeniaaGreatDoor
open Go.RowKit

/-- what Read answers -/
def ReadP (s : ByteArray) (w : World) (e : Ending) (w' : World) : Prop :=
  e = .returned (.tuple #[.agg #[.int .i64 (Val.read s.data.toList).1.kind, .int .i64 (Val.read s.data.toList).1.int, .string (bs (Val.read s.data.toList).1.text)], .int .i64 ((Val.read s.data.toList).2 : Int)]) ∧ Below w.heap.size w w'

theorem guess_is {k n : Int} {t : List UInt8} (s : ByteArray) (w : World) (h : Hid (Val.guess s.data.toList = ⟨k, n, t⟩)) (hs : s.size ≤ 1048576) (hL : Lits w) :
    Calls Tryz.prog 42 #[.string s] w fun e w' => e = .returned (.agg #[.int .i64 k, .int .i64 n, .string (bs t)]) ∧ Below w.heap.size w w' :=
  (guess_any s w hs hL).mono fun _ _ ⟨h1, h2⟩ => ⟨by rw [h1, h.out], h2⟩
theorem vprint_is {y : List UInt8} {E : Nat} (k n : Int) (t : ByteArray) (w : World) (h : Hid (Val.print ⟨k, n, t.data.toList⟩ = (y, E))) (hs : t.size ≤ 1048576) (h0 : -9223372036854775808 ≤ n) (h1 : n ≤ 9223372036854775807) (hL : Lits w) :
    Calls Tryz.prog 43 #[.agg #[.int .i64 k, .int .i64 n, .string t]] w fun e w' => e = .returned (.tuple #[.string (bs y), .int .i64 (E : Int)]) ∧ Below w.heap.size w w' :=
  (vprint_any k n t w hs h0 h1 hL).mono fun _ _ ⟨h2, h3⟩ => ⟨by rw [h2, h.out], h3⟩

theorem read_long (s : ByteArray) (w : World) (h : 1000 < s.size) :
    Calls Tryz.prog 21 #[.string s] w (ReadP s w) := by
  have hl : s.data.toList.length = s.size := rfl
  have hr : Val.read s.data.toList = (Val.zero, 3) := by rw [Val.read, if_pos (by rw [hl]; exact h)]
  have b1 : decide ((s.size : Int) > 1000) = true := by simp; omega
  replace hr := Lib.hid hr
  go_enter Tryz.func21, Tryz.ntmps21
  go_wp2
  refine bodyPost_ret (v := .tuple #[.agg #[.int .i64 0, .int .i64 0, .string ⟨#[]⟩], .int .i64 3]) (by simp only [results, Tryz.results21]; go_simp) rfl ?_
  refine ⟨by rw [hr.out]; rfl, ?_⟩
  exact (Below.refl _ w).alloc (Nat.le_refl _) _

set_option maxHeartbeats 400000 in
theorem read_short (s : ByteArray) (w : World) (h : s.size ≤ 1000) (hL : Lits w) :
    Calls Tryz.prog 21 #[.string s] w (ReadP s w) := by
  have hl : s.data.toList.length = s.size := rfl
  obtain ⟨f1, f2, f3⟩ := Val.guess_fits s.data.toList
  obtain ⟨⟨k, n, t⟩, hg⟩ : ∃ v, Val.guess s.data.toList = v := ⟨_, rfl⟩
  rw [hg] at f1 f2 f3
  simp only at f1 f2 f3
  obtain ⟨⟨y, E⟩, hp⟩ : ∃ q, Val.print ⟨k, n, t⟩ = q := ⟨_, rfl⟩
  have hr : Val.read s.data.toList = if E = 0 ∧ y = s.data.toList then (⟨k, n, t⟩, 0) else (Val.zero, 120) := by
    rw [Val.read, if_neg (by omega), hg, hp]
  have hp' : Val.print ⟨k, n, (bs t).data.toList⟩ = (y, E) := hp
  have hs : s.size ≤ 1048576 := by omega
  have ht : (bs t).size ≤ 1048576 := by rw [bs_size]; omega
  have b1 : decide ((s.size : Int) > 1000) = false := by simp; omega
  replace hg := Lib.hid hg
  replace hp' := Lib.hid hp'
  clear hp hl
  by_cases hE : E = 0
  · subst hE
    by_cases hy : y = s.data.toList
    · rw [if_pos ⟨rfl, hy⟩] at hr
      have hys : bs y = s := by rw [hy, bs_of]
      replace hr := Lib.hid hr
      replace hys := Lib.hid hys
      clear hy
      go_enter Tryz.func21, Tryz.ntmps21
      go_wp2_with (first
        | (go_at_call 42; refine (guess_is s _ hg hs (hL.alloc _)).mono ?_; rintro e w1 ⟨rfl, hb⟩; have hcell : w1.heap[w.heap.size]? = some (.cells #[.int .i64 0, .int .i64 0, .string ⟨#[]⟩] 25 (0, 0)) := (hb.block w.heap.size (by simp)).trans (heap_new _ _); have hz1 : w.heap.size < w1.heap.size := (by have := hb.size; simp at this; omega); have hB1 : Below w.heap.size w w1 := ((Below.refl _ w).alloc (Nat.le_refl _) _).trans (hb.mono (by simp)); have hL1 := (hL.alloc _).below hb)
        | (go_at_call 43; refine (vprint_is k n (bs t) _ hp' ht f2 f3 (hL1.alloc _)).mono ?_; rintro e w2 ⟨rfl, hb2⟩; rw [hys.out]; have hB2 : Below w1.heap.size w1 w2 := ((Below.refl _ w1).alloc (Nat.le_refl _) _).trans (hb2.mono (by simp)); obtain ⟨c0, c1, c2, u0, u1, u2⟩ := cells3 hb2 (by simp) (heap_new _ _); obtain ⟨d0, d1, d2, g0, g1, g2⟩ := cells3 hB2 hz1 hcell; have hz2 : w.heap.size < w2.heap.size := Nat.lt_of_lt_of_le hz1 hB2.size; have hB3 : Below w.heap.size w w2 := hB1.trans (hB2.mono (Nat.le_of_lt hz1))))
      refine bodyPost_ret (v := .tuple #[.agg #[.int .i64 k, .int .i64 n, .string (bs t)], .int .i64 0]) (by simp only [results, Tryz.results21]; go_simp) rfl ?_
      refine ⟨by rw [hr.out]; rfl, ?_⟩
      exact below_set3 hB3
    · rw [if_neg (fun hh => hy hh.2)] at hr
      have b2 : ((bs y).toList == s.toList) = false := by
        rw [Lib.toList_data, Lib.toList_data, bs_data]
        simp only [beq_eq_false_iff_ne]; exact hy
      replace hr := Lib.hid hr
      clear hy
      go_enter Tryz.func21, Tryz.ntmps21
      go_wp2_with (first
        | (go_at_call 42; refine (guess_is s _ hg hs (hL.alloc _)).mono ?_; rintro e w1 ⟨rfl, hb⟩; have hcell : w1.heap[w.heap.size]? = some (.cells #[.int .i64 0, .int .i64 0, .string ⟨#[]⟩] 25 (0, 0)) := (hb.block w.heap.size (by simp)).trans (heap_new _ _); have hz1 : w.heap.size < w1.heap.size := (by have := hb.size; simp at this; omega); have hB1 : Below w.heap.size w w1 := ((Below.refl _ w).alloc (Nat.le_refl _) _).trans (hb.mono (by simp)); have hL1 := (hL.alloc _).below hb)
        | (go_at_call 43; refine (vprint_is k n (bs t) _ hp' ht f2 f3 (hL1.alloc _)).mono ?_; rintro e w2 ⟨rfl, hb2⟩; have hB2 : Below w1.heap.size w1 w2 := ((Below.refl _ w1).alloc (Nat.le_refl _) _).trans (hb2.mono (by simp)); obtain ⟨c0, c1, c2, u0, u1, u2⟩ := cells3 hb2 (by simp) (heap_new _ _); obtain ⟨d0, d1, d2, g0, g1, g2⟩ := cells3 hB2 hz1 hcell; have hz2 : w.heap.size < w2.heap.size := Nat.lt_of_lt_of_le hz1 hB2.size; have hB3 : Below w.heap.size w w2 := hB1.trans (hB2.mono (Nat.le_of_lt hz1))))
      refine bodyPost_ret (v := .tuple #[.agg #[.int .i64 0, .int .i64 0, .string ⟨#[]⟩], .int .i64 120]) (by simp only [results, Tryz.results21]; go_simp) rfl ?_
      refine ⟨by rw [hr.out]; rfl, ?_⟩
      exact below_set3 hB3
  · rw [if_neg (fun hh => hE hh.1)] at hr
    have b2 : ((E : Int) != 0) = true := by simp; omega
    replace hr := Lib.hid hr
    clear hE
    go_enter Tryz.func21, Tryz.ntmps21
    go_wp2_with (first
      | (go_at_call 42; refine (guess_is s _ hg hs (hL.alloc _)).mono ?_; rintro e w1 ⟨rfl, hb⟩; have hcell : w1.heap[w.heap.size]? = some (.cells #[.int .i64 0, .int .i64 0, .string ⟨#[]⟩] 25 (0, 0)) := (hb.block w.heap.size (by simp)).trans (heap_new _ _); have hz1 : w.heap.size < w1.heap.size := (by have := hb.size; simp at this; omega); have hB1 : Below w.heap.size w w1 := ((Below.refl _ w).alloc (Nat.le_refl _) _).trans (hb.mono (by simp)); have hL1 := (hL.alloc _).below hb)
      | (go_at_call 43; refine (vprint_is k n (bs t) _ hp' ht f2 f3 (hL1.alloc _)).mono ?_; rintro e w2 ⟨rfl, hb2⟩; have hB2 : Below w1.heap.size w1 w2 := ((Below.refl _ w1).alloc (Nat.le_refl _) _).trans (hb2.mono (by simp)); obtain ⟨c0, c1, c2, u0, u1, u2⟩ := cells3 hb2 (by simp) (heap_new _ _); obtain ⟨d0, d1, d2, g0, g1, g2⟩ := cells3 hB2 hz1 hcell; have hz2 : w.heap.size < w2.heap.size := Nat.lt_of_lt_of_le hz1 hB2.size; have hB3 : Below w.heap.size w w2 := hB1.trans (hB2.mono (Nat.le_of_lt hz1))))
    refine bodyPost_ret (v := .tuple #[.agg #[.int .i64 0, .int .i64 0, .string ⟨#[]⟩], .int .i64 120]) (by simp only [results, Tryz.results21]; go_simp) rfl ?_
    refine ⟨by rw [hr.out]; rfl, ?_⟩
    exact below_set3 hB3

theorem read_any (s : ByteArray) (w : World) (hL : Lits w) :
    Calls Tryz.prog 21 #[.string s] w (ReadP s w) := by
  by_cases h : 1000 < s.size
  · exact read_long s w h
  · exact read_short s w (by omega) hL

end Go.Proofs.YtmkgalcojoeniaaGreatDoor
