/- Walks: Print of package value. -/
import Derived.Test.YtmkgalcojoeniaaGreatDoorValW1
import Derived.Test.YtmkgalcojoeniaaGreatDoorLits
set_option maxRecDepth 100000
set_option linter.unusedVariables false
set_option linter.unusedSimpArgs false
namespace Go.Proofs.YtmkgalcojoeniaaGreatDoor
open Go.RowKit

/-- what Print answers -/
def VPrintP (k n : Int) (t : ByteArray) (w : World) (e : Ending) (w' : World) : Prop :=
  e = .returned (.tuple #[.string (bs (Val.print ⟨k, n, t.data.toList⟩).1), .int .i64 ((Val.print ⟨k, n, t.data.toList⟩).2 : Int)]) ∧ Below w.heap.size w w'

theorem vprint_no (k n : Int) (t : ByteArray) (w : World) (h : Val.may ⟨k, n, t.data.toList⟩ = false) :
    Calls Tryz.prog 43 #[.agg #[.int .i64 k, .int .i64 n, .string t]] w (VPrintP k n t w) := by
  have hp := Val.print_no h
  replace hp := Lib.hid hp
  replace h := Lib.hid h
  go_enter Tryz.func43, Tryz.ntmps43
  go_wp2_with (go_at_call 18; refine (may_is _ _ _ _ h).mono ?_; rintro e w1 ⟨rfl, hb⟩)
  go_ret2
  exact ⟨by rw [hp.out]; rfl, ((Below.refl _ w).alloc (Nat.le_refl _) _).trans (hb.mono (by simp))⟩

theorem vprint_null (n : Int) (t : ByteArray) (w : World) (h : Val.may ⟨0, n, t.data.toList⟩ = true) :
    Calls Tryz.prog 43 #[.agg #[.int .i64 0, .int .i64 n, .string t]] w (VPrintP 0 n t w) := by
  have hp := Val.print_null h rfl
  replace hp := Lib.hid hp
  replace h := Lib.hid h
  go_enter Tryz.func43, Tryz.ntmps43
  go_wp2_with (go_at_call 18; refine (may_is _ _ _ _ h).mono ?_; rintro e w1 ⟨rfl, hb⟩; obtain ⟨c0, c1, c2, f0, f1, f2⟩ := cells3 hb (by simp) (heap_new _ _))
  go_ret2
  exact ⟨by rw [hp.out]; rfl, ((Below.refl _ w).alloc (Nat.le_refl _) _).trans (hb.mono (by simp))⟩

theorem vprint_int (n : Int) (t : ByteArray) (w : World) (h : Val.may ⟨1, n, t.data.toList⟩ = true) (h0 : -9223372036854775808 ≤ n) (h1 : n ≤ 9223372036854775807) (hL : Lits w) :
    Calls Tryz.prog 43 #[.agg #[.int .i64 1, .int .i64 n, .string t]] w (VPrintP 1 n t w) := by
  have hp := Val.print_int h rfl
  replace hp := Lib.hid hp
  replace h := Lib.hid h
  go_enter Tryz.func43, Tryz.ntmps43
  go_wp2_with (first
    | (go_at_call 18; refine (may_is _ _ _ _ h).mono ?_; rintro e w1 ⟨rfl, hb⟩; obtain ⟨c0, c1, c2, f0, f1, f2⟩ := cells3 hb (by simp) (heap_new _ _))
    | (go_at_call 100; refine (format_any n _ h0 h1 ((hL.alloc _).below hb)).mono ?_; rintro e w2 ⟨rfl, hb2⟩))
  go_ret2
  exact ⟨by rw [hp.out]; rfl, (((Below.refl _ w).alloc (Nat.le_refl _) _).trans (hb.mono (by simp))).trans (hb2.mono (Nat.le_trans (by simp) hb.size))⟩

set_option maxHeartbeats 400000 in
theorem vprint_text (n : Int) (t : ByteArray) (w : World) (h : Val.may ⟨2, n, t.data.toList⟩ = true) (hs : t.size ≤ 1048576) (hM : MaxL w) :
    Calls Tryz.prog 43 #[.agg #[.int .i64 2, .int .i64 n, .string t]] w (VPrintP 2 n t w) := by
  have hp := Val.print_text h rfl
  have hz : (bs (Tok.dbl t.data.toList)).size ≤ 2097152 := by
    have h1 := Tok.dbl_len t.data.toList
    have h2 : t.data.toList.length = t.size := rfl
    rw [bs_size]; omega
  have z1 : ¬ 9223372036854775807 < 1 + (bs (Tok.dbl t.data.toList)).size := by omega
  have z2 : ¬ 9223372036854775807 < 1 + (bs (Tok.dbl t.data.toList)).size + 1 := by omega
  replace hp := Lib.hid hp
  replace h := Lib.hid h
  go_enter Tryz.func43, Tryz.ntmps43
  go_wp2_with (first
    | (go_at_call 18; refine (may_is _ _ _ _ h).mono ?_; rintro e w1 ⟨rfl, hb⟩; obtain ⟨c0, c1, c2, f0, f1, f2⟩ := cells3 hb (by simp) (heap_new _ _))
    | (go_at_call 93; refine (replace_any t _ ((hM.alloc _).below hb) hs).mono ?_; rintro e w2 ⟨rfl, hb2⟩))
  go_ret2
  refine ⟨?_, (((Below.refl _ w).alloc (Nat.le_refl _) _).trans (hb.mono (by simp))).trans (hb2.mono (Nat.le_trans (by simp) hb.size))⟩
  rw [hp.out, bs_one, bs_app, bs_app]; rfl

theorem byteC_app (a b : List UInt8) : Lib.byteCells (a ++ b) = Lib.byteCells a ++ Lib.byteCells b := by simp [Lib.byteCells]
theorem byteC_hexs2 (l : List UInt8) (c : UInt8) : Lib.byteCells ([120, 39] ++ Tok.hexs (l ++ [c])) = Lib.byteCells ([120, 39] ++ Tok.hexs l) ++ [.int .u8 ((Tok.dig (c.toNat / 16)).toNat : Int)] ++ [.int .u8 ((Tok.dig (c.toNat % 16)).toNat : Int)] := by
  rw [Tok.hexs_append]
  simp [Tok.hexs, Lib.byteCells]
theorem take_next (t : ByteArray) (k : Nat) (h : k < t.size) : t.data.toList.take (k + 1) = t.data.toList.take k ++ [t[k]] := by
  have h' : k < t.data.toList.length := h
  rw [List.take_add_one, List.getElem?_eq_getElem h']
  rfl
theorem lit_digit (n : Nat) (h : n < (⟨#[48, 49, 50, 51, 52, 53, 54, 55, 56, 57, 97, 98, 99, 100, 101, 102]⟩ : ByteArray).size) : (⟨#[48, 49, 50, 51, 52, 53, 54, 55, 56, 57, 97, 98, 99, 100, 101, 102]⟩ : ByteArray)[n] = Tok.dig n := by
  have all : ∀ m : Fin 16, (⟨#[48, 49, 50, 51, 52, 53, 54, 55, 56, 57, 97, 98, 99, 100, 101, 102]⟩ : ByteArray)[m.val] = Tok.dig m.val := by decide
  exact all ⟨n, h⟩

set_option maxHeartbeats 1000000 in
theorem vprint_blob (n : Int) (t : ByteArray) (w : World) (h : Val.may ⟨3, n, t.data.toList⟩ = true) (hs : t.size ≤ 1048576) :
    Calls Tryz.prog 43 #[.agg #[.int .i64 3, .int .i64 n, .string t]] w (VPrintP 3 n t w) := by
  have hp := Val.print_blob h rfl
  replace hp := Lib.hid hp
  replace h := Lib.hid h
  go_enter Tryz.func43, Tryz.ntmps43
  go_wp2_with (go_at_call 18; refine (may_is _ _ _ _ h).mono ?_; rintro e w1 ⟨rfl, hb⟩; obtain ⟨c0, c1, c2, f0, f1, f2⟩ := cells3 hb (by simp) (heap_new _ _); have hcell : w1.heap[w.heap.size]? = some (.cells #[.int .i64 3, .int .i64 n, .string t] 25 (0, 0)) := (hb.block w.heap.size (by simp)).trans (heap_new _ _); have hz1 : w.heap.size < w1.heap.size := (by have := hb.size; simp at this; omega))
  refine (writestring_any w1.heap.size w1.heap.size [] ⟨#[120, 39]⟩ _ (Lib.fresh_isBuilder _ _ _) (by decide) (by simp)).mono ?_
  rintro e w2 ⟨rfl, hbk0, hb2⟩
  have hB2 : Below w1.heap.size w1 w2 := ((Below.refl _ w1).alloc (Nat.le_refl _) _).trans hb2
  obtain ⟨d0, d1, d2, g0, g1, g2⟩ := cells3 hB2 hz1 hcell
  have hs4 : t.size ≤ 1048576 := hs
  go_wp2_with fail
  go_loopw [29] (fun iv wr => ∃ k : Nat, iv = .int .i64 (k : Int) ∧ k ≤ t.size ∧ Lib.IsBuilder 114 5 w1.heap.size w1.heap.size (Lib.byteCells ([120, 39] ++ Tok.hexs (t.data.toList.take k))) wr ∧ Below w1.heap.size w1 wr) (fun iv _ => t.size - (intOf iv).toNat)
  case atStart => exact ⟨0, by go_num, by omega, hbk0, hB2⟩
  case round =>
    obtain ⟨k, rfl, hk, hbk, hB⟩ := hrel
    obtain ⟨x0, x1, x2, y0, y1, y2⟩ := cells3 hB hz1 hcell
    have hb1 : w1.heap.size ≤ wr.heap.size := hB.size
    have hlen : (Lib.byteCells ([120, 39] ++ Tok.hexs (t.data.toList.take k))).length + 3 ≤ 140737488355328 := by
      have h1 := Tok.hexs_len (t.data.toList.take k)
      have h2 := List.length_take_le k t.data.toList
      rw [Lib.byteCells_length, List.length_append]; simp only [List.length_cons, List.length_nil]; omega
    by_cases hlt : k < t.size
    · have hlB : decide ((k : Int) < (t.size : Int)) = true := by simp; omega
      have hc := t[k].toNat_lt
      have i1 : (0 : Int) ≤ (t[k].toNat : Int) / 16 := by omega
      have i2 : (t[k].toNat : Int) / 16 < 16 := by omega
      have i3 : (0 : Int) ≤ (t[k].toNat : Int) % 16 := by omega
      have i4 : (t[k].toNat : Int) % 16 < 16 := by omega
      go_wp2_with (go_at_call 102; refine (writebyte_any _ _ _ _ _ hbk (by omega) hb1).mono ?_)
      rintro e w3 ⟨rfl, hbk3, hB3⟩
      have hbb := hB.trans hB3
      obtain ⟨u0, u1, u2, v0, v1, v2⟩ := cells3 hbb hz1 hcell
      have hb3 : w1.heap.size ≤ w3.heap.size := Nat.le_trans hb1 hB3.size
      go_wp2_with (go_at_call 102; refine (writebyte_any _ _ _ _ _ hbk3 (by simp only [List.length_append, List.length_cons, List.length_nil] at hlen ⊢; omega) hb3).mono ?_; rintro e w4 ⟨rfl, hbk4, hB4⟩)
      go_roundw
      case rel =>
        refine ⟨k + 1, by go_num, by omega, ?_, hbb.trans hB4⟩
        rw [take_next t k hlt, byteC_hexs2, ← lit_digit, ← lit_digit]
        exact hbk4
      case measure => simp [intOf]; omega
    · have hkt : t.data.toList.take k = t.data.toList := List.take_of_length_le (Nat.le_of_not_lt hlt)
      rw [hkt] at hbk hlen
      have hlB : decide ((k : Int) < (t.size : Int)) = false := by simp; omega
      go_wp2_with (go_at_call 102; refine (writebyte_any _ _ _ _ _ hbk (by omega) hb1).mono ?_; rintro e w3 ⟨rfl, hbk3, hB3⟩)
      have hend : Lib.byteCells ([120, 39] ++ Tok.hexs t.data.toList) ++ [.int .u8 39] = Lib.byteCells (120 :: 39 :: (Tok.hexs t.data.toList ++ [39])) := by simp [Lib.byteCells]
      rw [hend] at hbk3
      refine (bstring_any _ _ _ _ hbk3 (Nat.le_trans hb1 hB3.size)).mono ?_
      rintro e w4 ⟨rfl, hB4⟩
      go_wp2
      go_ret2
      refine ⟨by rw [hp.out]; rfl, ?_⟩
      exact (((Below.refl _ w).alloc (Nat.le_refl _) _).trans (hb.mono (by simp))).trans (((hB.trans hB3).trans hB4).mono (by omega))

theorem vprint_any (k n : Int) (t : ByteArray) (w : World) (hs : t.size ≤ 1048576) (h0 : -9223372036854775808 ≤ n) (h1 : n ≤ 9223372036854775807) (hL : Lits w) :
    Calls Tryz.prog 43 #[.agg #[.int .i64 k, .int .i64 n, .string t]] w (VPrintP k n t w) := by
  cases h : Val.may ⟨k, n, t.data.toList⟩ with
  | false => exact vprint_no k n t w h
  | true =>
    have hk := Val.may_iff.1 h
    simp only at hk
    by_cases k0 : k = 0
    · subst k0; exact vprint_null n t w h
    by_cases k1 : k = 1
    · subst k1; exact vprint_int n t w h h0 h1 hL
    by_cases k2 : k = 2
    · subst k2; exact vprint_text n t w h hs hL.maxl
    · obtain rfl : k = 3 := by omega
      exact vprint_blob n t w h hs

end Go.Proofs.YtmkgalcojoeniaaGreatDoor
