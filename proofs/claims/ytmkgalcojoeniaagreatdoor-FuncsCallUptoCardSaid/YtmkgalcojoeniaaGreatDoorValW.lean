/- Walks: May of package value and of the reference of layer 2. Walks: Print of package value. Walks: hex, guess and Read of package value. Walks: Read of package value. Walks: Digit and Print of the reference of layer 2. Walks: Print of the reference of layer 2 at a text, and whatever the kind; head of the statements of layer 2. -/
import Derived.Test.YtmkgalcojoeniaaGreatDoorPlain
import Derived.Test.YtmkgalcojoeniaaGreatDoorBuild
import Derived.Test.YtmkgalcojoeniaaGreatDoorLits
set_option maxRecDepth 100000
set_option linter.unusedVariables false
set_option linter.unusedSimpArgs false
namespace Go.Proofs.YtmkgalcojoeniaaGreatDoor
open Go.RowKit

theorem may_any (k n : Int) (t : ByteArray) (w : World) :
    Calls Tryz.prog 18 #[.agg #[.int .i64 k, .int .i64 n, .string t]] w fun e w' => e = .returned (.bool (Val.may ⟨k, n, t.data.toList⟩)) ∧ Below w.heap.size w w' := by
  have hl : t.data.toList.length = t.size := rfl
  go_enter Tryz.func18, Tryz.ntmps18
  go_wp2
  all_goals go_ret
  all_goals (refine ⟨ret_bool ?_, (Below.refl _ w).alloc (Nat.le_refl _) _⟩; rw [Bool.eq_iff_iff])
  all_goals simp_all [Val.may, Lib.toList_data]
  all_goals (try omega)

theorem rmay_any (k n : Int) (t : ByteArray) (w : World) :
    Calls Tryz.prog 57 #[.agg #[.int .i64 k, .int .i64 n, .string t]] w fun e w' => e = .returned (.bool (Val.may ⟨k, n, t.data.toList⟩)) ∧ Below w.heap.size w w' := by
  have hl : t.data.toList.length = t.size := rfl
  go_enter Tryz.func57, Tryz.ntmps57
  go_wp2
  all_goals go_ret
  all_goals (refine ⟨ret_bool ?_, (Below.refl _ w).alloc (Nat.le_refl _) _⟩; rw [Bool.eq_iff_iff])
  all_goals simp_all [Val.may, Lib.toList_data]
  all_goals (try omega)

theorem may_is {b : Bool} (k n : Int) (t : ByteArray) (w : World) (h : Hid (Val.may ⟨k, n, t.data.toList⟩ = b)) :
    Calls Tryz.prog 18 #[.agg #[.int .i64 k, .int .i64 n, .string t]] w fun e w' => e = .returned (.bool b) ∧ Below w.heap.size w w' :=
  (may_any k n t w).mono fun _ _ ⟨h1, h2⟩ => ⟨by rw [h1, h.out], h2⟩

theorem rmay_is {b : Bool} (k n : Int) (t : ByteArray) (w : World) (h : Hid (Val.may ⟨k, n, t.data.toList⟩ = b)) :
    Calls Tryz.prog 57 #[.agg #[.int .i64 k, .int .i64 n, .string t]] w fun e w' => e = .returned (.bool b) ∧ Below w.heap.size w w' :=
  (rmay_any k n t w).mono fun _ _ ⟨h1, h2⟩ => ⟨by rw [h1, h.out], h2⟩

end Go.Proofs.YtmkgalcojoeniaaGreatDoor

namespace Go.Proofs.YtmkgalcojoeniaaGreatDoor
open Go.RowKit

/-- what Print answers -/
def VPrintP (k n : Int) (t : ByteArray) (w : World) (e : Ending) (w' : World) : Prop :=
  e = .returned (.tuple #[.string (bs (Val.print ⟨k, n, t.data.toList⟩).1), .int .i64 ((Val.print ⟨k, n, t.data.toList⟩).2 : Int)]) ∧ Below w.heap.size w w'

theorem vprint_no (k n : Int) (t : ByteArray) (w : World) (h : Val.may ⟨k, n, t.data.toList⟩ = false) :
    Calls Tryz.prog 43 #[.agg #[.int .i64 k, .int .i64 n, .string t]] w (VPrintP k n t w) := by
  have hp := Val.print_no h
  replace hp := Lib.hid hp
  replace h := Lib.hid h
  go_enter Tryz.func43, Tryz.ntmps43
  go_wp2_with (go_at_call 18; refine (may_is _ _ _ _ h).mono ?_; rintro e w1 ⟨rfl, hb⟩)
  go_ret2
  exact ⟨by rw [hp.out]; rfl, ((Below.refl _ w).alloc (Nat.le_refl _) _).trans (hb.mono (by simp))⟩

theorem vprint_null (n : Int) (t : ByteArray) (w : World) (h : Val.may ⟨0, n, t.data.toList⟩ = true) :
    Calls Tryz.prog 43 #[.agg #[.int .i64 0, .int .i64 n, .string t]] w (VPrintP 0 n t w) := by
  have hp := Val.print_null h rfl
  replace hp := Lib.hid hp
  replace h := Lib.hid h
  go_enter Tryz.func43, Tryz.ntmps43
  go_wp2_with (go_at_call 18; refine (may_is _ _ _ _ h).mono ?_; rintro e w1 ⟨rfl, hb⟩; obtain ⟨c0, c1, c2, f0, f1, f2⟩ := cells3 hb (by simp) (heap_new _ _))
  go_ret2
  exact ⟨by rw [hp.out]; rfl, ((Below.refl _ w).alloc (Nat.le_refl _) _).trans (hb.mono (by simp))⟩

theorem vprint_int (n : Int) (t : ByteArray) (w : World) (h : Val.may ⟨1, n, t.data.toList⟩ = true) (h0 : -9223372036854775808 ≤ n) (h1 : n ≤ 9223372036854775807) (hL : Lits w) :
    Calls Tryz.prog 43 #[.agg #[.int .i64 1, .int .i64 n, .string t]] w (VPrintP 1 n t w) := by
  have hp := Val.print_int h rfl
  replace hp := Lib.hid hp
  replace h := Lib.hid h
  go_enter Tryz.func43, Tryz.ntmps43
  go_wp2_with (first
    | (go_at_call 18; refine (may_is _ _ _ _ h).mono ?_; rintro e w1 ⟨rfl, hb⟩; obtain ⟨c0, c1, c2, f0, f1, f2⟩ := cells3 hb (by simp) (heap_new _ _))
    | (go_at_call 100; refine (format_any n _ h0 h1 ((hL.alloc _).below hb)).mono ?_; rintro e w2 ⟨rfl, hb2⟩))
  go_ret2
  exact ⟨by rw [hp.out]; rfl, (((Below.refl _ w).alloc (Nat.le_refl _) _).trans (hb.mono (by simp))).trans (hb2.mono (Nat.le_trans (by simp) hb.size))⟩

set_option maxHeartbeats 400000 in
theorem vprint_text (n : Int) (t : ByteArray) (w : World) (h : Val.may ⟨2, n, t.data.toList⟩ = true) (hs : t.size ≤ 1048576) (hM : MaxL w) :
    Calls Tryz.prog 43 #[.agg #[.int .i64 2, .int .i64 n, .string t]] w (VPrintP 2 n t w) := by
  have hp := Val.print_text h rfl
  have hz : (bs (Tok.dbl t.data.toList)).size ≤ 2097152 := by
    have h1 := Tok.dbl_len t.data.toList
    have h2 : t.data.toList.length = t.size := rfl
    rw [bs_size]; omega
  have z1 : ¬ 9223372036854775807 < 1 + (bs (Tok.dbl t.data.toList)).size := by omega
  have z2 : ¬ 9223372036854775807 < 1 + (bs (Tok.dbl t.data.toList)).size + 1 := by omega
  replace hp := Lib.hid hp
  replace h := Lib.hid h
  go_enter Tryz.func43, Tryz.ntmps43
  go_wp2_with (first
    | (go_at_call 18; refine (may_is _ _ _ _ h).mono ?_; rintro e w1 ⟨rfl, hb⟩; obtain ⟨c0, c1, c2, f0, f1, f2⟩ := cells3 hb (by simp) (heap_new _ _))
    | (go_at_call 93; refine (replace_any t _ ((hM.alloc _).below hb) hs).mono ?_; rintro e w2 ⟨rfl, hb2⟩))
  go_ret2
  refine ⟨?_, (((Below.refl _ w).alloc (Nat.le_refl _) _).trans (hb.mono (by simp))).trans (hb2.mono (Nat.le_trans (by simp) hb.size))⟩
  rw [hp.out, bs_one, bs_app, bs_app]; rfl

theorem byteC_hexs2 (l : List UInt8) (c : UInt8) : Lib.byteCells ([120, 39] ++ Tok.hexs (l ++ [c])) = Lib.byteCells ([120, 39] ++ Tok.hexs l) ++ [.int .u8 ((Tok.dig (c.toNat / 16)).toNat : Int)] ++ [.int .u8 ((Tok.dig (c.toNat % 16)).toNat : Int)] := by
  rw [Tok.hexs_append]
  simp [Tok.hexs, Lib.byteCells]
theorem take_next (t : ByteArray) (k : Nat) (h : k < t.size) : t.data.toList.take (k + 1) = t.data.toList.take k ++ [t[k]] := by
  have h' : k < t.data.toList.length := h
  rw [List.take_add_one, List.getElem?_eq_getElem h']
  rfl
theorem lit_digit (n : Nat) (h : n < (⟨#[48, 49, 50, 51, 52, 53, 54, 55, 56, 57, 97, 98, 99, 100, 101, 102]⟩ : ByteArray).size) : (⟨#[48, 49, 50, 51, 52, 53, 54, 55, 56, 57, 97, 98, 99, 100, 101, 102]⟩ : ByteArray)[n] = Tok.dig n := by
  have all : ∀ m : Fin 16, (⟨#[48, 49, 50, 51, 52, 53, 54, 55, 56, 57, 97, 98, 99, 100, 101, 102]⟩ : ByteArray)[m.val] = Tok.dig m.val := by decide
  exact all ⟨n, h⟩

set_option maxHeartbeats 1000000 in
theorem vprint_blob (n : Int) (t : ByteArray) (w : World) (h : Val.may ⟨3, n, t.data.toList⟩ = true) (hs : t.size ≤ 1048576) :
    Calls Tryz.prog 43 #[.agg #[.int .i64 3, .int .i64 n, .string t]] w (VPrintP 3 n t w) := by
  have hp := Val.print_blob h rfl
  replace hp := Lib.hid hp
  replace h := Lib.hid h
  go_enter Tryz.func43, Tryz.ntmps43
  go_wp2_with (go_at_call 18; refine (may_is _ _ _ _ h).mono ?_; rintro e w1 ⟨rfl, hb⟩; obtain ⟨c0, c1, c2, f0, f1, f2⟩ := cells3 hb (by simp) (heap_new _ _); have hcell : w1.heap[w.heap.size]? = some (.cells #[.int .i64 3, .int .i64 n, .string t] 25 (0, 0)) := (hb.block w.heap.size (by simp)).trans (heap_new _ _); have hz1 : w.heap.size < w1.heap.size := (by have := hb.size; simp at this; omega))
  refine (writestring_any w1.heap.size w1.heap.size [] ⟨#[120, 39]⟩ _ (Lib.fresh_isBuilder _ _ _) (by decide) (by simp)).mono ?_
  rintro e w2 ⟨rfl, hbk0, hb2⟩
  have hB2 : Below w1.heap.size w1 w2 := ((Below.refl _ w1).alloc (Nat.le_refl _) _).trans hb2
  obtain ⟨d0, d1, d2, g0, g1, g2⟩ := cells3 hB2 hz1 hcell
  have hs4 : t.size ≤ 1048576 := hs
  go_wp2_with fail
  go_loopw [29] (fun iv wr => ∃ k : Nat, iv = .int .i64 (k : Int) ∧ k ≤ t.size ∧ Lib.IsBuilder 114 5 w1.heap.size w1.heap.size (Lib.byteCells ([120, 39] ++ Tok.hexs (t.data.toList.take k))) wr ∧ Below w1.heap.size w1 wr) (fun iv _ => t.size - (intOf iv).toNat)
  case atStart => exact ⟨0, by go_num, by omega, hbk0, hB2⟩
  case round =>
    obtain ⟨k, rfl, hk, hbk, hB⟩ := hrel
    obtain ⟨x0, x1, x2, y0, y1, y2⟩ := cells3 hB hz1 hcell
    have hb1 : w1.heap.size ≤ wr.heap.size := hB.size
    have hlen : (Lib.byteCells ([120, 39] ++ Tok.hexs (t.data.toList.take k))).length + 3 ≤ 140737488355328 := by
      have h1 := Tok.hexs_len (t.data.toList.take k)
      have h2 := List.length_take_le k t.data.toList
      rw [Lib.byteCells_length, List.length_append]; simp only [List.length_cons, List.length_nil]; omega
    by_cases hlt : k < t.size
    · have hlB : decide ((k : Int) < (t.size : Int)) = true := by simp; omega
      have hc := t[k].toNat_lt
      have i1 : (0 : Int) ≤ (t[k].toNat : Int) / 16 := by omega
      have i2 : (t[k].toNat : Int) / 16 < 16 := by omega
      have i3 : (0 : Int) ≤ (t[k].toNat : Int) % 16 := by omega
      have i4 : (t[k].toNat : Int) % 16 < 16 := by omega
      go_wp2_with (go_at_call 102; refine (writebyte_any _ _ _ _ _ hbk (by omega) hb1).mono ?_)
      rintro e w3 ⟨rfl, hbk3, hB3⟩
      have hbb := hB.trans hB3
      obtain ⟨u0, u1, u2, v0, v1, v2⟩ := cells3 hbb hz1 hcell
      have hb3 : w1.heap.size ≤ w3.heap.size := Nat.le_trans hb1 hB3.size
      go_wp2_with (go_at_call 102; refine (writebyte_any _ _ _ _ _ hbk3 (by simp only [List.length_append, List.length_cons, List.length_nil] at hlen ⊢; omega) hb3).mono ?_; rintro e w4 ⟨rfl, hbk4, hB4⟩)
      go_roundw
      case rel =>
        refine ⟨k + 1, by go_num, by omega, ?_, hbb.trans hB4⟩
        rw [take_next t k hlt, byteC_hexs2, ← lit_digit, ← lit_digit]
        exact hbk4
      case measure => simp [intOf]; omega
    · have hkt : t.data.toList.take k = t.data.toList := List.take_of_length_le (Nat.le_of_not_lt hlt)
      rw [hkt] at hbk hlen
      have hlB : decide ((k : Int) < (t.size : Int)) = false := by simp; omega
      go_wp2_with (go_at_call 102; refine (writebyte_any _ _ _ _ _ hbk (by omega) hb1).mono ?_; rintro e w3 ⟨rfl, hbk3, hB3⟩)
      have hend : Lib.byteCells ([120, 39] ++ Tok.hexs t.data.toList) ++ [.int .u8 39] = Lib.byteCells (120 :: 39 :: (Tok.hexs t.data.toList ++ [39])) := by simp [Lib.byteCells]
      rw [hend] at hbk3
      refine (bstring_any _ _ _ _ hbk3 (Nat.le_trans hb1 hB3.size)).mono ?_
      rintro e w4 ⟨rfl, hB4⟩
      go_wp2
      go_ret2
      refine ⟨by rw [hp.out]; rfl, ?_⟩
      exact (((Below.refl _ w).alloc (Nat.le_refl _) _).trans (hb.mono (by simp))).trans (((hB.trans hB3).trans hB4).mono (by omega))

theorem vprint_any (k n : Int) (t : ByteArray) (w : World) (hs : t.size ≤ 1048576) (h0 : -9223372036854775808 ≤ n) (h1 : n ≤ 9223372036854775807) (hL : Lits w) :
    Calls Tryz.prog 43 #[.agg #[.int .i64 k, .int .i64 n, .string t]] w (VPrintP k n t w) := by
  cases h : Val.may ⟨k, n, t.data.toList⟩ with
  | false => exact vprint_no k n t w h
  | true =>
    have hk := Val.may_iff.1 h
    simp only at hk
    by_cases k0 : k = 0
    · subst k0; exact vprint_null n t w h
    by_cases k1 : k = 1
    · subst k1; exact vprint_int n t w h h0 h1 hL
    by_cases k2 : k = 2
    · subst k2; exact vprint_text n t w h hs hL.maxl
    · obtain rfl : k = 3 := by omega
      exact vprint_blob n t w h hs

end Go.Proofs.YtmkgalcojoeniaaGreatDoor

namespace Go.Proofs.YtmkgalcojoeniaaGreatDoor
open Go.RowKit

theorem idx_nib (c : UInt8) : Lib.indexByte [48, 49, 50, 51, 52, 53, 54, 55, 56, 57, 97, 98, 99, 100, 101, 102] c = Txt.nib c := by
  have all : ∀ n : Fin 256, Lib.indexByte [48, 49, 50, 51, 52, 53, 54, 55, 56, 57, 97, 98, 99, 100, 101, 102] (UInt8.ofNat n.val) = Txt.nib (UInt8.ofNat n.val) := by decide +kernel
  have := all ⟨c.toNat, c.toNat_lt⟩
  simpa using this
theorem index_lit (c : UInt8) (w : World) :
    Calls Tryz.prog 132 #[.string ⟨#[48, 49, 50, 51, 52, 53, 54, 55, 56, 57, 97, 98, 99, 100, 101, 102]⟩, .int .u8 (c.toNat : Int)] w fun e w' => e = .returned (.int .i64 (Txt.nib c)) ∧ w = w' :=
  (Tryz.strings_IndexByte _ _ w).mono fun _ _ ⟨h, h'⟩ => ⟨by rw [h, Int.toNat_natCast, ← idx_nib c]; simp, h'.symm⟩
theorem vbyte_info : (Tryz.prog.info? 5).map (fun i => (i.zero, i.size, i.bytes)) = some (some (.int .u8 0), 1, 1) := by kernel_rfl
theorem drop_next (s : ByteArray) (k : Nat) (h : k < s.size) : s.data.toList.drop k = s[k] :: s.data.toList.drop (k + 1) := by
  have h' : k < s.data.toList.length := h
  rw [List.drop_eq_getElem_cons h']; rfl

/-- what hex answers, as far as its caller looks -/
def HexP (s : ByteArray) (w : World) (e : Ending) (w' : World) : Prop :=
  ∃ x, e = .returned (.tuple #[.string x, .bool (Txt.unhex s.data.toList []).2]) ∧ ((Txt.unhex s.data.toList []).2 = true → x = bs (Txt.unhex s.data.toList []).1) ∧ Below w.heap.size w w'

/-- two digits to the base 16 as one byte -/
theorem nib16 (a b : Int) (ha : 0 ≤ a) (ha' : a ≤ 15) (hb : 0 ≤ b) (hb' : b ≤ 15) : bits .or .i64 (a * 16) b % 256 = ((UInt8.ofNat (a.toNat * 16 + b.toNat)).toNat : Int) := by
  obtain ⟨x, rfl⟩ := Int.eq_ofNat_of_zero_le ha
  obtain ⟨y, rfl⟩ := Int.eq_ofNat_of_zero_le hb
  have hx : x < 16 := by omega
  have hy : y < 16 := by omega
  have h : ∀ i : Fin 16, ∀ j : Fin 16, bits .or .i64 ((i.val : Int) * 16) (j.val : Int) % 256 = ((UInt8.ofNat (i.val * 16 + j.val)).toNat : Int) := by decide +kernel
  simpa using h ⟨x, hx⟩ ⟨y, hy⟩

theorem hexP_of {s : ByteArray} {w w' : World} {q : List UInt8 × Bool} {x : ByteArray} {b : Bool} (hq : Hid (Txt.unhex s.data.toList [] = q)) (hb : b = q.2) (hx : q.2 = true → x = bs q.1) (hB : Below w.heap.size w w') : HexP s w (.returned (.tuple #[.string x, .bool b])) w' := by
  refine ⟨x, ?_, ?_, hB⟩
  · rw [hq.out, hb]
  · rw [hq.out]; exact hx

set_option maxHeartbeats 1000000 in
theorem vhex_any (s : ByteArray) (w : World) (hs : s.size ≤ 1048576) :
    Calls Tryz.prog 99 #[.string s] w (HexP s w) := by
  obtain ⟨q, hq⟩ : ∃ q, Txt.unhex s.data.toList [] = q := ⟨_, rfl⟩
  replace hq := Lib.hid hq
  go_enter Tryz.func99, Tryz.ntmps99
  go_wp2
  go_loopw [4, 5] (fun vv i wr => ∃ (v : Value) (k j : Nat) (acc : List UInt8), v = vv ∧ k ≤ 2 * j ∧ 2 * j ≤ k ∧ k ≤ s.size ∧ acc.length ≤ j ∧ i = .int .i64 (k : Int) ∧ wr.ownsRow w.heap.size 5 1 v acc.length (bytesC acc) ∧ Below w.heap.size w wr ∧ Hid (Txt.unhex (s.data.toList.drop k) acc = q)) (fun _ i _ => s.size + 1 - (intOf i).toNat)
  case atStart => exact ⟨_, 0, 0, [], rfl, by omega, by omega, by omega, by simp, by go_num, World.ownsRow_nil _ _ _ _, Below.refl _ _, hq⟩
  case round =>
    obtain ⟨v, k, j, acc, rfl, hkj, hkj2, hk, hacc, rfl, hown, hb, hr⟩ := hrel
    by_cases h2 : k + 1 < s.size
    · have n1 := Txt.nib_le s[k]
      have n2 := Txt.nib_le s[k + 1]
      have hdr := drop_next s k (by omega)
      have hdr2 := drop_next s (k + 1) h2
      have hB1 : decide ((k : Int) + 1 < (s.size : Int)) = true := by simp; omega
      by_cases ha : Txt.nib s[k] < 0
      · have hst := hr.out
        rw [hdr, hdr2, Txt.unhex_bad _ _ (.inl ha)] at hst
        replace hst := Lib.hid hst
        clear hdr hdr2 hr
        go_wp2_with (go_at_call 132; refine (index_lit _ _).mono ?_; rintro e w' ⟨rfl, rfl⟩)
        all_goals go_ret2
        all_goals exact hexP_of hq (by rw [← hst.out]) (fun h => by rw [← hst.out] at h; cases h) hb
      · by_cases hbn : Txt.nib s[k + 1] < 0
        · have hst := hr.out
          rw [hdr, hdr2, Txt.unhex_bad _ _ (.inr hbn)] at hst
          replace hst := Lib.hid hst
          clear hdr hdr2 hr
          go_wp2_with (go_at_call 132; refine (index_lit _ _).mono ?_; rintro e w' ⟨rfl, rfl⟩)
          all_goals go_ret2
          all_goals exact hexP_of hq (by rw [← hst.out]) (fun h => by rw [← hst.out] at h; cases h) hb
        · have hst := hr.out
          rw [hdr, hdr2, Txt.unhex_pair _ _ (by omega) (by omega)] at hst
          clear hdr hdr2 hr
          replace hst := Lib.hid hst
          go_wp2_with (first
            | (go_at_call 132; refine (index_lit _ _).mono ?_; rintro e w' ⟨rfl, rfl⟩)
            | (at_builtin; go_must (refine wpList_push rfl _ _ 99 rfl w.heap.size 5 Tryz.underlying99 vbyte_info rfl (by decide) _ _ _ rfl hown _ rfl rfl (byte_u8 _) (by omega) (by decide) hb.size ?_); intro v' w1 hown' hb' hv' _))
          rw [nib16 _ _ (by omega) n1.2 (by omega) n2.2] at hown'
          go_roundw
          case rel => exact ⟨_, k + 2, j + 1, acc ++ [_], rfl, by omega, by omega, by omega, by simp; omega, by go_num, by rw [bytesC_snoc]; simpa using hown', hb.trans hb', hst⟩
          case measure => simp [intOf]; omega
    · have hB1 : decide ((k : Int) + 1 < (s.size : Int)) = false := by simp; omega
      have hcv := run_string_own (P := Tryz.prog) 99 9 5 Tryz.underlying99 Tryz.underlying5 Tryz.underlying9 hown
      by_cases hke : k = s.size
      · have hst := hr.out
        rw [List.drop_of_length_le (by rw [hke]; exact Nat.le_refl _)] at hst
        have hm : ((s.size : Int) % 2 == 0) = true := by simp; omega
        replace hst := Lib.hid hst
        clear hr hke
        go_wp2
        go_ret2
        exact hexP_of hq (by rw [← hst.out]; rfl) (fun _ => by rw [← hst.out]; rfl) hb
      · have hst := hr.out
        rw [drop_next s k (by omega), List.drop_of_length_le (show s.data.toList.length ≤ k + 1 from by have : s.data.toList.length = s.size := rfl; omega)] at hst
        have hm : ((s.size : Int) % 2 == 0) = false := by simp; omega
        replace hst := Lib.hid hst
        clear hr
        go_wp2
        go_ret2
        exact hexP_of hq (by rw [← hst.out]; rfl) (fun h => by rw [← hst.out] at h; cases h) hb

theorem vint_any (n : Int) (w : World) :
    Calls Tryz.prog 81 #[.int .i64 n] w fun e w' => e = .returned (.agg #[.int .i64 1, .int .i64 n, .string ⟨#[]⟩]) ∧ Below w.heap.size w w' := by
  go_enter Tryz.func81, Tryz.ntmps81
  go_wp2
  refine bodyPost_ret (v := .agg #[.int .i64 1, .int .i64 n, .string ⟨#[]⟩]) (by simp only [results, Tryz.results81]; go_simp) rfl ?_
  refine ⟨rfl, ?_⟩
  repeat (first | exact Below.refl _ _ | refine Below.setCell ?_ (by simp) _ | refine Below.alloc ?_ (by simp) _)

/-- what guess answers -/
def GuessP (s : ByteArray) (w : World) (e : Ending) (w' : World) : Prop :=
  e = .returned (.agg #[.int .i64 (Val.guess s.data.toList).kind, .int .i64 (Val.guess s.data.toList).int, .string (bs (Val.guess s.data.toList).text)]) ∧ Below w.heap.size w w'

theorem parse_ok {n : Int} (s : ByteArray) (w : World) (h : Hid (Lib.parseIntB 64 s.data.toList = .ok n)) (hs : s.size ≤ 1048576) (hL : Lits w) :
    Calls Tryz.prog 98 #[.string s, .int .i64 10, .int .i64 64] w fun e w' => e = .returned (.tuple #[.int .i64 n, .nilIface]) ∧ Below w.heap.size w w' :=
  (parse_any s w hs hL).mono fun e w' ⟨hb, hc⟩ => by
    rcases hc with ⟨m, hm, he⟩ | ⟨hn, _⟩
    · rw [h.out] at hm; cases hm; exact ⟨he, hb⟩
    · exact absurd h.out (hn n)
theorem parse_bad (s : ByteArray) (w : World) (h : Hid (∀ n, Lib.parseIntB 64 s.data.toList ≠ .ok n)) (hs : s.size ≤ 1048576) (hL : Lits w) :
    Calls Tryz.prog 98 #[.string s, .int .i64 10, .int .i64 64] w fun e w' => ∃ n T v, e = .returned (.tuple #[.int .i64 n, .iface T v]) ∧ Below w.heap.size w w' :=
  (parse_any s w hs hL).mono fun e w' ⟨hb, hc⟩ => by
    rcases hc with ⟨m, hm, he⟩ | ⟨_, n, T, v, he⟩
    · exact absurd hm (h.out m)
    · exact ⟨n, T, v, he, hb⟩
theorem replace2_any (t : ByteArray) (w : World) (hM : MaxL w) (hs : t.size ≤ 1048576) :
    Calls Tryz.prog 93 #[.string t, .string ⟨#[39, 39]⟩, .string ⟨#[39]⟩] w fun e w' => e = .returned (.string (bs (Lib.replaceAll t.data.toList [39, 39] [39]))) ∧ Below w.heap.size w w' := by
  obtain ⟨m, h1, _⟩ := hM
  have hc := Lib.countB_le (⟨#[39, 39]⟩ : ByteArray) (by decide) t.size t (Nat.le_refl _)
  refine (Tryz.strings_ReplaceAll t ⟨#[39, 39]⟩ ⟨#[39]⟩ m w (by omega) h1 (by decide) ?_).mono fun e w' ⟨he, hb⟩ => ⟨he, hb⟩
  have e2 : (⟨#[39]⟩ : ByteArray).size = 1 := rfl
  rw [e2]; omega
theorem vcut (s : ByteArray) (i e : Nat) : (s.extract i e).data.toList = Tok.cut s.data.toList i e := by rw [Lib.extract_data]; rfl

theorem below_set3 {w w2 : World} {a b c : Value} (h : Below w.heap.size w w2) : Below w.heap.size w (((w2.setCell ⟨w.heap.size, 0, none⟩ a).setCell ⟨w.heap.size, 1, none⟩ b).setCell ⟨w.heap.size, 2, none⟩ c) :=
  ((h.setCell (p := ⟨w.heap.size, 0, none⟩) (Nat.le_refl _) a).setCell (p := ⟨w.heap.size, 1, none⟩) (Nat.le_refl _) b).setCell (p := ⟨w.heap.size, 2, none⟩) (Nat.le_refl _) c

theorem guess_int (s : ByteArray) (w : World) (n : Int) (h : Lib.parseIntB 64 s.data.toList = .ok n) (hs : s.size ≤ 1048576) (hL : Lits w) :
    Calls Tryz.prog 42 #[.string s] w (GuessP s w) := by
  have hg := Val.guess_ok h
  replace hg := Lib.hid hg
  replace h := Lib.hid h
  go_enter Tryz.func42, Tryz.ntmps42
  go_wp2_with (first
    | (go_at_call 98; refine (parse_ok s _ h hs (hL.alloc _)).mono ?_; rintro e w1 ⟨rfl, hb⟩; obtain ⟨c0, c1, c2, f0, f1, f2⟩ := cells3 hb (by simp) (heap_new _ _); have hcell : w1.heap[w.heap.size]? = some (.cells #[.int .i64 0, .int .i64 0, .string ⟨#[]⟩] 25 (0, 0)) := (hb.block w.heap.size (by simp)).trans (heap_new _ _); have hz1 : w.heap.size < w1.heap.size := (by have := hb.size; simp at this; omega))
    | (go_at_call 81; refine (vint_any n _).mono ?_; rintro e w2 ⟨rfl, hb2⟩; obtain ⟨d0, d1, d2, g0, g1, g2⟩ := cells3 hb2 hz1 hcell; have hz2 : w.heap.size < w2.heap.size := Nat.lt_of_lt_of_le hz1 hb2.size))
  refine bodyPost_ret (v := .agg #[.int .i64 1, .int .i64 n, .string ⟨#[]⟩]) (by simp only [results, Tryz.results42]; go_simp) rfl ?_
  refine ⟨by rw [hg.out]; rfl, ?_⟩
  exact below_set3 ((((Below.refl _ w).alloc (Nat.le_refl _) _).trans (hb.mono (by simp))).trans (hb2.mono (Nat.le_of_lt hz1)))

set_option maxHeartbeats 400000 in
theorem guess_text (s : ByteArray) (w : World) (h : ∀ n, Lib.parseIntB 64 s.data.toList ≠ .ok n) (h2 : 2 ≤ s.size) (hc : s[0].toNat = 39) (hs : s.size ≤ 1048576) (hL : Lits w) :
    Calls Tryz.prog 42 #[.string s] w (GuessP s w) := by
  have hl : s.data.toList.length = s.size := rfl
  have g0 := getD_byte s 0 (by omega)
  have hg := Val.guess_else h
  rw [if_pos ⟨by rw [hl]; exact h2, by rw [g0]; exact hc⟩, hl, ← vcut] at hg
  have b1 : decide ((s.size : Int) ≥ 2) = true := by simp; omega
  have b2 : ((s[0].toNat : Int) == 39) = true := by simp; omega
  have hsz : (s.extract 1 (s.size - 1)).size ≤ 1048576 := by simp; omega
  have i1 : (1 : Int) ≤ (s.size : Int) - 1 := by omega
  have i2 : (s.size : Int) - 1 ≤ (s.size : Int) := by omega
  have i3 : ((s.size : Int) - 1).toNat = s.size - 1 := by omega
  replace hg := Lib.hid hg
  replace h := Lib.hid h
  clear g0 hc
  go_enter Tryz.func42, Tryz.ntmps42
  go_wp2_with (first
    | (go_at_call 98; refine (parse_bad s _ h hs (hL.alloc _)).mono ?_; rintro e w1 ⟨pn, pT, pv, rfl, hb⟩; obtain ⟨c0, c1, c2, f0, f1, f2⟩ := cells3 hb (by simp) (heap_new _ _); have hcell : w1.heap[w.heap.size]? = some (.cells #[.int .i64 0, .int .i64 0, .string ⟨#[]⟩] 25 (0, 0)) := (hb.block w.heap.size (by simp)).trans (heap_new _ _); have hz1 : w.heap.size < w1.heap.size := (by have := hb.size; simp at this; omega); have hB1 : Below w.heap.size w w1 := ((Below.refl _ w).alloc (Nat.le_refl _) _).trans (hb.mono (by simp)))
    | (go_at_call 93; refine (replace2_any (s.extract 1 (s.size - 1)) _ ((hL.alloc _).below hb).maxl hsz).mono ?_; rintro e w2 ⟨rfl, hb2⟩; obtain ⟨d0, d1, d2, g0, g1, g2⟩ := cells3 hb2 hz1 hcell; have hz2 : w.heap.size < w2.heap.size := Nat.lt_of_lt_of_le hz1 hb2.size; have hB2 : Below w.heap.size w w2 := hB1.trans (hb2.mono (Nat.le_of_lt hz1))))
  refine bodyPost_ret (v := .agg #[.int .i64 2, .int .i64 0, .string (bs (Lib.replaceAll (s.extract 1 (s.size - 1)).data.toList [39, 39] [39]))]) (by simp only [results, Tryz.results42]; go_simp) rfl ?_
  refine ⟨by rw [hg.out], ?_⟩
  exact below_set3 (hB2)

theorem hex_yes {x : List UInt8} (s : ByteArray) (w : World) (h : Hid (Txt.unhex s.data.toList [] = (x, true))) (hs : s.size ≤ 1048576) :
    Calls Tryz.prog 99 #[.string s] w fun e w' => e = .returned (.tuple #[.string (bs x), .bool true]) ∧ Below w.heap.size w w' :=
  (vhex_any s w hs).mono fun e w' ⟨y, he, hy, hb⟩ => by
    rw [h.out] at he hy
    exact ⟨by rw [he, hy rfl], hb⟩
theorem hex_no (s : ByteArray) (w : World) (h : Hid ((Txt.unhex s.data.toList []).2 = false)) (hs : s.size ≤ 1048576) :
    Calls Tryz.prog 99 #[.string s] w fun e w' => ∃ y, e = .returned (.tuple #[.string y, .bool false]) ∧ Below w.heap.size w w' :=
  (vhex_any s w hs).mono fun e w' ⟨y, he, _, hb⟩ => ⟨y, by rw [he, h.out], hb⟩

set_option maxHeartbeats 400000 in
theorem guess_blob (s : ByteArray) (w : World) (h : ∀ n, Lib.parseIntB 64 s.data.toList ≠ .ok n) (h3 : 3 ≤ s.size) (hc : s[0].toNat = 120) (hs : s.size ≤ 1048576) (hL : Lits w) :
    Calls Tryz.prog 42 #[.string s] w (GuessP s w) := by
  have hl : s.data.toList.length = s.size := rfl
  have g0 := getD_byte s 0 (by omega)
  have hg := Val.guess_else h
  rw [if_neg (by rw [g0, hc]; omega), hl, ← vcut] at hg
  have b1 : decide ((s.size : Int) ≥ 2) = true := by simp; omega
  have b2 : ((s[0].toNat : Int) == 39) = false := by simp; omega
  have b3 : decide ((s.size : Int) ≥ 3) = true := by simp; omega
  have b4 : ((s[0].toNat : Int) == 120) = true := by simp; omega
  have hsz : (s.extract 2 (s.size - 1)).size ≤ 1048576 := by simp; omega
  have i1 : (2 : Int) ≤ (s.size : Int) - 1 := by omega
  have i2 : (s.size : Int) - 1 ≤ (s.size : Int) := by omega
  have i3 : ((s.size : Int) - 1).toNat = s.size - 1 := by omega
  cases hx : (Txt.unhex (s.extract 2 (s.size - 1)).data.toList []).2 with
  | true =>
    rw [if_pos ⟨h3, by rw [g0]; exact hc, hx⟩] at hg
    obtain ⟨x, hxx⟩ : ∃ x, (Txt.unhex (s.extract 2 (s.size - 1)).data.toList []).1 = x := ⟨_, rfl⟩
    have hy : Txt.unhex (s.extract 2 (s.size - 1)).data.toList [] = (x, true) := by rw [← hxx, ← hx]
    rw [hxx] at hg
    replace hg := Lib.hid hg
    replace h := Lib.hid h
    replace hy := Lib.hid hy
    clear g0 hc hx hxx
    go_enter Tryz.func42, Tryz.ntmps42
    go_wp2_with (first
      | (go_at_call 98; refine (parse_bad s _ h hs (hL.alloc _)).mono ?_; rintro e w1 ⟨pn, pT, pv, rfl, hb⟩; obtain ⟨c0, c1, c2, f0, f1, f2⟩ := cells3 hb (by simp) (heap_new _ _); have hcell : w1.heap[w.heap.size]? = some (.cells #[.int .i64 0, .int .i64 0, .string ⟨#[]⟩] 25 (0, 0)) := (hb.block w.heap.size (by simp)).trans (heap_new _ _); have hz1 : w.heap.size < w1.heap.size := (by have := hb.size; simp at this; omega); have hB1 : Below w.heap.size w w1 := ((Below.refl _ w).alloc (Nat.le_refl _) _).trans (hb.mono (by simp)))
      | (go_at_call 99; refine (hex_yes (s.extract 2 (s.size - 1)) _ hy hsz).mono ?_; rintro e w2 ⟨rfl, hb2⟩; obtain ⟨d0, d1, d2, g0, g1, g2⟩ := cells3 hb2 hz1 hcell; have hz2 : w.heap.size < w2.heap.size := Nat.lt_of_lt_of_le hz1 hb2.size; have hB2 : Below w.heap.size w w2 := hB1.trans (hb2.mono (Nat.le_of_lt hz1))))
    refine bodyPost_ret (v := .agg #[.int .i64 3, .int .i64 0, .string (bs x)]) (by simp only [results, Tryz.results42]; go_simp) rfl ?_
    refine ⟨by rw [hg.out], ?_⟩
    exact below_set3 (hB2)
  | false =>
    rw [if_neg (by rintro ⟨_, _, hh⟩; rw [hx] at hh; cases hh)] at hg
    replace hg := Lib.hid hg
    replace h := Lib.hid h
    replace hx := Lib.hid hx
    clear g0 hc
    go_enter Tryz.func42, Tryz.ntmps42
    go_wp2_with (first
      | (go_at_call 98; refine (parse_bad s _ h hs (hL.alloc _)).mono ?_; rintro e w1 ⟨pn, pT, pv, rfl, hb⟩; obtain ⟨c0, c1, c2, f0, f1, f2⟩ := cells3 hb (by simp) (heap_new _ _); have hcell : w1.heap[w.heap.size]? = some (.cells #[.int .i64 0, .int .i64 0, .string ⟨#[]⟩] 25 (0, 0)) := (hb.block w.heap.size (by simp)).trans (heap_new _ _); have hz1 : w.heap.size < w1.heap.size := (by have := hb.size; simp at this; omega); have hB1 : Below w.heap.size w w1 := ((Below.refl _ w).alloc (Nat.le_refl _) _).trans (hb.mono (by simp)))
      | (go_at_call 99; refine (hex_no (s.extract 2 (s.size - 1)) _ hx hsz).mono ?_; rintro e w2 ⟨y, rfl, hb2⟩; obtain ⟨d0, d1, d2, g0, g1, g2⟩ := cells3 hb2 hz1 hcell; have hz2 : w.heap.size < w2.heap.size := Nat.lt_of_lt_of_le hz1 hb2.size; have hB2 : Below w.heap.size w w2 := hB1.trans (hb2.mono (Nat.le_of_lt hz1))))
    refine bodyPost_ret (v := .agg #[.int .i64 0, .int .i64 0, .string ⟨#[]⟩]) (by simp only [results, Tryz.results42]; go_simp) rfl ?_
    refine ⟨by rw [hg.out]; rfl, ?_⟩
    exact below_set3 (hB2)

set_option maxHeartbeats 400000 in
theorem guess_zero (s : ByteArray) (w : World) (h : ∀ n, Lib.parseIntB 64 s.data.toList ≠ .ok n) (h2 : ¬ (2 ≤ s.size ∧ (s.data.toList.getD 0 0).toNat = 39)) (h3 : ¬ (3 ≤ s.size ∧ (s.data.toList.getD 0 0).toNat = 120)) (hs : s.size ≤ 1048576) (hL : Lits w) :
    Calls Tryz.prog 42 #[.string s] w (GuessP s w) := by
  have hl : s.data.toList.length = s.size := rfl
  have hg := Val.guess_else h
  rw [hl, if_neg h2, if_neg (fun hh => h3 ⟨hh.1, hh.2.1⟩)] at hg
  replace hg := Lib.hid hg
  replace h := Lib.hid h
  by_cases ha : s.size < 2
  · have b1 : decide ((s.size : Int) ≥ 2) = false := by simp; omega
    have b3 : decide ((s.size : Int) ≥ 3) = false := by simp; omega
    clear h2 h3
    go_enter Tryz.func42, Tryz.ntmps42
    go_wp2_with (go_at_call 98; refine (parse_bad s _ h hs (hL.alloc _)).mono ?_; rintro e w1 ⟨pn, pT, pv, rfl, hb⟩; obtain ⟨c0, c1, c2, f0, f1, f2⟩ := cells3 hb (by simp) (heap_new _ _); have hz1 : w.heap.size < w1.heap.size := (by have := hb.size; simp at this; omega); have hB1 : Below w.heap.size w w1 := ((Below.refl _ w).alloc (Nat.le_refl _) _).trans (hb.mono (by simp)))
    refine bodyPost_ret (v := .agg #[.int .i64 0, .int .i64 0, .string ⟨#[]⟩]) (by simp only [results, Tryz.results42]; go_simp) rfl ?_
    refine ⟨by rw [hg.out]; rfl, ?_⟩
    exact below_set3 hB1
  · have g0 := getD_byte s 0 (by omega)
    rw [g0] at h2 h3
    clear g0
    have b1 : decide ((s.size : Int) ≥ 2) = true := by simp; omega
    have b2 : ((s[0].toNat : Int) == 39) = false := by simp; omega
    by_cases hb3 : 3 ≤ s.size
    · have b3 : decide ((s.size : Int) ≥ 3) = true := by simp; omega
      have b4 : ((s[0].toNat : Int) == 120) = false := by simp; omega
      clear h2 h3
      go_enter Tryz.func42, Tryz.ntmps42
      go_wp2_with (go_at_call 98; refine (parse_bad s _ h hs (hL.alloc _)).mono ?_; rintro e w1 ⟨pn, pT, pv, rfl, hb⟩; obtain ⟨c0, c1, c2, f0, f1, f2⟩ := cells3 hb (by simp) (heap_new _ _); have hz1 : w.heap.size < w1.heap.size := (by have := hb.size; simp at this; omega); have hB1 : Below w.heap.size w w1 := ((Below.refl _ w).alloc (Nat.le_refl _) _).trans (hb.mono (by simp)))
      refine bodyPost_ret (v := .agg #[.int .i64 0, .int .i64 0, .string ⟨#[]⟩]) (by simp only [results, Tryz.results42]; go_simp) rfl ?_
      refine ⟨by rw [hg.out]; rfl, ?_⟩
      exact below_set3 hB1
    · have b3 : decide ((s.size : Int) ≥ 3) = false := by simp; omega
      clear h2 h3
      go_enter Tryz.func42, Tryz.ntmps42
      go_wp2_with (go_at_call 98; refine (parse_bad s _ h hs (hL.alloc _)).mono ?_; rintro e w1 ⟨pn, pT, pv, rfl, hb⟩; obtain ⟨c0, c1, c2, f0, f1, f2⟩ := cells3 hb (by simp) (heap_new _ _); have hz1 : w.heap.size < w1.heap.size := (by have := hb.size; simp at this; omega); have hB1 : Below w.heap.size w w1 := ((Below.refl _ w).alloc (Nat.le_refl _) _).trans (hb.mono (by simp)))
      refine bodyPost_ret (v := .agg #[.int .i64 0, .int .i64 0, .string ⟨#[]⟩]) (by simp only [results, Tryz.results42]; go_simp) rfl ?_
      refine ⟨by rw [hg.out]; rfl, ?_⟩
      exact below_set3 hB1

theorem guess_any (s : ByteArray) (w : World) (hs : s.size ≤ 1048576) (hL : Lits w) :
    Calls Tryz.prog 42 #[.string s] w (GuessP s w) := by
  by_cases hok : ∃ n, Lib.parseIntB 64 s.data.toList = .ok n
  · obtain ⟨n, hn⟩ := hok
    exact guess_int s w n hn hs hL
  · have h : ∀ n, Lib.parseIntB 64 s.data.toList ≠ .ok n := fun n hn => hok ⟨n, hn⟩
    by_cases h2 : 2 ≤ s.size ∧ (s.data.toList.getD 0 0).toNat = 39
    · have g0 := getD_byte s 0 (by omega)
      exact guess_text s w h h2.1 (by rw [← g0]; exact h2.2) hs hL
    · by_cases h3 : 3 ≤ s.size ∧ (s.data.toList.getD 0 0).toNat = 120
      · have g0 := getD_byte s 0 (by omega)
        exact guess_blob s w h h3.1 (by rw [← g0]; exact h3.2) hs hL
      · exact guess_zero s w h h2 h3 hs hL

end Go.Proofs.YtmkgalcojoeniaaGreatDoor

namespace Go.Proofs.YtmkgalcojoeniaaGreatDoor
open Go.RowKit

/-- what Read answers -/
def ReadP (s : ByteArray) (w : World) (e : Ending) (w' : World) : Prop :=
  e = .returned (.tuple #[.agg #[.int .i64 (Val.read s.data.toList).1.kind, .int .i64 (Val.read s.data.toList).1.int, .string (bs (Val.read s.data.toList).1.text)], .int .i64 ((Val.read s.data.toList).2 : Int)]) ∧ Below w.heap.size w w'

theorem guess_is {k n : Int} {t : List UInt8} (s : ByteArray) (w : World) (h : Hid (Val.guess s.data.toList = ⟨k, n, t⟩)) (hs : s.size ≤ 1048576) (hL : Lits w) :
    Calls Tryz.prog 42 #[.string s] w fun e w' => e = .returned (.agg #[.int .i64 k, .int .i64 n, .string (bs t)]) ∧ Below w.heap.size w w' :=
  (guess_any s w hs hL).mono fun _ _ ⟨h1, h2⟩ => ⟨by rw [h1, h.out], h2⟩
theorem vprint_is {y : List UInt8} {E : Nat} (k n : Int) (t : ByteArray) (w : World) (h : Hid (Val.print ⟨k, n, t.data.toList⟩ = (y, E))) (hs : t.size ≤ 1048576) (h0 : -9223372036854775808 ≤ n) (h1 : n ≤ 9223372036854775807) (hL : Lits w) :
    Calls Tryz.prog 43 #[.agg #[.int .i64 k, .int .i64 n, .string t]] w fun e w' => e = .returned (.tuple #[.string (bs y), .int .i64 (E : Int)]) ∧ Below w.heap.size w w' :=
  (vprint_any k n t w hs h0 h1 hL).mono fun _ _ ⟨h2, h3⟩ => ⟨by rw [h2, h.out], h3⟩

theorem read_long (s : ByteArray) (w : World) (h : 1000 < s.size) :
    Calls Tryz.prog 21 #[.string s] w (ReadP s w) := by
  have hl : s.data.toList.length = s.size := rfl
  have hr : Val.read s.data.toList = (Val.zero, 3) := by rw [Val.read, if_pos (by rw [hl]; exact h)]
  have b1 : decide ((s.size : Int) > 1000) = true := by simp; omega
  replace hr := Lib.hid hr
  go_enter Tryz.func21, Tryz.ntmps21
  go_wp2
  refine bodyPost_ret (v := .tuple #[.agg #[.int .i64 0, .int .i64 0, .string ⟨#[]⟩], .int .i64 3]) (by simp only [results, Tryz.results21]; go_simp) rfl ?_
  refine ⟨by rw [hr.out]; rfl, ?_⟩
  exact (Below.refl _ w).alloc (Nat.le_refl _) _

set_option maxHeartbeats 400000 in
theorem read_short (s : ByteArray) (w : World) (h : s.size ≤ 1000) (hL : Lits w) :
    Calls Tryz.prog 21 #[.string s] w (ReadP s w) := by
  have hl : s.data.toList.length = s.size := rfl
  obtain ⟨f1, f2, f3⟩ := Val.guess_fits s.data.toList
  obtain ⟨⟨k, n, t⟩, hg⟩ : ∃ v, Val.guess s.data.toList = v := ⟨_, rfl⟩
  rw [hg] at f1 f2 f3
  simp only at f1 f2 f3
  obtain ⟨⟨y, E⟩, hp⟩ : ∃ q, Val.print ⟨k, n, t⟩ = q := ⟨_, rfl⟩
  have hr : Val.read s.data.toList = if E = 0 ∧ y = s.data.toList then (⟨k, n, t⟩, 0) else (Val.zero, 120) := by
    rw [Val.read, if_neg (by omega), hg, hp]
  have hp' : Val.print ⟨k, n, (bs t).data.toList⟩ = (y, E) := hp
  have hs : s.size ≤ 1048576 := by omega
  have ht : (bs t).size ≤ 1048576 := by rw [bs_size]; omega
  have b1 : decide ((s.size : Int) > 1000) = false := by simp; omega
  replace hg := Lib.hid hg
  replace hp' := Lib.hid hp'
  clear hp hl
  by_cases hE : E = 0
  · subst hE
    by_cases hy : y = s.data.toList
    · rw [if_pos ⟨rfl, hy⟩] at hr
      have hys : bs y = s := by rw [hy, bs_of]
      replace hr := Lib.hid hr
      replace hys := Lib.hid hys
      clear hy
      go_enter Tryz.func21, Tryz.ntmps21
      go_wp2_with (first
        | (go_at_call 42; refine (guess_is s _ hg hs (hL.alloc _)).mono ?_; rintro e w1 ⟨rfl, hb⟩; have hcell : w1.heap[w.heap.size]? = some (.cells #[.int .i64 0, .int .i64 0, .string ⟨#[]⟩] 25 (0, 0)) := (hb.block w.heap.size (by simp)).trans (heap_new _ _); have hz1 : w.heap.size < w1.heap.size := (by have := hb.size; simp at this; omega); have hB1 : Below w.heap.size w w1 := ((Below.refl _ w).alloc (Nat.le_refl _) _).trans (hb.mono (by simp)); have hL1 := (hL.alloc _).below hb)
        | (go_at_call 43; refine (vprint_is k n (bs t) _ hp' ht f2 f3 (hL1.alloc _)).mono ?_; rintro e w2 ⟨rfl, hb2⟩; rw [hys.out]; have hB2 : Below w1.heap.size w1 w2 := ((Below.refl _ w1).alloc (Nat.le_refl _) _).trans (hb2.mono (by simp)); obtain ⟨c0, c1, c2, u0, u1, u2⟩ := cells3 hb2 (by simp) (heap_new _ _); obtain ⟨d0, d1, d2, g0, g1, g2⟩ := cells3 hB2 hz1 hcell; have hz2 : w.heap.size < w2.heap.size := Nat.lt_of_lt_of_le hz1 hB2.size; have hB3 : Below w.heap.size w w2 := hB1.trans (hB2.mono (Nat.le_of_lt hz1))))
      refine bodyPost_ret (v := .tuple #[.agg #[.int .i64 k, .int .i64 n, .string (bs t)], .int .i64 0]) (by simp only [results, Tryz.results21]; go_simp) rfl ?_
      refine ⟨by rw [hr.out]; rfl, ?_⟩
      exact below_set3 hB3
    · rw [if_neg (fun hh => hy hh.2)] at hr
      have b2 : ((bs y).toList == s.toList) = false := by
        rw [Lib.toList_data, Lib.toList_data, bs_data]
        simp only [beq_eq_false_iff_ne]; exact hy
      replace hr := Lib.hid hr
      clear hy
      go_enter Tryz.func21, Tryz.ntmps21
      go_wp2_with (first
        | (go_at_call 42; refine (guess_is s _ hg hs (hL.alloc _)).mono ?_; rintro e w1 ⟨rfl, hb⟩; have hcell : w1.heap[w.heap.size]? = some (.cells #[.int .i64 0, .int .i64 0, .string ⟨#[]⟩] 25 (0, 0)) := (hb.block w.heap.size (by simp)).trans (heap_new _ _); have hz1 : w.heap.size < w1.heap.size := (by have := hb.size; simp at this; omega); have hB1 : Below w.heap.size w w1 := ((Below.refl _ w).alloc (Nat.le_refl _) _).trans (hb.mono (by simp)); have hL1 := (hL.alloc _).below hb)
        | (go_at_call 43; refine (vprint_is k n (bs t) _ hp' ht f2 f3 (hL1.alloc _)).mono ?_; rintro e w2 ⟨rfl, hb2⟩; have hB2 : Below w1.heap.size w1 w2 := ((Below.refl _ w1).alloc (Nat.le_refl _) _).trans (hb2.mono (by simp)); obtain ⟨c0, c1, c2, u0, u1, u2⟩ := cells3 hb2 (by simp) (heap_new _ _); obtain ⟨d0, d1, d2, g0, g1, g2⟩ := cells3 hB2 hz1 hcell; have hz2 : w.heap.size < w2.heap.size := Nat.lt_of_lt_of_le hz1 hB2.size; have hB3 : Below w.heap.size w w2 := hB1.trans (hB2.mono (Nat.le_of_lt hz1))))
      refine bodyPost_ret (v := .tuple #[.agg #[.int .i64 0, .int .i64 0, .string ⟨#[]⟩], .int .i64 120]) (by simp only [results, Tryz.results21]; go_simp) rfl ?_
      refine ⟨by rw [hr.out]; rfl, ?_⟩
      exact below_set3 hB3
  · rw [if_neg (fun hh => hE hh.1)] at hr
    have b2 : ((E : Int) != 0) = true := by simp; omega
    replace hr := Lib.hid hr
    clear hE
    go_enter Tryz.func21, Tryz.ntmps21
    go_wp2_with (first
      | (go_at_call 42; refine (guess_is s _ hg hs (hL.alloc _)).mono ?_; rintro e w1 ⟨rfl, hb⟩; have hcell : w1.heap[w.heap.size]? = some (.cells #[.int .i64 0, .int .i64 0, .string ⟨#[]⟩] 25 (0, 0)) := (hb.block w.heap.size (by simp)).trans (heap_new _ _); have hz1 : w.heap.size < w1.heap.size := (by have := hb.size; simp at this; omega); have hB1 : Below w.heap.size w w1 := ((Below.refl _ w).alloc (Nat.le_refl _) _).trans (hb.mono (by simp)); have hL1 := (hL.alloc _).below hb)
      | (go_at_call 43; refine (vprint_is k n (bs t) _ hp' ht f2 f3 (hL1.alloc _)).mono ?_; rintro e w2 ⟨rfl, hb2⟩; have hB2 : Below w1.heap.size w1 w2 := ((Below.refl _ w1).alloc (Nat.le_refl _) _).trans (hb2.mono (by simp)); obtain ⟨c0, c1, c2, u0, u1, u2⟩ := cells3 hb2 (by simp) (heap_new _ _); obtain ⟨d0, d1, d2, g0, g1, g2⟩ := cells3 hB2 hz1 hcell; have hz2 : w.heap.size < w2.heap.size := Nat.lt_of_lt_of_le hz1 hB2.size; have hB3 : Below w.heap.size w w2 := hB1.trans (hB2.mono (Nat.le_of_lt hz1))))
    refine bodyPost_ret (v := .tuple #[.agg #[.int .i64 0, .int .i64 0, .string ⟨#[]⟩], .int .i64 120]) (by simp only [results, Tryz.results21]; go_simp) rfl ?_
    refine ⟨by rw [hr.out]; rfl, ?_⟩
    exact below_set3 hB3

theorem read_any (s : ByteArray) (w : World) (hL : Lits w) :
    Calls Tryz.prog 21 #[.string s] w (ReadP s w) := by
  by_cases h : 1000 < s.size
  · exact read_long s w h
  · exact read_short s w (by omega) hL

end Go.Proofs.YtmkgalcojoeniaaGreatDoor

namespace Go.Proofs.YtmkgalcojoeniaaGreatDoor
open Go.RowKit

/-- SEVERAL ELEMENTS ARE APPENDED TO A SLICE THAT THE CALL OWNS -/
theorem wpList_pushN {P : Program} {W : World} {ops : Array Oper} {rest : List Oper} {o : Oper} {a : Act} {Q : Exit → Act → World → Prop} (hgd : o.guard = none) (s x : Operand) (t : TypeId)
    (ho : o.op = .call { callee := .builtin .append, args := #[s, x], argTypes := #[t, t] }) (m : Nat)
    (base : Nat) (e : TypeId) {z : Value} {size bytes : Nat} (ht : P.underlying t = some (.slice e)) (hinfo : (P.info? e).map (fun i => (i.zero, i.size, i.bytes)) = some (some z, size, bytes))
    (hzs : z.cells.size = size) (hsz : 0 < size)
    (v : Value) (n : Nat) (xs : List Value) (hs : a.eval s = v) (hown : W.ownsRow base e size v n xs)
    (cs : Array Value) (hx : a.eval x = .slice (some ⟨W.heap.size, 0, none⟩) m m) (hl : cs.size = m * size) (h1 : ∀ u ∈ cs.toList, u.oneCell' = true) (hm : 0 < m)
    (hbytes : (n + m) * bytes ≤ 140737488355328) (hb0 : 0 < bytes) (hbase : base ≤ W.heap.size)
    (h : ∀ v' w1, w1.ownsRow base e size v' (n + m) (xs ++ cs.toList) → Below base W w1 → (∃ g cap, v' = .slice (some ⟨g, 0, none⟩) (n + m) cap) → wpList P ops Q rest (a.put o.dst v') w1) :
    wpList P ops Q (o :: rest) a (W.alloc (.cells cs e)) := by
  obtain ⟨i, hi, hz, hsize, hby⟩ := info_parts hinfo
  have hn : n + m ≤ 140737488355328 := Nat.le_trans (Nat.le_mul_of_pos_right _ hb0) hbytes
  refine wpList_append_own _ hgd s x t ho base e i z size bytes ht hi hz hsize hby hzs hsz v n xs hs (hown.alloc _) ⟨W.heap.size, 0, none⟩ m m cs.toList hx (by simpa using hl) ?_ h1 (by simp only [maxLen]; omega) hbytes (by simp; omega) ?_
  · intro j u hu
    have hj : (⟨W.heap.size, 0, none⟩ : Addr).add j = ⟨W.heap.size, j, none⟩ := by rw [Addr.add_lit]; simp
    rw [hj, World.cell?_alloc_at _ _ _ _ rfl]
    simpa using hu
  · intro v' w1 hown' hg _
    have hg' : W.grownBy w1 v.ownBlock := ⟨hg.os, hg.tape, hg.output, Nat.le_trans (by simp) hg.size, fun k hk hne => (hg.block k (by simp; omega) hne).trans (Below.heap_alloc W _ k hk)⟩
    refine h v' w1 hown' ((Below.refl base W).grown hg' hbase fun k hk => (hown.lt k hk).1) ?_
    obtain ⟨g, cap, hv, _⟩ := hown'.form (by omega)
    exact ⟨g, cap, hv⟩

theorem rdigit_any (n : Nat) (w : World) (h : n < 16) :
    Calls Tryz.prog 119 #[.int .u8 (n : Int)] w fun e w' => e = .returned (.int .u8 ((Tok.dig n).toNat : Int)) ∧ w = w' := by
  by_cases hn : n < 10
  · have hd : ((Tok.dig n).toNat : Int) = 48 + (n : Int) := by
      rw [Tok.dig, if_pos hn, UInt8.toNat_ofNat']; omega
    have b1 : decide ((n : Int) < 10) = true := by simp; omega
    rw [hd]
    clear hd
    go_enter Tryz.func119, Tryz.ntmps119
    go_wp2
    go_ret
    exact ⟨ret_int (by first | rfl | omega), rfl⟩
  · have hd : ((Tok.dig n).toNat : Int) = 87 + (n : Int) := by
      rw [Tok.dig, if_neg hn, UInt8.toNat_ofNat']; omega
    have b1 : decide ((n : Int) < 10) = false := by simp; omega
    rw [hd]
    clear hd
    go_enter Tryz.func119, Tryz.ntmps119
    go_wp2
    go_ret
    exact ⟨ret_int (by omega), rfl⟩

theorem rdigit_eq (x : Int) (n : Nat) (w : World) (hx : x = (n : Int)) (h : n < 16) :
    Calls Tryz.prog 119 #[.int .u8 x] w fun e w' => e = .returned (.int .u8 ((Tok.dig n).toNat : Int)) ∧ w = w' := by
  rw [hx]; exact rdigit_any n w h
theorem bytesC_hexs2 (l : List UInt8) (c : UInt8) : bytesC ([120, 39] ++ Tok.hexs (l ++ [c])) = bytesC ([120, 39] ++ Tok.hexs l) ++ [.int .u8 ((Tok.dig (c.toNat / 16)).toNat : Int), .int .u8 ((Tok.dig (c.toNat % 16)).toNat : Int)] := by
  rw [Tok.hexs_append]
  simp [Tok.hexs, bytesC]

/-- what the reference's Print answers -/
def RPrintP (k n : Int) (t : ByteArray) (w : World) (e : Ending) (w' : World) : Prop :=
  e = .returned (.tuple #[.string (bs (Val.print ⟨k, n, t.data.toList⟩).1), .int .i64 ((Val.print ⟨k, n, t.data.toList⟩).2 : Int)]) ∧ Below w.heap.size w w'
theorem rprint_no (k n : Int) (t : ByteArray) (w : World) (h : Val.may ⟨k, n, t.data.toList⟩ = false) :
    Calls Tryz.prog 60 #[.agg #[.int .i64 k, .int .i64 n, .string t]] w (RPrintP k n t w) := by
  have hp := Val.print_no h
  replace hp := Lib.hid hp
  replace h := Lib.hid h
  go_enter Tryz.func60, Tryz.ntmps60
  go_wp2_with (go_at_call 57; refine (rmay_is _ _ _ _ h).mono ?_; rintro e w1 ⟨rfl, hb⟩)
  go_ret2
  exact ⟨by rw [hp.out]; rfl, ((Below.refl _ w).alloc (Nat.le_refl _) _).trans (hb.mono (by simp))⟩

theorem rprint_null (n : Int) (t : ByteArray) (w : World) (h : Val.may ⟨0, n, t.data.toList⟩ = true) :
    Calls Tryz.prog 60 #[.agg #[.int .i64 0, .int .i64 n, .string t]] w (RPrintP 0 n t w) := by
  have hp := Val.print_null h rfl
  replace hp := Lib.hid hp
  replace h := Lib.hid h
  go_enter Tryz.func60, Tryz.ntmps60
  go_wp2_with (go_at_call 57; refine (rmay_is _ _ _ _ h).mono ?_; rintro e w1 ⟨rfl, hb⟩; obtain ⟨c0, c1, c2, f0, f1, f2⟩ := cells3 hb (by simp) (heap_new _ _))
  go_ret2
  exact ⟨by rw [hp.out]; rfl, ((Below.refl _ w).alloc (Nat.le_refl _) _).trans (hb.mono (by simp))⟩

theorem rprint_int (n : Int) (t : ByteArray) (w : World) (h : Val.may ⟨1, n, t.data.toList⟩ = true) (h0 : -9223372036854775808 ≤ n) (h1 : n ≤ 9223372036854775807) (hL : Lits w) :
    Calls Tryz.prog 60 #[.agg #[.int .i64 1, .int .i64 n, .string t]] w (RPrintP 1 n t w) := by
  have hp := Val.print_int h rfl
  replace hp := Lib.hid hp
  replace h := Lib.hid h
  go_enter Tryz.func60, Tryz.ntmps60
  go_wp2_with (first
    | (go_at_call 57; refine (rmay_is _ _ _ _ h).mono ?_; rintro e w1 ⟨rfl, hb⟩; obtain ⟨c0, c1, c2, f0, f1, f2⟩ := cells3 hb (by simp) (heap_new _ _))
    | (go_at_call 100; refine (format_any n _ h0 h1 ((hL.alloc _).below hb)).mono ?_; rintro e w2 ⟨rfl, hb2⟩))
  go_ret2
  exact ⟨by rw [hp.out]; rfl, (((Below.refl _ w).alloc (Nat.le_refl _) _).trans (hb.mono (by simp))).trans (hb2.mono (Nat.le_trans (by simp) hb.size))⟩

theorem byte2_u8 (c d : Int) : ∀ u ∈ (#[Value.int .u8 c, Value.int .u8 d] : Array Value).toList, u.oneCell' = true := by
  intro u hu; simp at hu; rcases hu with rfl | rfl <;> rfl

set_option maxHeartbeats 1000000 in
theorem rprint_blob (n : Int) (t : ByteArray) (w : World) (h : Val.may ⟨3, n, t.data.toList⟩ = true) (hs : t.size ≤ 1048576) :
    Calls Tryz.prog 60 #[.agg #[.int .i64 3, .int .i64 n, .string t]] w (RPrintP 3 n t w) := by
  have hp := Val.print_blob h rfl
  replace hp := Lib.hid hp
  replace h := Lib.hid h
  go_enter Tryz.func60, Tryz.ntmps60
  go_wp2_with (first
    | (go_at_call 57; refine (rmay_is _ _ _ _ h).mono ?_; rintro e w1 ⟨rfl, hb⟩; obtain ⟨c0, c1, c2, f0, f1, f2⟩ := cells3 hb (by simp) (heap_new _ _); have hcell : w1.heap[w.heap.size]? = some (.cells #[.int .i64 3, .int .i64 n, .string t] 25 (0, 0)) := (hb.block w.heap.size (by simp)).trans (heap_new _ _); have hz1 : w.heap.size < w1.heap.size := (by have := hb.size; simp at this; omega); have hB1 : Below w.heap.size w w1 := ((Below.refl _ w).alloc (Nat.le_refl _) _).trans (hb.mono (by simp)); have hown0 : w1.ownsRow w1.heap.size 5 1 (.slice none 0 0) 0 (bytesC []) := World.ownsRow_nil _ _ _ _)
    | (at_builtin; refine wpList_push rfl _ _ 99 rfl w1.heap.size 5 Tryz.underlying99 vbyte_info rfl (by decide) _ _ _ rfl hown0 _ rfl rfl (byte_u8 _) (by omega) (by decide) (Nat.le_refl _) ?_))
  intro v2 w2 hown2 hb2 _ _ _ _
  obtain ⟨d0, d1, d2, g0, g1, g2⟩ := cells3 hb2 hz1 hcell
  go_wp2_with (at_builtin; go_must (refine wpList_push rfl _ _ 99 rfl w1.heap.size 5 Tryz.underlying99 vbyte_info rfl (by decide) _ _ _ rfl hown2 _ rfl rfl (byte_u8 _) (by omega) (by decide) hb2.size ?_); intro v3 w3 hown3 hb3 hv3 _; obtain ⟨e0, e1, e2, i0, i1, i2⟩ := cells3 (hb2.trans hb3) hz1 hcell)
  have hB3 := hb2.trans hb3
  go_loopw [4, 5] (fun vv i wr => ∃ (v : Value) (k : Nat), v = vv ∧ k ≤ t.size ∧ i = .int .i64 (k : Int) ∧ wr.ownsRow w1.heap.size 5 1 v (2 + 2 * k) (bytesC ([120, 39] ++ Tok.hexs (t.data.toList.take k))) ∧ Below w1.heap.size w1 wr) (fun _ i _ => t.size - (intOf i).toNat)
  case atStart => exact ⟨_, 0, rfl, by omega, by go_num, by simpa [Tok.hexs, bytesC] using hown3, hB3⟩
  case round =>
    obtain ⟨v, k, rfl, hk, rfl, hown, hB⟩ := hrel
    obtain ⟨x0, x1, x2, y0, y1, y2⟩ := cells3 hB hz1 hcell
    by_cases hlt : k < t.size
    · have hlB : decide ((k : Int) < (t.size : Int)) = true := by simp; omega
      have hc8 := t[k].toNat_lt
      have hbB : w1.heap.size ≤ wr.heap.size := hB.size
      go_wp2_with (first
        | (go_at_call 119; refine (rdigit_eq _ (t[k].toNat / 16) _ (by omega) (by omega)).mono ?_; rintro e w' ⟨rfl, rfl⟩)
        | (go_at_call 119; refine (rdigit_eq _ (t[k].toNat % 16) _ (by omega) (by omega)).mono ?_; rintro e w' ⟨rfl, rfl⟩)
        | (at_builtin; go_must (refine wpList_pushN rfl _ _ 99 rfl 2 w1.heap.size 5 Tryz.underlying99 vbyte_info rfl (by decide) _ _ _ rfl hown _ rfl rfl (byte2_u8 _ _) (by decide) (by omega) (by decide) hbB ?_); intro v4 w4 hown4 hb4 hv4))
      go_roundw
      case rel =>
        refine ⟨_, k + 1, rfl, by omega, by go_num, ?_, hB.trans hb4⟩
        rw [take_next t k hlt, bytesC_hexs2]
        simpa [Nat.mul_add, Nat.add_assoc] using hown4
      case measure => simp [intOf]; omega
    · have hkt : t.data.toList.take k = t.data.toList := List.take_of_length_le (Nat.le_of_not_lt hlt)
      rw [hkt] at hown
      have hlB : decide ((k : Int) < (t.size : Int)) = false := by simp; omega
      have hbB : w1.heap.size ≤ wr.heap.size := hB.size
      have hend : bytesC ([120, 39] ++ Tok.hexs t.data.toList) ++ [.int .u8 39] = bytesC (120 :: 39 :: (Tok.hexs t.data.toList ++ [39])) := by simp [bytesC]
      have hlen : (120 :: 39 :: (Tok.hexs t.data.toList ++ [39]) : List UInt8).length = 2 + 2 * k + 1 := by
        have h1 := Tok.hexs_len t.data.toList
        have h2 : t.data.toList.length = t.size := rfl
        simp only [List.length_cons, List.length_append, List.length_nil]; omega
      replace hend := Lib.hid hend
      replace hlen := Lib.hid hlen
      go_wp2_with (at_builtin; go_must (refine wpList_push rfl _ _ 99 rfl w1.heap.size 5 Tryz.underlying99 vbyte_info rfl (by decide) _ _ _ rfl hown _ rfl rfl (byte_u8 _) (by omega) (by decide) hbB ?_); intro v4 w4 hown4 hb4 hv4 _; have hown5 : w4.ownsRow w1.heap.size 5 1 v4 (120 :: 39 :: (Tok.hexs t.data.toList ++ [39]) : List UInt8).length (bytesC (120 :: 39 :: (Tok.hexs t.data.toList ++ [39]))) := (by rw [hlen.out, ← hend.out]; simpa using hown4); have hcv := run_string_own (P := Tryz.prog) 99 9 5 Tryz.underlying99 Tryz.underlying5 Tryz.underlying9 hown5)
      go_ret2
      exact ⟨by rw [hp.out]; rfl, hB1.trans ((hB.trans hb4).mono (Nat.le_of_lt hz1))⟩

end Go.Proofs.YtmkgalcojoeniaaGreatDoor

namespace Go.Proofs.YtmkgalcojoeniaaGreatDoor
open Go.RowKit

theorem dbl_one (c : UInt8) : Tok.dbl [c] = if c.toNat = 39 then [39, 39] else [c] := by rw [Tok.dbl]; rfl
theorem bytesC_dbl (l : List UInt8) (c : UInt8) (h : c.toNat ≠ 39) : bytesC (39 :: Tok.dbl (l ++ [c])) = bytesC (39 :: Tok.dbl l) ++ [.int .u8 (c.toNat : Int)] ∧ (Tok.dbl (l ++ [c])).length = (Tok.dbl l).length + 1 := by
  rw [Tok.dbl_append, dbl_one, if_neg h]
  simp [bytesC]
theorem bytesC_dbl2 (l : List UInt8) (c : UInt8) (h : c.toNat = 39) : bytesC (39 :: Tok.dbl (l ++ [c])) = bytesC (39 :: Tok.dbl l) ++ [.int .u8 (c.toNat : Int)] ++ [.int .u8 39] ∧ (Tok.dbl (l ++ [c])).length = (Tok.dbl l).length + 1 + 1 := by
  rw [Tok.dbl_append, dbl_one, if_pos h]
  simp [bytesC, h]

set_option maxHeartbeats 1000000 in
theorem rprint_text (n : Int) (t : ByteArray) (w : World) (h : Val.may ⟨2, n, t.data.toList⟩ = true) (hs : t.size ≤ 1048576) :
    Calls Tryz.prog 60 #[.agg #[.int .i64 2, .int .i64 n, .string t]] w (RPrintP 2 n t w) := by
  have hp := Val.print_text h rfl
  replace hp := Lib.hid hp
  replace h := Lib.hid h
  go_enter Tryz.func60, Tryz.ntmps60
  go_wp2_with (first
    | (go_at_call 57; refine (rmay_is _ _ _ _ h).mono ?_; rintro e w1 ⟨rfl, hb⟩; obtain ⟨c0, c1, c2, f0, f1, f2⟩ := cells3 hb (by simp) (heap_new _ _); have hcell : w1.heap[w.heap.size]? = some (.cells #[.int .i64 2, .int .i64 n, .string t] 25 (0, 0)) := (hb.block w.heap.size (by simp)).trans (heap_new _ _); have hz1 : w.heap.size < w1.heap.size := (by have := hb.size; simp at this; omega); have hB1 : Below w.heap.size w w1 := ((Below.refl _ w).alloc (Nat.le_refl _) _).trans (hb.mono (by simp)); have hown0 : w1.ownsRow w1.heap.size 5 1 (.slice none 0 0) 0 (bytesC []) := World.ownsRow_nil _ _ _ _)
    | (at_builtin; refine wpList_push rfl _ _ 99 rfl w1.heap.size 5 Tryz.underlying99 vbyte_info rfl (by decide) _ _ _ rfl hown0 _ rfl rfl (byte_u8 _) (by omega) (by decide) (Nat.le_refl _) ?_))
  intro v2 w2 hown2 hb2 _ _ _ _
  obtain ⟨d0, d1, d2, g0, g1, g2⟩ := cells3 hb2 hz1 hcell
  go_wp2_with fail
  go_loopw [4, 5] (fun vv i wr => ∃ (v : Value) (k m : Nat), v = vv ∧ k ≤ t.size ∧ m ≤ 2 * k ∧ Hid ((Tok.dbl (t.data.toList.take k)).length = m) ∧ i = .int .i64 (k : Int) ∧ wr.ownsRow w1.heap.size 5 1 v (1 + m) (bytesC (39 :: Tok.dbl (t.data.toList.take k))) ∧ Below w1.heap.size w1 wr) (fun _ i _ => t.size - (intOf i).toNat)
  case atStart => exact ⟨_, 0, 0, rfl, by omega, by omega, Lib.hid rfl, by go_num, by simpa [Tok.dbl, bytesC] using hown2, hb2⟩
  case round =>
    obtain ⟨v, k, m, rfl, hk, hm, hml, rfl, hown, hB⟩ := hrel
    obtain ⟨x0, x1, x2, y0, y1, y2⟩ := cells3 hB hz1 hcell
    have hbB : w1.heap.size ≤ wr.heap.size := hB.size
    by_cases hlt : k < t.size
    · have hlB : decide ((k : Int) < (t.size : Int)) = true := by simp; omega
      by_cases hq : t[k].toNat = 39
      · have b1 : ((t[k].toNat : Int) == 39) = true := by simp; omega
        obtain ⟨e1, e2⟩ := bytesC_dbl2 (t.data.toList.take k) t[k] hq
        rw [← take_next t k hlt] at e1 e2
        rw [hml.out] at e2
        replace e1 := Lib.hid e1
        replace e2 := Lib.hid e2
        clear hq
        go_wp2_with (at_builtin; refine wpList_push rfl _ _ 99 rfl w1.heap.size 5 Tryz.underlying99 vbyte_info rfl (by decide) _ _ _ rfl hown _ rfl rfl (byte_u8 _) (by omega) (by decide) hbB ?_)
        intro v3 w3 hown3 hb3 _ _ _ _
        have hB3 := hB.trans hb3
        obtain ⟨q0, q1, q2, r0, r1, r2⟩ := cells3 hB3 hz1 hcell
        go_wp2_with (at_builtin; go_must (refine wpList_push rfl _ _ 99 rfl w1.heap.size 5 Tryz.underlying99 vbyte_info rfl (by decide) _ _ _ rfl hown3 _ rfl rfl (byte_u8 _) (by omega) (by decide) hB3.size ?_); intro v4 w4 hown4 hb4 hv4 _)
        go_roundw
        case rel =>
          refine ⟨k + 1, by omega, m + 1 + 1, by omega, e2, by omega, ?_, hB3.trans hb4⟩
          rw [e1.out]
          simpa [Nat.add_assoc] using hown4
        case measure => simp [intOf]; omega
      · have b1 : ((t[k].toNat : Int) == 39) = false := by simp; omega
        obtain ⟨e1, e2⟩ := bytesC_dbl (t.data.toList.take k) t[k] hq
        rw [← take_next t k hlt] at e1 e2
        rw [hml.out] at e2
        replace e1 := Lib.hid e1
        replace e2 := Lib.hid e2
        clear hq
        go_wp2_with (at_builtin; go_must (refine wpList_push rfl _ _ 99 rfl w1.heap.size 5 Tryz.underlying99 vbyte_info rfl (by decide) _ _ _ rfl hown _ rfl rfl (byte_u8 _) (by omega) (by decide) hbB ?_); intro v4 w4 hown4 hb4 hv4 _)
        go_roundw
        case rel =>
          refine ⟨k + 1, by omega, m + 1, by omega, e2, by omega, ?_, hB.trans hb4⟩
          rw [e1.out]
          simpa [Nat.add_assoc] using hown4
        case measure => simp [intOf]; omega
    · have hkt : t.data.toList.take k = t.data.toList := List.take_of_length_le (Nat.le_of_not_lt hlt)
      rw [hkt] at hown hml
      have hlB : decide ((k : Int) < (t.size : Int)) = false := by simp; omega
      have hend : bytesC (39 :: Tok.dbl t.data.toList) ++ [.int .u8 39] = bytesC (39 :: (Tok.dbl t.data.toList ++ [39])) := by simp [bytesC]
      have hlen : (39 :: (Tok.dbl t.data.toList ++ [39]) : List UInt8).length = 1 + m + 1 := by
        have := hml.out
        simp only [List.length_cons, List.length_append, List.length_nil]; omega
      replace hend := Lib.hid hend
      replace hlen := Lib.hid hlen
      go_wp2_with (at_builtin; go_must (refine wpList_push rfl _ _ 99 rfl w1.heap.size 5 Tryz.underlying99 vbyte_info rfl (by decide) _ _ _ rfl hown _ rfl rfl (byte_u8 _) (by omega) (by decide) hbB ?_); intro v4 w4 hown4 hb4 hv4 _; have hown5 : w4.ownsRow w1.heap.size 5 1 v4 (39 :: (Tok.dbl t.data.toList ++ [39]) : List UInt8).length (bytesC (39 :: (Tok.dbl t.data.toList ++ [39]))) := (by rw [hlen.out, ← hend.out]; simpa using hown4); have hcv := run_string_own (P := Tryz.prog) 99 9 5 Tryz.underlying99 Tryz.underlying5 Tryz.underlying9 hown5)
      go_ret2
      exact ⟨by rw [hp.out]; rfl, hB1.trans ((hB.trans hb4).mono (Nat.le_of_lt hz1))⟩

theorem rprint_any (k n : Int) (t : ByteArray) (w : World) (hs : t.size ≤ 1048576) (h0 : -9223372036854775808 ≤ n) (h1 : n ≤ 9223372036854775807) (hL : Lits w) :
    Calls Tryz.prog 60 #[.agg #[.int .i64 k, .int .i64 n, .string t]] w (RPrintP k n t w) := by
  cases h : Val.may ⟨k, n, t.data.toList⟩ with
  | false => exact rprint_no k n t w h
  | true =>
    have hk := Val.may_iff.1 h
    simp only at hk
    by_cases k0 : k = 0
    · subst k0; exact rprint_null n t w h
    by_cases k1 : k = 1
    · subst k1; exact rprint_int n t w h h0 h1 hL
    by_cases k2 : k = 2
    · subst k2; exact rprint_text n t w h hs
    · obtain rfl : k = 3 := by omega
      exact rprint_blob n t w h hs

theorem rprint_is {y : List UInt8} {E : Nat} (k n : Int) (t : ByteArray) (w : World) (h : Hid (Val.print ⟨k, n, t.data.toList⟩ = (y, E))) (hs : t.size ≤ 1048576) (h0 : -9223372036854775808 ≤ n) (h1 : n ≤ 9223372036854775807) (hL : Lits w) :
    Calls Tryz.prog 60 #[.agg #[.int .i64 k, .int .i64 n, .string t]] w fun e w' => e = .returned (.tuple #[.string (bs y), .int .i64 (E : Int)]) ∧ Below w.heap.size w w' :=
  (rprint_any k n t w hs h0 h1 hL).mono fun _ _ ⟨h2, h3⟩ => ⟨by rw [h2, h.out], h3⟩

end Go.Proofs.YtmkgalcojoeniaaGreatDoor

