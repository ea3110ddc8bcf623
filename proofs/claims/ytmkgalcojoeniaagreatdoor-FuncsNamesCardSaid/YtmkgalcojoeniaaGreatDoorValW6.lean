/- Walks: Print of the reference of layer 2 at a text, and whatever the kind; head of the statements of layer 2. -/
import Derived.Test.YtmkgalcojoeniaaGreatDoorValW5
set_option maxRecDepth 100000
set_option linter.unusedVariables false
set_option linter.unusedSimpArgs false
namespace Go.Proofs.YtmkgalcojoeniaaGreatDoor
open Go.RowKit

theorem dbl_one (c : UInt8) : Tok.dbl [c] = if c.toNat = 39 then [39, 39] else [c] := by rw [Tok.dbl]; rfl
theorem bytesC_dbl (l : List UInt8) (c : UInt8) (h : c.toNat ≠ 39) : bytesC (39 :: Tok.dbl (l ++ [c])) = bytesC (39 :: Tok.dbl l) ++ [.int .u8 (c.toNat : Int)] ∧ (Tok.dbl (l ++ [c])).length = (Tok.dbl l).length + 1 := by
  rw [Tok.dbl_append, dbl_one, if_neg h]
  simp [bytesC]
theorem bytesC_dbl2 (l : List UInt8) (c : UInt8) (h : c.toNat = 39) : bytesC (39 :: Tok.dbl (l ++ [c])) = bytesC (39 :: Tok.dbl l) ++ [.int .u8 (c.toNat : Int)] ++ [.int .u8 39] ∧ (Tok.dbl (l ++ [c])).length = (Tok.dbl l).length + 1 + 1 := by
  rw [Tok.dbl_append, dbl_one, if_pos h]
  simp [bytesC, h]

set_option maxHeartbeats 1000000 in
theorem rprint_text (n : Int) (t : ByteArray) (w : World) (h : Val.may ⟨2, n, t.data.toList⟩ = true) (hs : t.size ≤ 1048576) :
    Calls Tryz.prog 60 #[.agg #[.int .i64 2, .int .i64 n, .string t]] w (RPrintP 2 n t w) := by
  have hp := Val.print_text h rfl
  replace hp := Lib.hid hp
  replace h := Lib.hid h
  go_enter Tryz.func60, Tryz.ntmps60
  go_wp2_with (first
    | (go_at_call 57; refine (rmay_is _ _ _ _ h).mono ?_; rintro e w1 ⟨rfl, hb⟩; obtain ⟨c0, c1, c2, f0, f1, f2⟩ := cells3 hb (by simp) (heap_new _ _); have hcell : w1.heap[w.heap.size]? = some (.cells #[.int .i64 2, .int .i64 n, .string t] 25 (0, 0)) := (hb.block w.heap.size (by simp)).trans (heap_new _ _); have hz1 : w.heap.size < w1.heap.size := (by have := hb.size; simp at this; omega); have hB1 : Below w.heap.size w w1 := ((Below.refl _ w).alloc (Nat.le_refl _) _).trans (hb.mono (by simp)); have hown0 : w1.ownsRow w1.heap.size 5 1 (.slice none 0 0) 0 (bytesC []) := World.ownsRow_nil _ _ _ _)
    | (at_builtin; refine wpList_push rfl _ _ 99 rfl w1.heap.size 5 Tryz.underlying99 vbyte_info rfl (by decide) _ _ _ rfl hown0 _ rfl rfl (byte_u8 _) (by omega) (by decide) (Nat.le_refl _) ?_))
  intro v2 w2 hown2 hb2 _ _ _ _
  obtain ⟨d0, d1, d2, g0, g1, g2⟩ := cells3 hb2 hz1 hcell
  go_wp2_with fail
  go_loopw [4, 5] (fun vv i wr => ∃ (v : Value) (k m : Nat), v = vv ∧ k ≤ t.size ∧ m ≤ 2 * k ∧ Hid ((Tok.dbl (t.data.toList.take k)).length = m) ∧ i = .int .i64 (k : Int) ∧ wr.ownsRow w1.heap.size 5 1 v (1 + m) (bytesC (39 :: Tok.dbl (t.data.toList.take k))) ∧ Below w1.heap.size w1 wr) (fun _ i _ => t.size - (intOf i).toNat)
  case atStart => exact ⟨_, 0, 0, rfl, by omega, by omega, Lib.hid rfl, by go_num, by simpa [Tok.dbl, bytesC] using hown2, hb2⟩
  case round =>
    obtain ⟨v, k, m, rfl, hk, hm, hml, rfl, hown, hB⟩ := hrel
    obtain ⟨x0, x1, x2, y0, y1, y2⟩ := cells3 hB hz1 hcell
    have hbB : w1.heap.size ≤ wr.heap.size := hB.size
    by_cases hlt : k < t.size
    · have hlB : decide ((k : Int) < (t.size : Int)) = true := by simp; omega
      by_cases hq : t[k].toNat = 39
      · have b1 : ((t[k].toNat : Int) == 39) = true := by simp; omega
        obtain ⟨e1, e2⟩ := bytesC_dbl2 (t.data.toList.take k) t[k] hq
        rw [← take_next t k hlt] at e1 e2
        rw [hml.out] at e2
        replace e1 := Lib.hid e1
        replace e2 := Lib.hid e2
        clear hq
        go_wp2_with (at_builtin; refine wpList_push rfl _ _ 99 rfl w1.heap.size 5 Tryz.underlying99 vbyte_info rfl (by decide) _ _ _ rfl hown _ rfl rfl (byte_u8 _) (by omega) (by decide) hbB ?_)
        intro v3 w3 hown3 hb3 _ _ _ _
        have hB3 := hB.trans hb3
        obtain ⟨q0, q1, q2, r0, r1, r2⟩ := cells3 hB3 hz1 hcell
        go_wp2_with (at_builtin; go_must (refine wpList_push rfl _ _ 99 rfl w1.heap.size 5 Tryz.underlying99 vbyte_info rfl (by decide) _ _ _ rfl hown3 _ rfl rfl (byte_u8 _) (by omega) (by decide) hB3.size ?_); intro v4 w4 hown4 hb4 hv4 _)
        go_roundw
        case rel =>
          refine ⟨k + 1, by omega, m + 1 + 1, by omega, e2, by omega, ?_, hB3.trans hb4⟩
          rw [e1.out]
          simpa [Nat.add_assoc] using hown4
        case measure => simp [intOf]; omega
      · have b1 : ((t[k].toNat : Int) == 39) = false := by simp; omega
        obtain ⟨e1, e2⟩ := bytesC_dbl (t.data.toList.take k) t[k] hq
        rw [← take_next t k hlt] at e1 e2
        rw [hml.out] at e2
        replace e1 := Lib.hid e1
        replace e2 := Lib.hid e2
        clear hq
        go_wp2_with (at_builtin; go_must (refine wpList_push rfl _ _ 99 rfl w1.heap.size 5 Tryz.underlying99 vbyte_info rfl (by decide) _ _ _ rfl hown _ rfl rfl (byte_u8 _) (by omega) (by decide) hbB ?_); intro v4 w4 hown4 hb4 hv4 _)
        go_roundw
        case rel =>
          refine ⟨k + 1, by omega, m + 1, by omega, e2, by omega, ?_, hB.trans hb4⟩
          rw [e1.out]
          simpa [Nat.add_assoc] using hown4
        case measure => simp [intOf]; omega
    · have hkt : t.data.toList.take k = t.data.toList := List.take_of_length_le (Nat.le_of_not_lt hlt)
      rw [hkt] at hown hml
      have hlB : decide ((k : Int) < (t.size : Int)) = false := by simp; omega
      have hend : bytesC (39 :: Tok.dbl t.data.toList) ++ [.int .u8 39] = bytesC (39 :: (Tok.dbl t.data.toList ++ [39])) := by simp [bytesC]
      have hlen : (39 :: (Tok.dbl t.data.toList ++ [39]) : List UInt8).length = 1 + m + 1 := by
        have := hml.out
        simp only [List.length_cons, List.length_append, List.length_nil]; omega
      replace hend := Lib.hid hend
      replace hlen := Lib.hid hlen
      go_wp2_with (at_builtin; go_must (refine wpList_push rfl _ _ 99 rfl w1.heap.size 5 Tryz.underlying99 vbyte_info rfl (by decide) _ _ _ rfl hown _ rfl rfl (byte_u8 _) (by omega) (by decide) hbB ?_); intro v4 w4 hown4 hb4 hv4 _; have hown5 : w4.ownsRow w1.heap.size 5 1 v4 (39 :: (Tok.dbl t.data.toList ++ [39]) : List UInt8).length (bytesC (39 :: (Tok.dbl t.data.toList ++ [39]))) := (by rw [hlen.out, ← hend.out]; simpa using hown4); have hcv := run_string_own (P := Tryz.prog) 99 9 5 Tryz.underlying99 Tryz.underlying5 Tryz.underlying9 hown5)
      go_ret2
      exact ⟨by rw [hp.out]; rfl, hB1.trans ((hB.trans hb4).mono (Nat.le_of_lt hz1))⟩

theorem rprint_any (k n : Int) (t : ByteArray) (w : World) (hs : t.size ≤ 1048576) (h0 : -9223372036854775808 ≤ n) (h1 : n ≤ 9223372036854775807) (hL : Lits w) :
    Calls Tryz.prog 60 #[.agg #[.int .i64 k, .int .i64 n, .string t]] w (RPrintP k n t w) := by
  cases h : Val.may ⟨k, n, t.data.toList⟩ with
  | false => exact rprint_no k n t w h
  | true =>
    have hk := Val.may_iff.1 h
    simp only at hk
    by_cases k0 : k = 0
    · subst k0; exact rprint_null n t w h
    by_cases k1 : k = 1
    · subst k1; exact rprint_int n t w h h0 h1 hL
    by_cases k2 : k = 2
    · subst k2; exact rprint_text n t w h hs
    · obtain rfl : k = 3 := by omega
      exact rprint_blob n t w h hs

theorem rprint_is {y : List UInt8} {E : Nat} (k n : Int) (t : ByteArray) (w : World) (h : Hid (Val.print ⟨k, n, t.data.toList⟩ = (y, E))) (hs : t.size ≤ 1048576) (h0 : -9223372036854775808 ≤ n) (h1 : n ≤ 9223372036854775807) (hL : Lits w) :
    Calls Tryz.prog 60 #[.agg #[.int .i64 k, .int .i64 n, .string t]] w fun e w' => e = .returned (.tuple #[.string (bs y), .int .i64 (E : Int)]) ∧ Below w.heap.size w w' :=
  (rprint_any k n t w hs h0 h1 hL).mono fun _ _ ⟨h2, h3⟩ => ⟨by rw [h2, h.out], h3⟩

theorem read_its : Val.read [39, 105, 116, 39, 39, 115, 39] = (⟨2, 0, [105, 116, 39, 115]⟩, 0) := by
  have hg : Val.guess [39, 105, 116, 39, 39, 115, 39] = ⟨2, 0, [105, 116, 39, 115]⟩ := by decide +kernel
  have hp : Val.print ⟨2, 0, [105, 116, 39, 115]⟩ = ([39, 105, 116, 39, 39, 115, 39], 0) := by decide +kernel
  rw [Val.read, if_neg (by decide), hg, hp]; rfl
theorem read_05 : Val.read [48, 53] = (Val.zero, 120) := by
  have hg : Val.guess [48, 53] = ⟨1, 5, []⟩ := by decide +kernel
  have hi : Lib.itoa 5 = [53] := by
    rw [Lib.itoa, if_neg (by decide)]
    show Lib.decDigits 5 = _
    rw [Lib.decDigits, dif_pos (by decide)]; rfl
  have hp : Val.print ⟨1, 5, []⟩ = ([53], 0) := by rw [Val.print_int (by decide) rfl, hi]
  rw [Val.read, if_neg (by decide), hg, hp]; rfl

theorem read1 (w : World) (hL : Lits w) : Calls Tryz.prog 21 #[.string ⟨#[39, 105, 116, 39, 39, 115, 39]⟩] w fun e w' => e = .returned (.tuple #[.agg #[.int .i64 2, .int .i64 0, .string ⟨#[105, 116, 39, 115]⟩], .int .i64 0]) ∧ Below w.heap.size w w' :=
  (read_any _ w hL).mono fun _ _ ⟨h1, h2⟩ => ⟨by
    have e : Val.read (ByteArray.mk #[39, 105, 116, 39, 39, 115, 39]).data.toList = (⟨2, 0, [105, 116, 39, 115]⟩, 0) := read_its
    rw [h1, e]; rfl, h2⟩
theorem read2 (w : World) (hL : Lits w) : Calls Tryz.prog 21 #[.string ⟨#[48, 53]⟩] w fun e w' => e = .returned (.tuple #[.agg #[.int .i64 0, .int .i64 0, .string ⟨#[]⟩], .int .i64 120]) ∧ Below w.heap.size w w' :=
  (read_any _ w hL).mono fun _ _ ⟨h1, h2⟩ => ⟨by
    have e : Val.read (ByteArray.mk #[48, 53]).data.toList = (Val.zero, 120) := read_05
    rw [h1, e]; rfl, h2⟩
theorem may1 (w : World) : Calls Tryz.prog 18 #[.agg #[.int .i64 2, .int .i64 0, .string ⟨#[105, 116, 39, 115]⟩]] w fun e w' => e = .returned (.bool true) ∧ Below w.heap.size w w' :=
  (may_any 2 0 _ w).mono fun _ _ ⟨h1, h2⟩ => ⟨by
    have e : Val.may ⟨2, 0, (ByteArray.mk #[105, 116, 39, 115]).data.toList⟩ = true := by decide
    rw [h1, e], h2⟩

theorem run_fld (a b c : Value) (w : World) : (Instr.field 25 (.agg #[a, b, c]) 1).run Tryz.prog w = .ok b w := by
  simp [Instr.field, run_underlying Tryz.underlying25, asAgg, part, Tryz.isAgg2]


end Go.Proofs.YtmkgalcojoeniaaGreatDoor
