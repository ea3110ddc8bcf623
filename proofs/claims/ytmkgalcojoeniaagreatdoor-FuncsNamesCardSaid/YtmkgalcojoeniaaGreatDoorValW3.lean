/- Walks: hex, guess and Read of package value. -/
import Derived.Test.YtmkgalcojoeniaaGreatDoorValW2
set_option maxRecDepth 100000
set_option linter.unusedVariables false
set_option linter.unusedSimpArgs false
namespace Go.Proofs.YtmkgalcojoeniaaGreatDoor
open Go.RowKit

theorem idx_nib (c : UInt8) : Lib.indexByte [48, 49, 50, 51, 52, 53, 54, 55, 56, 57, 97, 98, 99, 100, 101, 102] c = Txt.nib c := by
  have all : ∀ n : Fin 256, Lib.indexByte [48, 49, 50, 51, 52, 53, 54, 55, 56, 57, 97, 98, 99, 100, 101, 102] (UInt8.ofNat n.val) = Txt.nib (UInt8.ofNat n.val) := by decide +kernel
  have := all ⟨c.toNat, c.toNat_lt⟩
  simpa using this
theorem index_lit (c : UInt8) (w : World) :
    Calls Tryz.prog 132 #[.string ⟨#[48, 49, 50, 51, 52, 53, 54, 55, 56, 57, 97, 98, 99, 100, 101, 102]⟩, .int .u8 (c.toNat : Int)] w fun e w' => e = .returned (.int .i64 (Txt.nib c)) ∧ w = w' :=
  (Tryz.strings_IndexByte _ _ w).mono fun _ _ ⟨h, h'⟩ => ⟨by rw [h, Int.toNat_natCast, ← idx_nib c]; simp, h'.symm⟩
theorem vbyte_info : (Tryz.prog.info? 5).map (fun i => (i.zero, i.size, i.bytes)) = some (some (.int .u8 0), 1, 1) := by kernel_rfl
theorem drop_next (s : ByteArray) (k : Nat) (h : k < s.size) : s.data.toList.drop k = s[k] :: s.data.toList.drop (k + 1) := by
  have h' : k < s.data.toList.length := h
  rw [List.drop_eq_getElem_cons h']; rfl

/-- what hex answers, as far as its caller looks -/
def HexP (s : ByteArray) (w : World) (e : Ending) (w' : World) : Prop :=
  ∃ x, e = .returned (.tuple #[.string x, .bool (Txt.unhex s.data.toList []).2]) ∧ ((Txt.unhex s.data.toList []).2 = true → x = bs (Txt.unhex s.data.toList []).1) ∧ Below w.heap.size w w'

/-- two digits to the base 16 as one byte -/
theorem nib16 (a b : Int) (ha : 0 ≤ a) (ha' : a ≤ 15) (hb : 0 ≤ b) (hb' : b ≤ 15) : bits .or .i64 (a * 16) b % 256 = ((UInt8.ofNat (a.toNat * 16 + b.toNat)).toNat : Int) := by
  obtain ⟨x, rfl⟩ := Int.eq_ofNat_of_zero_le ha
  obtain ⟨y, rfl⟩ := Int.eq_ofNat_of_zero_le hb
  have hx : x < 16 := by omega
  have hy : y < 16 := by omega
  have h : ∀ i : Fin 16, ∀ j : Fin 16, bits .or .i64 ((i.val : Int) * 16) (j.val : Int) % 256 = ((UInt8.ofNat (i.val * 16 + j.val)).toNat : Int) := by decide +kernel
  simpa using h ⟨x, hx⟩ ⟨y, hy⟩

theorem hexP_of {s : ByteArray} {w w' : World} {q : List UInt8 × Bool} {x : ByteArray} {b : Bool} (hq : Hid (Txt.unhex s.data.toList [] = q)) (hb : b = q.2) (hx : q.2 = true → x = bs q.1) (hB : Below w.heap.size w w') : HexP s w (.returned (.tuple #[.string x, .bool b])) w' := by
  refine ⟨x, ?_, ?_, hB⟩
  · rw [hq.out, hb]
  · rw [hq.out]; exact hx

set_option maxHeartbeats 1000000 in
theorem vhex_any (s : ByteArray) (w : World) (hs : s.size ≤ 1048576) :
    Calls Tryz.prog 99 #[.string s] w (HexP s w) := by
  obtain ⟨q, hq⟩ : ∃ q, Txt.unhex s.data.toList [] = q := ⟨_, rfl⟩
  replace hq := Lib.hid hq
  go_enter Tryz.func99, Tryz.ntmps99
  go_wp2
  go_loopw [4, 5] (fun vv i wr => ∃ (v : Value) (k j : Nat) (acc : List UInt8), v = vv ∧ k ≤ 2 * j ∧ 2 * j ≤ k ∧ k ≤ s.size ∧ acc.length ≤ j ∧ i = .int .i64 (k : Int) ∧ wr.ownsRow w.heap.size 5 1 v acc.length (bytesC acc) ∧ Below w.heap.size w wr ∧ Hid (Txt.unhex (s.data.toList.drop k) acc = q)) (fun _ i _ => s.size + 1 - (intOf i).toNat)
  case atStart => exact ⟨_, 0, 0, [], rfl, by omega, by omega, by omega, by simp, by go_num, World.ownsRow_nil _ _ _ _, Below.refl _ _, hq⟩
  case round =>
    obtain ⟨v, k, j, acc, rfl, hkj, hkj2, hk, hacc, rfl, hown, hb, hr⟩ := hrel
    by_cases h2 : k + 1 < s.size
    · have n1 := Txt.nib_le s[k]
      have n2 := Txt.nib_le s[k + 1]
      have hdr := drop_next s k (by omega)
      have hdr2 := drop_next s (k + 1) h2
      have hB1 : decide ((k : Int) + 1 < (s.size : Int)) = true := by simp; omega
      by_cases ha : Txt.nib s[k] < 0
      · have hst := hr.out
        rw [hdr, hdr2, Txt.unhex_bad _ _ (.inl ha)] at hst
        replace hst := Lib.hid hst
        clear hdr hdr2 hr
        go_wp2_with (go_at_call 132; refine (index_lit _ _).mono ?_; rintro e w' ⟨rfl, rfl⟩)
        all_goals go_ret2
        all_goals exact hexP_of hq (by rw [← hst.out]) (fun h => by rw [← hst.out] at h; cases h) hb
      · by_cases hbn : Txt.nib s[k + 1] < 0
        · have hst := hr.out
          rw [hdr, hdr2, Txt.unhex_bad _ _ (.inr hbn)] at hst
          replace hst := Lib.hid hst
          clear hdr hdr2 hr
          go_wp2_with (go_at_call 132; refine (index_lit _ _).mono ?_; rintro e w' ⟨rfl, rfl⟩)
          all_goals go_ret2
          all_goals exact hexP_of hq (by rw [← hst.out]) (fun h => by rw [← hst.out] at h; cases h) hb
        · have hst := hr.out
          rw [hdr, hdr2, Txt.unhex_pair _ _ (by omega) (by omega)] at hst
          clear hdr hdr2 hr
          replace hst := Lib.hid hst
          go_wp2_with (first
            | (go_at_call 132; refine (index_lit _ _).mono ?_; rintro e w' ⟨rfl, rfl⟩)
            | (at_builtin; go_must (refine wpList_push rfl _ _ 99 rfl w.heap.size 5 Tryz.underlying99 vbyte_info rfl (by decide) _ _ _ rfl hown _ rfl rfl (byte_u8 _) (by omega) (by decide) hb.size ?_); intro v' w1 hown' hb' hv' _))
          rw [nib16 _ _ (by omega) n1.2 (by omega) n2.2] at hown'
          go_roundw
          case rel => exact ⟨_, k + 2, j + 1, acc ++ [_], rfl, by omega, by omega, by omega, by simp; omega, by go_num, by rw [bytesC_snoc]; simpa using hown', hb.trans hb', hst⟩
          case measure => simp [intOf]; omega
    · have hB1 : decide ((k : Int) + 1 < (s.size : Int)) = false := by simp; omega
      have hcv := run_string_own (P := Tryz.prog) 99 9 5 Tryz.underlying99 Tryz.underlying5 Tryz.underlying9 hown
      by_cases hke : k = s.size
      · have hst := hr.out
        rw [List.drop_of_length_le (by rw [hke]; exact Nat.le_refl _)] at hst
        have hm : ((s.size : Int) % 2 == 0) = true := by simp; omega
        replace hst := Lib.hid hst
        clear hr hke
        go_wp2
        go_ret2
        exact hexP_of hq (by rw [← hst.out]; rfl) (fun _ => by rw [← hst.out]; rfl) hb
      · have hst := hr.out
        rw [drop_next s k (by omega), List.drop_of_length_le (show s.data.toList.length ≤ k + 1 from by have : s.data.toList.length = s.size := rfl; omega)] at hst
        have hm : ((s.size : Int) % 2 == 0) = false := by simp; omega
        replace hst := Lib.hid hst
        clear hr
        go_wp2
        go_ret2
        exact hexP_of hq (by rw [← hst.out]; rfl) (fun h => by rw [← hst.out] at h; cases h) hb

theorem vint_any (n : Int) (w : World) :
    Calls Tryz.prog 81 #[.int .i64 n] w fun e w' => e = .returned (.agg #[.int .i64 1, .int .i64 n, .string ⟨#[]⟩]) ∧ Below w.heap.size w w' := by
  go_enter Tryz.func81, Tryz.ntmps81
  go_wp2
  refine bodyPost_ret (v := .agg #[.int .i64 1, .int .i64 n, .string ⟨#[]⟩]) (by simp only [results, Tryz.results81]; go_simp) rfl ?_
  refine ⟨rfl, ?_⟩
  repeat (first | exact Below.refl _ _ | refine Below.setCell ?_ (by simp) _ | refine Below.alloc ?_ (by simp) _)

/-- what guess answers -/
def GuessP (s : ByteArray) (w : World) (e : Ending) (w' : World) : Prop :=
  e = .returned (.agg #[.int .i64 (Val.guess s.data.toList).kind, .int .i64 (Val.guess s.data.toList).int, .string (bs (Val.guess s.data.toList).text)]) ∧ Below w.heap.size w w'

theorem parse_ok {n : Int} (s : ByteArray) (w : World) (h : Hid (Lib.parseIntB 64 s.data.toList = .ok n)) (hs : s.size ≤ 1048576) (hL : Lits w) :
    Calls Tryz.prog 98 #[.string s, .int .i64 10, .int .i64 64] w fun e w' => e = .returned (.tuple #[.int .i64 n, .nilIface]) ∧ Below w.heap.size w w' :=
  (parse_any s w hs hL).mono fun e w' ⟨hb, hc⟩ => by
    rcases hc with ⟨m, hm, he⟩ | ⟨hn, _⟩
    · rw [h.out] at hm; cases hm; exact ⟨he, hb⟩
    · exact absurd h.out (hn n)
theorem parse_bad (s : ByteArray) (w : World) (h : Hid (∀ n, Lib.parseIntB 64 s.data.toList ≠ .ok n)) (hs : s.size ≤ 1048576) (hL : Lits w) :
    Calls Tryz.prog 98 #[.string s, .int .i64 10, .int .i64 64] w fun e w' => ∃ n T v, e = .returned (.tuple #[.int .i64 n, .iface T v]) ∧ Below w.heap.size w w' :=
  (parse_any s w hs hL).mono fun e w' ⟨hb, hc⟩ => by
    rcases hc with ⟨m, hm, he⟩ | ⟨_, n, T, v, he⟩
    · exact absurd hm (h.out m)
    · exact ⟨n, T, v, he, hb⟩
theorem replace2_any (t : ByteArray) (w : World) (hM : MaxL w) (hs : t.size ≤ 1048576) :
    Calls Tryz.prog 93 #[.string t, .string ⟨#[39, 39]⟩, .string ⟨#[39]⟩] w fun e w' => e = .returned (.string (bs (Lib.replaceAll t.data.toList [39, 39] [39]))) ∧ Below w.heap.size w w' := by
  obtain ⟨m, h1, _⟩ := hM
  have hc := Lib.countB_le (⟨#[39, 39]⟩ : ByteArray) (by decide) t.size t (Nat.le_refl _)
  refine (Tryz.strings_ReplaceAll t ⟨#[39, 39]⟩ ⟨#[39]⟩ m w (by omega) h1 (by decide) ?_).mono fun e w' ⟨he, hb⟩ => ⟨he, hb⟩
  have e2 : (⟨#[39]⟩ : ByteArray).size = 1 := rfl
  rw [e2]; omega
theorem vcut (s : ByteArray) (i e : Nat) : (s.extract i e).data.toList = Tok.cut s.data.toList i e := by rw [Lib.extract_data]; rfl

theorem below_set3 {w w2 : World} {a b c : Value} (h : Below w.heap.size w w2) : Below w.heap.size w (((w2.setCell ⟨w.heap.size, 0, none⟩ a).setCell ⟨w.heap.size, 1, none⟩ b).setCell ⟨w.heap.size, 2, none⟩ c) :=
  ((h.setCell (p := ⟨w.heap.size, 0, none⟩) (Nat.le_refl _) a).setCell (p := ⟨w.heap.size, 1, none⟩) (Nat.le_refl _) b).setCell (p := ⟨w.heap.size, 2, none⟩) (Nat.le_refl _) c

theorem guess_int (s : ByteArray) (w : World) (n : Int) (h : Lib.parseIntB 64 s.data.toList = .ok n) (hs : s.size ≤ 1048576) (hL : Lits w) :
    Calls Tryz.prog 42 #[.string s] w (GuessP s w) := by
  have hg := Val.guess_ok h
  replace hg := Lib.hid hg
  replace h := Lib.hid h
  go_enter Tryz.func42, Tryz.ntmps42
  go_wp2_with (first
    | (go_at_call 98; refine (parse_ok s _ h hs (hL.alloc _)).mono ?_; rintro e w1 ⟨rfl, hb⟩; obtain ⟨c0, c1, c2, f0, f1, f2⟩ := cells3 hb (by simp) (heap_new _ _); have hcell : w1.heap[w.heap.size]? = some (.cells #[.int .i64 0, .int .i64 0, .string ⟨#[]⟩] 25 (0, 0)) := (hb.block w.heap.size (by simp)).trans (heap_new _ _); have hz1 : w.heap.size < w1.heap.size := (by have := hb.size; simp at this; omega))
    | (go_at_call 81; refine (vint_any n _).mono ?_; rintro e w2 ⟨rfl, hb2⟩; obtain ⟨d0, d1, d2, g0, g1, g2⟩ := cells3 hb2 hz1 hcell; have hz2 : w.heap.size < w2.heap.size := Nat.lt_of_lt_of_le hz1 hb2.size))
  refine bodyPost_ret (v := .agg #[.int .i64 1, .int .i64 n, .string ⟨#[]⟩]) (by simp only [results, Tryz.results42]; go_simp) rfl ?_
  refine ⟨by rw [hg.out]; rfl, ?_⟩
  exact below_set3 ((((Below.refl _ w).alloc (Nat.le_refl _) _).trans (hb.mono (by simp))).trans (hb2.mono (Nat.le_of_lt hz1)))

set_option maxHeartbeats 400000 in
theorem guess_text (s : ByteArray) (w : World) (h : ∀ n, Lib.parseIntB 64 s.data.toList ≠ .ok n) (h2 : 2 ≤ s.size) (hc : s[0].toNat = 39) (hs : s.size ≤ 1048576) (hL : Lits w) :
    Calls Tryz.prog 42 #[.string s] w (GuessP s w) := by
  have hl : s.data.toList.length = s.size := rfl
  have g0 := getD_byte s 0 (by omega)
  have hg := Val.guess_else h
  rw [if_pos ⟨by rw [hl]; exact h2, by rw [g0]; exact hc⟩, hl, ← vcut] at hg
  have b1 : decide ((s.size : Int) ≥ 2) = true := by simp; omega
  have b2 : ((s[0].toNat : Int) == 39) = true := by simp; omega
  have hsz : (s.extract 1 (s.size - 1)).size ≤ 1048576 := by simp; omega
  have i1 : (1 : Int) ≤ (s.size : Int) - 1 := by omega
  have i2 : (s.size : Int) - 1 ≤ (s.size : Int) := by omega
  have i3 : ((s.size : Int) - 1).toNat = s.size - 1 := by omega
  replace hg := Lib.hid hg
  replace h := Lib.hid h
  clear g0 hc
  go_enter Tryz.func42, Tryz.ntmps42
  go_wp2_with (first
    | (go_at_call 98; refine (parse_bad s _ h hs (hL.alloc _)).mono ?_; rintro e w1 ⟨pn, pT, pv, rfl, hb⟩; obtain ⟨c0, c1, c2, f0, f1, f2⟩ := cells3 hb (by simp) (heap_new _ _); have hcell : w1.heap[w.heap.size]? = some (.cells #[.int .i64 0, .int .i64 0, .string ⟨#[]⟩] 25 (0, 0)) := (hb.block w.heap.size (by simp)).trans (heap_new _ _); have hz1 : w.heap.size < w1.heap.size := (by have := hb.size; simp at this; omega); have hB1 : Below w.heap.size w w1 := ((Below.refl _ w).alloc (Nat.le_refl _) _).trans (hb.mono (by simp)))
    | (go_at_call 93; refine (replace2_any (s.extract 1 (s.size - 1)) _ ((hL.alloc _).below hb).maxl hsz).mono ?_; rintro e w2 ⟨rfl, hb2⟩; obtain ⟨d0, d1, d2, g0, g1, g2⟩ := cells3 hb2 hz1 hcell; have hz2 : w.heap.size < w2.heap.size := Nat.lt_of_lt_of_le hz1 hb2.size; have hB2 : Below w.heap.size w w2 := hB1.trans (hb2.mono (Nat.le_of_lt hz1))))
  refine bodyPost_ret (v := .agg #[.int .i64 2, .int .i64 0, .string (bs (Lib.replaceAll (s.extract 1 (s.size - 1)).data.toList [39, 39] [39]))]) (by simp only [results, Tryz.results42]; go_simp) rfl ?_
  refine ⟨by rw [hg.out], ?_⟩
  exact below_set3 (hB2)

theorem hex_yes {x : List UInt8} (s : ByteArray) (w : World) (h : Hid (Txt.unhex s.data.toList [] = (x, true))) (hs : s.size ≤ 1048576) :
    Calls Tryz.prog 99 #[.string s] w fun e w' => e = .returned (.tuple #[.string (bs x), .bool true]) ∧ Below w.heap.size w w' :=
  (vhex_any s w hs).mono fun e w' ⟨y, he, hy, hb⟩ => by
    rw [h.out] at he hy
    exact ⟨by rw [he, hy rfl], hb⟩
theorem hex_no (s : ByteArray) (w : World) (h : Hid ((Txt.unhex s.data.toList []).2 = false)) (hs : s.size ≤ 1048576) :
    Calls Tryz.prog 99 #[.string s] w fun e w' => ∃ y, e = .returned (.tuple #[.string y, .bool false]) ∧ Below w.heap.size w w' :=
  (vhex_any s w hs).mono fun e w' ⟨y, he, _, hb⟩ => ⟨y, by rw [he, h.out], hb⟩

set_option maxHeartbeats 400000 in
theorem guess_blob (s : ByteArray) (w : World) (h : ∀ n, Lib.parseIntB 64 s.data.toList ≠ .ok n) (h3 : 3 ≤ s.size) (hc : s[0].toNat = 120) (hs : s.size ≤ 1048576) (hL : Lits w) :
    Calls Tryz.prog 42 #[.string s] w (GuessP s w) := by
  have hl : s.data.toList.length = s.size := rfl
  have g0 := getD_byte s 0 (by omega)
  have hg := Val.guess_else h
  rw [if_neg (by rw [g0, hc]; omega), hl, ← vcut] at hg
  have b1 : decide ((s.size : Int) ≥ 2) = true := by simp; omega
  have b2 : ((s[0].toNat : Int) == 39) = false := by simp; omega
  have b3 : decide ((s.size : Int) ≥ 3) = true := by simp; omega
  have b4 : ((s[0].toNat : Int) == 120) = true := by simp; omega
  have hsz : (s.extract 2 (s.size - 1)).size ≤ 1048576 := by simp; omega
  have i1 : (2 : Int) ≤ (s.size : Int) - 1 := by omega
  have i2 : (s.size : Int) - 1 ≤ (s.size : Int) := by omega
  have i3 : ((s.size : Int) - 1).toNat = s.size - 1 := by omega
  cases hx : (Txt.unhex (s.extract 2 (s.size - 1)).data.toList []).2 with
  | true =>
    rw [if_pos ⟨h3, by rw [g0]; exact hc, hx⟩] at hg
    obtain ⟨x, hxx⟩ : ∃ x, (Txt.unhex (s.extract 2 (s.size - 1)).data.toList []).1 = x := ⟨_, rfl⟩
    have hy : Txt.unhex (s.extract 2 (s.size - 1)).data.toList [] = (x, true) := by rw [← hxx, ← hx]
    rw [hxx] at hg
    replace hg := Lib.hid hg
    replace h := Lib.hid h
    replace hy := Lib.hid hy
    clear g0 hc hx hxx
    go_enter Tryz.func42, Tryz.ntmps42
    go_wp2_with (first
      | (go_at_call 98; refine (parse_bad s _ h hs (hL.alloc _)).mono ?_; rintro e w1 ⟨pn, pT, pv, rfl, hb⟩; obtain ⟨c0, c1, c2, f0, f1, f2⟩ := cells3 hb (by simp) (heap_new _ _); have hcell : w1.heap[w.heap.size]? = some (.cells #[.int .i64 0, .int .i64 0, .string ⟨#[]⟩] 25 (0, 0)) := (hb.block w.heap.size (by simp)).trans (heap_new _ _); have hz1 : w.heap.size < w1.heap.size := (by have := hb.size; simp at this; omega); have hB1 : Below w.heap.size w w1 := ((Below.refl _ w).alloc (Nat.le_refl _) _).trans (hb.mono (by simp)))
      | (go_at_call 99; refine (hex_yes (s.extract 2 (s.size - 1)) _ hy hsz).mono ?_; rintro e w2 ⟨rfl, hb2⟩; obtain ⟨d0, d1, d2, g0, g1, g2⟩ := cells3 hb2 hz1 hcell; have hz2 : w.heap.size < w2.heap.size := Nat.lt_of_lt_of_le hz1 hb2.size; have hB2 : Below w.heap.size w w2 := hB1.trans (hb2.mono (Nat.le_of_lt hz1))))
    refine bodyPost_ret (v := .agg #[.int .i64 3, .int .i64 0, .string (bs x)]) (by simp only [results, Tryz.results42]; go_simp) rfl ?_
    refine ⟨by rw [hg.out], ?_⟩
    exact below_set3 (hB2)
  | false =>
    rw [if_neg (by rintro ⟨_, _, hh⟩; rw [hx] at hh; cases hh)] at hg
    replace hg := Lib.hid hg
    replace h := Lib.hid h
    replace hx := Lib.hid hx
    clear g0 hc
    go_enter Tryz.func42, Tryz.ntmps42
    go_wp2_with (first
      | (go_at_call 98; refine (parse_bad s _ h hs (hL.alloc _)).mono ?_; rintro e w1 ⟨pn, pT, pv, rfl, hb⟩; obtain ⟨c0, c1, c2, f0, f1, f2⟩ := cells3 hb (by simp) (heap_new _ _); have hcell : w1.heap[w.heap.size]? = some (.cells #[.int .i64 0, .int .i64 0, .string ⟨#[]⟩] 25 (0, 0)) := (hb.block w.heap.size (by simp)).trans (heap_new _ _); have hz1 : w.heap.size < w1.heap.size := (by have := hb.size; simp at this; omega); have hB1 : Below w.heap.size w w1 := ((Below.refl _ w).alloc (Nat.le_refl _) _).trans (hb.mono (by simp)))
      | (go_at_call 99; refine (hex_no (s.extract 2 (s.size - 1)) _ hx hsz).mono ?_; rintro e w2 ⟨y, rfl, hb2⟩; obtain ⟨d0, d1, d2, g0, g1, g2⟩ := cells3 hb2 hz1 hcell; have hz2 : w.heap.size < w2.heap.size := Nat.lt_of_lt_of_le hz1 hb2.size; have hB2 : Below w.heap.size w w2 := hB1.trans (hb2.mono (Nat.le_of_lt hz1))))
    refine bodyPost_ret (v := .agg #[.int .i64 0, .int .i64 0, .string ⟨#[]⟩]) (by simp only [results, Tryz.results42]; go_simp) rfl ?_
    refine ⟨by rw [hg.out]; rfl, ?_⟩
    exact below_set3 (hB2)

set_option maxHeartbeats 400000 in
theorem guess_zero (s : ByteArray) (w : World) (h : ∀ n, Lib.parseIntB 64 s.data.toList ≠ .ok n) (h2 : ¬ (2 ≤ s.size ∧ (s.data.toList.getD 0 0).toNat = 39)) (h3 : ¬ (3 ≤ s.size ∧ (s.data.toList.getD 0 0).toNat = 120)) (hs : s.size ≤ 1048576) (hL : Lits w) :
    Calls Tryz.prog 42 #[.string s] w (GuessP s w) := by
  have hl : s.data.toList.length = s.size := rfl
  have hg := Val.guess_else h
  rw [hl, if_neg h2, if_neg (fun hh => h3 ⟨hh.1, hh.2.1⟩)] at hg
  replace hg := Lib.hid hg
  replace h := Lib.hid h
  by_cases ha : s.size < 2
  · have b1 : decide ((s.size : Int) ≥ 2) = false := by simp; omega
    have b3 : decide ((s.size : Int) ≥ 3) = false := by simp; omega
    clear h2 h3
    go_enter Tryz.func42, Tryz.ntmps42
    go_wp2_with (go_at_call 98; refine (parse_bad s _ h hs (hL.alloc _)).mono ?_; rintro e w1 ⟨pn, pT, pv, rfl, hb⟩; obtain ⟨c0, c1, c2, f0, f1, f2⟩ := cells3 hb (by simp) (heap_new _ _); have hz1 : w.heap.size < w1.heap.size := (by have := hb.size; simp at this; omega); have hB1 : Below w.heap.size w w1 := ((Below.refl _ w).alloc (Nat.le_refl _) _).trans (hb.mono (by simp)))
    refine bodyPost_ret (v := .agg #[.int .i64 0, .int .i64 0, .string ⟨#[]⟩]) (by simp only [results, Tryz.results42]; go_simp) rfl ?_
    refine ⟨by rw [hg.out]; rfl, ?_⟩
    exact below_set3 hB1
  · have g0 := getD_byte s 0 (by omega)
    rw [g0] at h2 h3
    clear g0
    have b1 : decide ((s.size : Int) ≥ 2) = true := by simp; omega
    have b2 : ((s[0].toNat : Int) == 39) = false := by simp; omega
    by_cases hb3 : 3 ≤ s.size
    · have b3 : decide ((s.size : Int) ≥ 3) = true := by simp; omega
      have b4 : ((s[0].toNat : Int) == 120) = false := by simp; omega
      clear h2 h3
      go_enter Tryz.func42, Tryz.ntmps42
      go_wp2_with (go_at_call 98; refine (parse_bad s _ h hs (hL.alloc _)).mono ?_; rintro e w1 ⟨pn, pT, pv, rfl, hb⟩; obtain ⟨c0, c1, c2, f0, f1, f2⟩ := cells3 hb (by simp) (heap_new _ _); have hz1 : w.heap.size < w1.heap.size := (by have := hb.size; simp at this; omega); have hB1 : Below w.heap.size w w1 := ((Below.refl _ w).alloc (Nat.le_refl _) _).trans (hb.mono (by simp)))
      refine bodyPost_ret (v := .agg #[.int .i64 0, .int .i64 0, .string ⟨#[]⟩]) (by simp only [results, Tryz.results42]; go_simp) rfl ?_
      refine ⟨by rw [hg.out]; rfl, ?_⟩
      exact below_set3 hB1
    · have b3 : decide ((s.size : Int) ≥ 3) = false := by simp; omega
      clear h2 h3
      go_enter Tryz.func42, Tryz.ntmps42
      go_wp2_with (go_at_call 98; refine (parse_bad s _ h hs (hL.alloc _)).mono ?_; rintro e w1 ⟨pn, pT, pv, rfl, hb⟩; obtain ⟨c0, c1, c2, f0, f1, f2⟩ := cells3 hb (by simp) (heap_new _ _); have hz1 : w.heap.size < w1.heap.size := (by have := hb.size; simp at this; omega); have hB1 : Below w.heap.size w w1 := ((Below.refl _ w).alloc (Nat.le_refl _) _).trans (hb.mono (by simp)))
      refine bodyPost_ret (v := .agg #[.int .i64 0, .int .i64 0, .string ⟨#[]⟩]) (by simp only [results, Tryz.results42]; go_simp) rfl ?_
      refine ⟨by rw [hg.out]; rfl, ?_⟩
      exact below_set3 hB1

theorem guess_any (s : ByteArray) (w : World) (hs : s.size ≤ 1048576) (hL : Lits w) :
    Calls Tryz.prog 42 #[.string s] w (GuessP s w) := by
  by_cases hok : ∃ n, Lib.parseIntB 64 s.data.toList = .ok n
  · obtain ⟨n, hn⟩ := hok
    exact guess_int s w n hn hs hL
  · have h : ∀ n, Lib.parseIntB 64 s.data.toList ≠ .ok n := fun n hn => hok ⟨n, hn⟩
    by_cases h2 : 2 ≤ s.size ∧ (s.data.toList.getD 0 0).toNat = 39
    · have g0 := getD_byte s 0 (by omega)
      exact guess_text s w h h2.1 (by rw [← g0]; exact h2.2) hs hL
    · by_cases h3 : 3 ≤ s.size ∧ (s.data.toList.getD 0 0).toNat = 120
      · have g0 := getD_byte s 0 (by omega)
        exact guess_blob s w h h3.1 (by rw [← g0]; exact h3.2) hs hL
      · exact guess_zero s w h h2 h3 hs hL

end Go.Proofs.YtmkgalcojoeniaaGreatDoor
