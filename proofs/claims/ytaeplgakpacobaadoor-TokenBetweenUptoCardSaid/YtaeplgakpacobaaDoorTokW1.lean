/- Walks: the small functions of package token. -/
import Derived.Test.YtaeplgakpacobaaDoorProg
import Derived.Test.YtaeplgakpacobaaDoorShelf
import Derived.Test.YtaeplgakpacobaaDoorPlain
import Derived.Test.YtaeplgakpacobaaDoorBase
set_option maxRecDepth 100000
set_option linter.unusedVariables false
set_option linter.unusedSimpArgs false
namespace Go.Proofs.YtaeplgakpacobaaDoor
open Go.RowKit

/-- the library's IndexByte and HasPrefix, with the world named as the walks name it -/
theorem index_any (s : ByteArray) (c : UInt8) (w : World) :
    Calls Tryd.prog 61 #[.string s, .int .u8 (c.toNat : Int)] w fun e w' => e = .returned (.int .i64 (Lib.indexByte s.data.toList c)) ∧ w = w' :=
  (Tryd.strings_IndexByte s _ w).mono fun _ _ ⟨h, h'⟩ => ⟨by rw [h, Int.toNat_natCast]; simp, h'.symm⟩
theorem index_10 (s : ByteArray) (w : World) : Calls Tryd.prog 61 #[.string s, .int .u8 10] w fun e w' => e = .returned (.int .i64 (Lib.indexByte s.data.toList 10)) ∧ w = w' := index_any s 10 w
theorem index_39 (s : ByteArray) (w : World) : Calls Tryd.prog 61 #[.string s, .int .u8 39] w fun e w' => e = .returned (.int .i64 (Lib.indexByte s.data.toList 39)) ∧ w = w' := index_any s 39 w
theorem prefix_any (s p : ByteArray) (w : World) :
    Calls Tryd.prog 60 #[.string s, .string p] w fun e w' => e = .returned (.bool (Lib.hasPrefix s.data.toList p.data.toList)) ∧ w = w' :=
  (Tryd.strings_HasPrefix s p w).mono fun _ _ ⟨h, h'⟩ => ⟨h, h'.symm⟩
theorem drop_data (s : ByteArray) (k : Nat) : (s.extract k s.size).data.toList = s.data.toList.drop k := by
  rw [Lib.extract_data]; exact List.take_of_length_le (by simp)

theorem letter_any (c : UInt8) (w : World) :
    Calls Tryd.prog 26 #[.int .u8 (c.toNat : Int)] w fun e w' => e = .returned (.bool (Tok.letter c)) ∧ w = w' := by
  have hc := c.toNat_lt
  go_enter Tryd.func26, Tryd.ntmps26
  go_wp2
  all_goals go_ret
  all_goals (refine ⟨ret_bool ?_, rfl⟩; rw [Bool.eq_iff_iff]; simp [Tok.letter]; omega)

theorem digit_any (c : UInt8) (w : World) :
    Calls Tryd.prog 31 #[.int .u8 (c.toNat : Int)] w fun e w' => e = .returned (.bool (Tok.digit c)) ∧ w = w' := by
  have hc := c.toNat_lt
  go_enter Tryd.func31, Tryd.ntmps31
  go_wp2
  all_goals go_ret
  all_goals (refine ⟨ret_bool ?_, rfl⟩; rw [Bool.eq_iff_iff]; simp [Tok.digit]; omega)

theorem word_any (c : UInt8) (w : World) :
    Calls Tryd.prog 64 #[.int .u8 (c.toNat : Int)] w fun e w' => e = .returned (.bool (Tok.word c)) ∧ w = w' := by
  go_enter Tryd.func64, Tryd.ntmps64
  go_wp2_with (first
    | (go_at_call 26; refine (letter_any _ _).mono ?_; rintro e w' ⟨rfl, rfl⟩)
    | (go_at_call 31; refine (digit_any _ _).mono ?_; rintro e w' ⟨rfl, rfl⟩))
  all_goals go_ret
  all_goals (refine ⟨ret_bool ?_, rfl⟩; simp_all [Tok.word])



/-- the loop of run, at each of its functions -/
theorem run_letter (s : ByteArray) (a : Int) (w : World) (hs : s.size ≤ 4294967296) (h0 : 0 ≤ a) (h1 : a ≤ s.size) :
    Calls Tryd.prog 25 #[.string s, .int .i64 a, .func (.func 26) #[] #[]] w fun e w' => e = .returned (.int .i64 (Tok.runEnd Tok.letter s.data.toList a.toNat)) ∧ w = w' := by
  obtain ⟨k0, rfl⟩ := Int.eq_ofNat_of_zero_le h0
  rw [Int.toNat_natCast]
  go_enter Tryd.func25, Tryd.ntmps25
  go_wp2
  go_loop [1] (fun i => ∃ k : Nat, k ≤ s.size ∧ i = .int .i64 k ∧ Hid (Tok.runEnd Tok.letter s.data.toList k = Tok.runEnd Tok.letter s.data.toList k0)) (fun i => s.size - (intOf i).toNat)
  case atStart => exact ⟨k0, by omega, rfl, rfl⟩
  case round =>
    obtain ⟨k, hk, rfl, hr⟩ := hrel
    by_cases hlt : k < s.size
    · have hlt' : k < s.data.toList.length := hlt
      go_wp2_with (go_at_call 26; refine (letter_any _ _).mono ?_; rintro e w' ⟨rfl, rfl⟩)
      · have hp : Tok.letter s[k] = true := by assumption
        go_round
        case rel => exact ⟨k + 1, by omega, by go_num, (Tok.runEnd_step hlt' hp).trans hr⟩
        case measure => simp [intOf]; omega
      · have hp : Tok.letter s[k] = false := by assumption
        go_ret
        exact ⟨ret_int (by rw [← hr.out, Tok.runEnd_stop hlt' hp]), rfl⟩
    · have hlt' : s.data.toList.length ≤ k := Nat.le_of_not_lt hlt
      go_wp2
      go_ret
      exact ⟨ret_int (by rw [← hr.out, Tok.runEnd_end hlt']), rfl⟩
theorem run_digit (s : ByteArray) (a : Int) (w : World) (hs : s.size ≤ 4294967296) (h0 : 0 ≤ a) (h1 : a ≤ s.size) :
    Calls Tryd.prog 25 #[.string s, .int .i64 a, .func (.func 31) #[] #[]] w fun e w' => e = .returned (.int .i64 (Tok.runEnd Tok.digit s.data.toList a.toNat)) ∧ w = w' := by
  obtain ⟨k0, rfl⟩ := Int.eq_ofNat_of_zero_le h0
  rw [Int.toNat_natCast]
  go_enter Tryd.func25, Tryd.ntmps25
  go_wp2
  go_loop [1] (fun i => ∃ k : Nat, k ≤ s.size ∧ i = .int .i64 k ∧ Hid (Tok.runEnd Tok.digit s.data.toList k = Tok.runEnd Tok.digit s.data.toList k0)) (fun i => s.size - (intOf i).toNat)
  case atStart => exact ⟨k0, by omega, rfl, rfl⟩
  case round =>
    obtain ⟨k, hk, rfl, hr⟩ := hrel
    by_cases hlt : k < s.size
    · have hlt' : k < s.data.toList.length := hlt
      go_wp2_with (go_at_call 31; refine (digit_any _ _).mono ?_; rintro e w' ⟨rfl, rfl⟩)
      · have hp : Tok.digit s[k] = true := by assumption
        go_round
        case rel => exact ⟨k + 1, by omega, by go_num, (Tok.runEnd_step hlt' hp).trans hr⟩
        case measure => simp [intOf]; omega
      · have hp : Tok.digit s[k] = false := by assumption
        go_ret
        exact ⟨ret_int (by rw [← hr.out, Tok.runEnd_stop hlt' hp]), rfl⟩
    · have hlt' : s.data.toList.length ≤ k := Nat.le_of_not_lt hlt
      go_wp2
      go_ret
      exact ⟨ret_int (by rw [← hr.out, Tok.runEnd_end hlt']), rfl⟩
theorem run_word (s : ByteArray) (a : Int) (w : World) (hs : s.size ≤ 4294967296) (h0 : 0 ≤ a) (h1 : a ≤ s.size) :
    Calls Tryd.prog 25 #[.string s, .int .i64 a, .func (.func 64) #[] #[]] w fun e w' => e = .returned (.int .i64 (Tok.runEnd Tok.word s.data.toList a.toNat)) ∧ w = w' := by
  obtain ⟨k0, rfl⟩ := Int.eq_ofNat_of_zero_le h0
  rw [Int.toNat_natCast]
  go_enter Tryd.func25, Tryd.ntmps25
  go_wp2
  go_loop [1] (fun i => ∃ k : Nat, k ≤ s.size ∧ i = .int .i64 k ∧ Hid (Tok.runEnd Tok.word s.data.toList k = Tok.runEnd Tok.word s.data.toList k0)) (fun i => s.size - (intOf i).toNat)
  case atStart => exact ⟨k0, by omega, rfl, rfl⟩
  case round =>
    obtain ⟨k, hk, rfl, hr⟩ := hrel
    by_cases hlt : k < s.size
    · have hlt' : k < s.data.toList.length := hlt
      go_wp2_with (go_at_call 64; refine (word_any _ _).mono ?_; rintro e w' ⟨rfl, rfl⟩)
      · have hp : Tok.word s[k] = true := by assumption
        go_round
        case rel => exact ⟨k + 1, by omega, by go_num, (Tok.runEnd_step hlt' hp).trans hr⟩
        case measure => simp [intOf]; omega
      · have hp : Tok.word s[k] = false := by assumption
        go_ret
        exact ⟨ret_int (by rw [← hr.out, Tok.runEnd_stop hlt' hp]), rfl⟩
    · have hlt' : s.data.toList.length ≤ k := Nat.le_of_not_lt hlt
      go_wp2
      go_ret
      exact ⟨ret_int (by rw [← hr.out, Tok.runEnd_end hlt']), rfl⟩

theorem run_letter_is {n : Nat} (s : ByteArray) (k : Nat) (w : World) (he : Hid (n = Tok.runEnd Tok.letter s.data.toList k)) (hs : s.size ≤ 4294967296) (h1 : k ≤ s.size) :
    Calls Tryd.prog 25 #[.string s, .int .i64 (k : Int), .func (.func 26) #[] #[]] w fun e w' => e = .returned (.int .i64 (n : Int)) ∧ w = w' :=
  (run_letter s k w hs (by omega) (by omega)).mono fun _ _ ⟨h, h'⟩ => ⟨by rw [h, Int.toNat_natCast, ← he.out], h'⟩
theorem run_digit_is {n : Nat} (s : ByteArray) (k : Nat) (w : World) (he : Hid (n = Tok.runEnd Tok.digit s.data.toList k)) (hs : s.size ≤ 4294967296) (h1 : k ≤ s.size) :
    Calls Tryd.prog 25 #[.string s, .int .i64 (k : Int), .func (.func 31) #[] #[]] w fun e w' => e = .returned (.int .i64 (n : Int)) ∧ w = w' :=
  (run_digit s k w hs (by omega) (by omega)).mono fun _ _ ⟨h, h'⟩ => ⟨by rw [h, Int.toNat_natCast, ← he.out], h'⟩
theorem run_word_is {n : Nat} (s : ByteArray) (k : Nat) (w : World) (he : Hid (n = Tok.runEnd Tok.word s.data.toList k)) (hs : s.size ≤ 4294967296) (h1 : k ≤ s.size) :
    Calls Tryd.prog 25 #[.string s, .int .i64 (k : Int), .func (.func 64) #[] #[]] w fun e w' => e = .returned (.int .i64 (n : Int)) ∧ w = w' :=
  (run_word s k w hs (by omega) (by omega)).mono fun _ _ ⟨h, h'⟩ => ⟨by rw [h, Int.toNat_natCast, ← he.out], h'⟩

end Go.Proofs.YtaeplgakpacobaaDoor
