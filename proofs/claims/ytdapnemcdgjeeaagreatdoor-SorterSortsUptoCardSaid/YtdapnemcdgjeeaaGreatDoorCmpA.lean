/- Walks: how two texts stand. Walks: how two texts stand, without the blanks at their ends; under any collation. Walks: how two values stand. -/
import Derived.Test.YtdapnemcdgjeeaaGreatDoorPlain
import Derived.Test.YtdapnemcdgjeeaaGreatDoorValW
import Derived.Deep.RegionHeld3
set_option maxRecDepth 100000
set_option linter.unusedVariables false
set_option linter.unusedSimpArgs false
namespace Go.Proofs.YtdapnemcdgjeeaaGreatDoor
open Go.RowKit

/-- a byte as it is -/
def kept (c : UInt8) : UInt8 := c
theorem kept_map (l : List UInt8) : l.map kept = l := by
  induction l with
  | nil => rfl
  | cons x l ih => rw [List.map_cons, ih]; rfl
theorem vsame_any (c : UInt8) (w : World) :
    Calls Tryz.prog 114 #[.int .u8 (c.toNat : Int)] w fun e w' => e = .returned (.int .u8 ((kept c).toNat : Int)) ∧ w = w' := by
  go_enter Tryz.func114, Tryz.ntmps114
  go_wp2
  go_ret
  exact ⟨rfl, rfl⟩
theorem vlower_any (c : UInt8) (w : World) :
    Calls Tryz.prog 115 #[.int .u8 (c.toNat : Int)] w fun e w' => e = .returned (.int .u8 ((Txt.lower c).toNat : Int)) ∧ w = w' := by
  have hc := c.toNat_lt
  by_cases hu : 65 ≤ c.toNat ∧ c.toNat ≤ 90
  · have hlo : ((Txt.lower c).toNat : Int) = ((c.toNat : Int) + 32) % 256 := by rw [Txt.lower_up hu]; omega
    have b1 : decide ((c.toNat : Int) ≥ 65) = true := by simp; omega
    have b2 : decide ((c.toNat : Int) ≤ 90) = true := by simp; omega
    replace hlo := Lib.hid hlo
    clear hu
    go_enter Tryz.func115, Tryz.ntmps115
    go_wp2
    go_ret
    exact ⟨by rw [hlo.out]; rfl, rfl⟩
  · rw [Txt.lower_no hu]
    go_enter Tryz.func115, Tryz.ntmps115
    go_wp2
    all_goals first
      | (exfalso; omega; done)
      | (go_ret; exact ⟨rfl, rfl⟩)

theorem nan_u8 (x : Int) (w : World) :
    Calls Tryz.prog 143 #[.int .u8 x] w fun e w' => e = .returned (.bool false) ∧ w = w' := by
  go_enter Tryz.func143, Tryz.ntmps143
  go_wp2
  go_ret
  exact ⟨ret_bool (by simp), rfl⟩
theorem compare_u8 (x y : Int) (w : World) :
    Calls Tryz.prog 117 #[.int .u8 x, .int .u8 y] w fun e w' => e = .returned (.int .i64 (Lib.compareInt x y)) ∧ w = w' := by
  by_cases h1 : x < y
  · have b1 : decide (x < y) = true := by simp; omega
    have hc : Lib.compareInt x y = -1 := by rw [Lib.compareInt, if_pos h1]
    rw [hc]
    clear hc
    go_enter Tryz.func117, Tryz.ntmps117
    go_wp2_with (go_at_call 143; refine (nan_u8 _ _).mono ?_; rintro e w1 ⟨rfl, rfl⟩)
    go_ret
    exact ⟨rfl, rfl⟩
  · have b1 : decide (x < y) = false := by simp; omega
    by_cases h2 : x > y
    · have b2 : decide (x > y) = true := by simp; omega
      have hc : Lib.compareInt x y = 1 := by rw [Lib.compareInt, if_neg h1, if_pos h2]
      rw [hc]
      clear hc
      go_enter Tryz.func117, Tryz.ntmps117
      go_wp2_with (go_at_call 143; refine (nan_u8 _ _).mono ?_; rintro e w1 ⟨rfl, rfl⟩)
      go_ret
      exact ⟨rfl, rfl⟩
    · have b2 : decide (x > y) = false := by simp; omega
      have hc : Lib.compareInt x y = 0 := by rw [Lib.compareInt, if_neg h1, if_neg h2]
      rw [hc]
      clear hc
      go_enter Tryz.func117, Tryz.ntmps117
      go_wp2_with (go_at_call 143; refine (nan_u8 _ _).mono ?_; rintro e w1 ⟨rfl, rfl⟩)
      go_ret
      exact ⟨rfl, rfl⟩
theorem nan_i64 (x : Int) (w : World) :
    Calls Tryz.prog 118 #[.int .i64 x] w fun e w' => e = .returned (.bool false) ∧ w = w' := by
  go_enter Tryz.func118, Tryz.ntmps118
  go_wp2
  go_ret
  exact ⟨ret_bool (by simp), rfl⟩
theorem compare_i64 (x y : Int) (w : World) :
    Calls Tryz.prog 91 #[.int .i64 x, .int .i64 y] w fun e w' => e = .returned (.int .i64 (Lib.compareInt x y)) ∧ w = w' := by
  by_cases h1 : x < y
  · have b1 : decide (x < y) = true := by simp; omega
    have hc : Lib.compareInt x y = -1 := by rw [Lib.compareInt, if_pos h1]
    rw [hc]
    clear hc
    go_enter Tryz.func91, Tryz.ntmps91
    go_wp2_with (go_at_call 118; refine (nan_i64 _ _).mono ?_; rintro e w1 ⟨rfl, rfl⟩)
    go_ret
    exact ⟨rfl, rfl⟩
  · have b1 : decide (x < y) = false := by simp; omega
    by_cases h2 : x > y
    · have b2 : decide (x > y) = true := by simp; omega
      have hc : Lib.compareInt x y = 1 := by rw [Lib.compareInt, if_neg h1, if_pos h2]
      rw [hc]
      clear hc
      go_enter Tryz.func91, Tryz.ntmps91
      go_wp2_with (go_at_call 118; refine (nan_i64 _ _).mono ?_; rintro e w1 ⟨rfl, rfl⟩)
      go_ret
      exact ⟨rfl, rfl⟩
    · have b2 : decide (x > y) = false := by simp; omega
      have hc : Lib.compareInt x y = 0 := by rw [Lib.compareInt, if_neg h1, if_neg h2]
      rw [hc]
      clear hc
      go_enter Tryz.func91, Tryz.ntmps91
      go_wp2_with (go_at_call 118; refine (nan_i64 _ _).mono ?_; rintro e w1 ⟨rfl, rfl⟩)
      go_ret
      exact ⟨rfl, rfl⟩
theorem nan_kind (x : Int) (w : World) :
    Calls Tryz.prog 113 #[.int .i64 x] w fun e w' => e = .returned (.bool false) ∧ w = w' := by
  go_enter Tryz.func113, Tryz.ntmps113
  go_wp2
  go_ret
  exact ⟨ret_bool (by simp), rfl⟩
theorem compare_kind (x y : Int) (w : World) :
    Calls Tryz.prog 89 #[.int .i64 x, .int .i64 y] w fun e w' => e = .returned (.int .i64 (Lib.compareInt x y)) ∧ w = w' := by
  by_cases h1 : x < y
  · have b1 : decide (x < y) = true := by simp; omega
    have hc : Lib.compareInt x y = -1 := by rw [Lib.compareInt, if_pos h1]
    rw [hc]
    clear hc
    go_enter Tryz.func89, Tryz.ntmps89
    go_wp2_with (go_at_call 113; refine (nan_kind _ _).mono ?_; rintro e w1 ⟨rfl, rfl⟩)
    go_ret
    exact ⟨rfl, rfl⟩
  · have b1 : decide (x < y) = false := by simp; omega
    by_cases h2 : x > y
    · have b2 : decide (x > y) = true := by simp; omega
      have hc : Lib.compareInt x y = 1 := by rw [Lib.compareInt, if_neg h1, if_pos h2]
      rw [hc]
      clear hc
      go_enter Tryz.func89, Tryz.ntmps89
      go_wp2_with (go_at_call 113; refine (nan_kind _ _).mono ?_; rintro e w1 ⟨rfl, rfl⟩)
      go_ret
      exact ⟨rfl, rfl⟩
    · have b2 : decide (x > y) = false := by simp; omega
      have hc : Lib.compareInt x y = 0 := by rw [Lib.compareInt, if_neg h1, if_neg h2]
      rw [hc]
      clear hc
      go_enter Tryz.func89, Tryz.ntmps89
      go_wp2_with (go_at_call 113; refine (nan_kind _ _).mono ?_; rintro e w1 ⟨rfl, rfl⟩)
      go_ret
      exact ⟨rfl, rfl⟩

theorem dropc (s : ByteArray) (k : Nat) (h : k < s.size) : s.data.toList.drop k = s[k] :: s.data.toList.drop (k + 1) := List.drop_eq_getElem_cons (l := s.data.toList) h
/-- one step of the comparing of texts -/
theorem cb_step (F : UInt8 → UInt8) (a b : ByteArray) (k : Nat) (ha : k < a.size) (hb : k < b.size) :
    Lib.compareBytes ((a.data.toList.drop k).map F) ((b.data.toList.drop k).map F) = if Lib.compareInt ((F a[k]).toNat : Int) ((F b[k]).toNat : Int) ≠ 0 then Lib.compareInt ((F a[k]).toNat : Int) ((F b[k]).toNat : Int) else Lib.compareBytes ((a.data.toList.drop (k + 1)).map F) ((b.data.toList.drop (k + 1)).map F) := by
  rw [dropc a k ha, dropc b k hb]
  simp only [List.map_cons, Lib.compareBytes, Lib.compareInt, Val.u8_lt]
  by_cases h1 : (F a[k]).toNat < (F b[k]).toNat
  · have : ((F a[k]).toNat : Int) < (F b[k]).toNat := by omega
    simp [h1]
  · by_cases h2 : (F b[k]).toNat < (F a[k]).toNat
    · simp [h1, h2]
    · simp [h1, h2]
theorem cb_end (F : UInt8 → UInt8) (a b : ByteArray) (k : Nat) (h : ¬ (k < a.size ∧ k < b.size)) (hk : k ≤ a.size) (hk2 : k ≤ b.size) :
    Lib.compareBytes ((a.data.toList.drop k).map F) ((b.data.toList.drop k).map F) = Lib.compareInt (a.size : Int) (b.size : Int) := by
  have ea : (a.data.toList.drop k).length = a.size - k := List.length_drop
  have eb : (b.data.toList.drop k).length = b.size - k := List.length_drop
  rcases hx : a.data.toList.drop k with _ | ⟨x, l⟩
  · rw [hx] at ea; simp at ea
    rcases hy : b.data.toList.drop k with _ | ⟨y, m⟩
    · rw [hy] at eb; simp at eb
      simp only [List.map_nil, Lib.compareBytes, Lib.compareInt]
      rw [if_neg (by omega), if_neg (by omega)]
    · rw [hy] at eb; simp at eb
      simp only [List.map_nil, List.map_cons, Lib.compareBytes, Lib.compareInt]
      rw [if_pos (by omega)]
  · rw [hx] at ea; simp at ea
    rcases hy : b.data.toList.drop k with _ | ⟨y, m⟩
    · rw [hy] at eb; simp at eb
      simp only [List.map_nil, List.map_cons, Lib.compareBytes, Lib.compareInt]
      rw [if_neg (by omega), if_pos (by omega)]
    · rw [hy] at eb; simp at eb
      omega

theorem trimB_len (l : List UInt8) (c : UInt8) : (Lib.trimRightB l c).length ≤ l.length := by
  unfold Lib.trimRightB
  rw [List.length_reverse]
  have := (List.dropWhile_sublist (fun x => x == c) (l := l.reverse)).length_le
  simpa using this

set_option maxHeartbeats 2000000 in
theorem vtexts_plain (a0 b0 : ByteArray) (c : Int) (w : World) (hc : c ≠ 1 ∧ c ≠ 2) (ha0 : a0.size ≤ 1048576) (hb0 : b0.size ≤ 1048576) (r : Int) (hr : Hid (Lib.compareBytes ((a0.data.toList).map kept) ((b0.data.toList).map kept) = r)) :
    Calls Tryz.prog 90 #[.string a0, .string b0, .int .i64 c] w fun e w' => e = .returned (.int .i64 r) ∧ Below w.heap.size w w' := by
  obtain ⟨a, rfl⟩ : ∃ a, a = a0 := ⟨_, rfl⟩
  obtain ⟨b, rfl⟩ : ∃ b, b = b0 := ⟨_, rfl⟩
  have c1 : (c == 1) = false := by simp; omega
  have c2 : (c == 2) = false := by simp; omega
  clear hc
  go_enter Tryz.func90, Tryz.ntmps90
  go_wp2
  go_loopw [24] (fun i wr => ∃ k : Nat, i = .int .i64 (k : Int) ∧ k ≤ a.size ∧ k ≤ b.size ∧ Hid (Lib.compareBytes ((a.data.toList.drop k).map kept) ((b.data.toList.drop k).map kept) = r) ∧ Below w.heap.size w wr) (fun i _ => a.size - (intOf i).toNat)
  case atStart => exact ⟨0, by go_num, by omega, by omega, hr, Below.refl _ _⟩
  case round =>
    obtain ⟨k, rfl, hka, hkb, hq, hB⟩ := hrel
    by_cases hlt : k < a.size ∧ k < b.size
    · have hla := hlt.1
      have hlb := hlt.2
      have hlB : decide ((k : Int) < min (a.size : Int) (b.size : Int)) = true := by simp; omega
      have hst := cb_step kept a b k hla hlb
      rw [hq.out] at hst
      have ca := a[k].toNat_lt
      have cb := b[k].toNat_lt
      obtain ⟨d, hd⟩ : ∃ d, Lib.compareInt ((kept a[k]).toNat : Int) ((kept b[k]).toNat : Int) = d := ⟨_, rfl⟩
      rw [hd] at hst
      by_cases hd0 : d = 0
      · rw [if_neg (by simp [hd0])] at hst
        subst hd0
        replace hst := Lib.hid hst
        replace hd := Lib.hid hd
        clear hlt hr hq
        go_wp2_with fail
        go_region_held3 (fun _ => True) (trivial) (first
          | (go_at_call 114; refine (vsame_any _ _).mono ?_; rintro e w1 ⟨rfl, rfl⟩)
          | (go_at_call 117; refine (compare_u8 _ _ _).mono ?_; rintro e w1 ⟨rfl, rfl⟩; rw [hd.out]))
        all_goals (
          go_wp2
          go_roundw
          case rel => exact ⟨k + 1, by go_num, by omega, by omega, Lib.hid hst.out.symm, hB.drew⟩
          case measure => simp [intOf]; omega)
      · rw [if_pos hd0] at hst
        subst hst
        have hdB : (r != 0) = true := by simp; omega
        replace hd := Lib.hid hd
        clear hlt hr hq
        go_wp2_with fail
        go_region_held3 (fun _ => True) (trivial) (first
          | (go_at_call 114; refine (vsame_any _ _).mono ?_; rintro e w1 ⟨rfl, rfl⟩)
          | (go_at_call 117; refine (compare_u8 _ _ _).mono ?_; rintro e w1 ⟨rfl, rfl⟩; rw [hd.out]))
        all_goals (
          go_wp2
          go_ret
          exact ⟨rfl, hB.drew⟩)
    · have hlB : decide ((k : Int) < min (a.size : Int) (b.size : Int)) = false := by simp; omega
      have he := (cb_end kept a b k hlt hka hkb).symm.trans hq.out
      replace he := Lib.hid he
      clear hr hq hlt
      go_wp2_with (go_at_call 74; refine (Tryz.cmp_Compare_int _ _ _).mono ?_; rintro e w1 ⟨rfl, rfl⟩; rw [he.out])
      go_ret
      exact ⟨rfl, hB⟩

set_option maxHeartbeats 2000000 in
theorem vtexts_low (a0 b0 : ByteArray) (c : Int) (w : World) (hc : c = 1) (ha0 : a0.size ≤ 1048576) (hb0 : b0.size ≤ 1048576) (r : Int) (hr : Hid (Lib.compareBytes ((a0.data.toList).map Txt.lower) ((b0.data.toList).map Txt.lower) = r)) :
    Calls Tryz.prog 90 #[.string a0, .string b0, .int .i64 c] w fun e w' => e = .returned (.int .i64 r) ∧ Below w.heap.size w w' := by
  obtain ⟨a, rfl⟩ : ∃ a, a = a0 := ⟨_, rfl⟩
  obtain ⟨b, rfl⟩ : ∃ b, b = b0 := ⟨_, rfl⟩
  have c1 : (c == 1) = true := by simp; omega
  clear hc
  go_enter Tryz.func90, Tryz.ntmps90
  go_wp2
  go_loopw [24] (fun i wr => ∃ k : Nat, i = .int .i64 (k : Int) ∧ k ≤ a.size ∧ k ≤ b.size ∧ Hid (Lib.compareBytes ((a.data.toList.drop k).map Txt.lower) ((b.data.toList.drop k).map Txt.lower) = r) ∧ Below w.heap.size w wr) (fun i _ => a.size - (intOf i).toNat)
  case atStart => exact ⟨0, by go_num, by omega, by omega, hr, Below.refl _ _⟩
  case round =>
    obtain ⟨k, rfl, hka, hkb, hq, hB⟩ := hrel
    by_cases hlt : k < a.size ∧ k < b.size
    · have hla := hlt.1
      have hlb := hlt.2
      have hlB : decide ((k : Int) < min (a.size : Int) (b.size : Int)) = true := by simp; omega
      have hst := cb_step Txt.lower a b k hla hlb
      rw [hq.out] at hst
      have ca := a[k].toNat_lt
      have cb := b[k].toNat_lt
      obtain ⟨d, hd⟩ : ∃ d, Lib.compareInt ((Txt.lower a[k]).toNat : Int) ((Txt.lower b[k]).toNat : Int) = d := ⟨_, rfl⟩
      rw [hd] at hst
      by_cases hd0 : d = 0
      · rw [if_neg (by simp [hd0])] at hst
        subst hd0
        replace hst := Lib.hid hst
        replace hd := Lib.hid hd
        clear hlt hr hq
        go_wp2_with fail
        go_region_held3 (fun _ => True) (trivial) (first
          | (go_at_call 115; refine (vlower_any _ _).mono ?_; rintro e w1 ⟨rfl, rfl⟩)
          | (go_at_call 117; refine (compare_u8 _ _ _).mono ?_; rintro e w1 ⟨rfl, rfl⟩; rw [hd.out]))
        all_goals (
          go_wp2
          go_roundw
          case rel => exact ⟨k + 1, by go_num, by omega, by omega, Lib.hid hst.out.symm, hB.drew⟩
          case measure => simp [intOf]; omega)
      · rw [if_pos hd0] at hst
        subst hst
        have hdB : (r != 0) = true := by simp; omega
        replace hd := Lib.hid hd
        clear hlt hr hq
        go_wp2_with fail
        go_region_held3 (fun _ => True) (trivial) (first
          | (go_at_call 115; refine (vlower_any _ _).mono ?_; rintro e w1 ⟨rfl, rfl⟩)
          | (go_at_call 117; refine (compare_u8 _ _ _).mono ?_; rintro e w1 ⟨rfl, rfl⟩; rw [hd.out]))
        all_goals (
          go_wp2
          go_ret
          exact ⟨rfl, hB.drew⟩)
    · have hlB : decide ((k : Int) < min (a.size : Int) (b.size : Int)) = false := by simp; omega
      have he := (cb_end Txt.lower a b k hlt hka hkb).symm.trans hq.out
      replace he := Lib.hid he
      clear hr hq hlt
      go_wp2_with (go_at_call 74; refine (Tryz.cmp_Compare_int _ _ _).mono ?_; rintro e w1 ⟨rfl, rfl⟩; rw [he.out])
      go_ret
      exact ⟨rfl, hB⟩

end Go.Proofs.YtdapnemcdgjeeaaGreatDoor

namespace Go.Proofs.YtdapnemcdgjeeaaGreatDoor
open Go.RowKit

set_option maxHeartbeats 2000000 in
theorem vtexts_trim (a0 b0 : ByteArray) (c : Int) (w : World) (hc : c = 2) (ha0 : a0.size ≤ 1048576) (hb0 : b0.size ≤ 1048576) (r : Int) (hr : Hid (Lib.compareBytes ((Lib.trimRightB a0.data.toList 32).map kept) ((Lib.trimRightB b0.data.toList 32).map kept) = r)) :
    Calls Tryz.prog 90 #[.string a0, .string b0, .int .i64 c] w fun e w' => e = .returned (.int .i64 r) ∧ Below w.heap.size w w' := by
  have c1 : (c == 1) = false := by simp; omega
  have c2 : (c == 2) = true := by simp; omega
  clear hc
  obtain ⟨a, ea⟩ : ∃ a : ByteArray, ⟨(Lib.trimRightB a0.data.toList 32).toArray⟩ = a := ⟨_, rfl⟩
  obtain ⟨b, eb⟩ : ∃ b : ByteArray, ⟨(Lib.trimRightB b0.data.toList 32).toArray⟩ = b := ⟨_, rfl⟩
  have la : a.data.toList = Lib.trimRightB a0.data.toList 32 := by rw [← ea]
  have lb : b.data.toList = Lib.trimRightB b0.data.toList 32 := by rw [← eb]
  rw [← la, ← lb] at hr
  have ha : a.size ≤ 1048576 := by have h1 := trimB_len a0.data.toList 32; rw [← la] at h1; have h2 : a.data.toList.length = a.size := rfl; have h3 : a0.data.toList.length = a0.size := rfl; omega
  have hb : b.size ≤ 1048576 := by have h1 := trimB_len b0.data.toList 32; rw [← lb] at h1; have h2 : b.data.toList.length = b.size := rfl; have h3 : b0.data.toList.length = b0.size := rfl; omega
  replace ea := Lib.hid ea
  replace eb := Lib.hid eb
  clear la lb
  go_enter Tryz.func90, Tryz.ntmps90
  go_wp2_with (go_at_call 116; refine (Tryz.strings_TrimRight_one _ 32 (by decide) _ (by omega)).mono ?_; rintro e w1 ⟨rfl, hww⟩; obtain rfl := hww.symm; first | rw [ea.out] | rw [eb.out])
  go_loopw [24] (fun i wr => ∃ k : Nat, i = .int .i64 (k : Int) ∧ k ≤ a.size ∧ k ≤ b.size ∧ Hid (Lib.compareBytes ((a.data.toList.drop k).map kept) ((b.data.toList.drop k).map kept) = r) ∧ Below w.heap.size w wr) (fun i _ => a.size - (intOf i).toNat)
  case atStart => exact ⟨0, by go_num, by omega, by omega, hr, Below.refl _ _⟩
  case round =>
    obtain ⟨k, rfl, hka, hkb, hq, hB⟩ := hrel
    by_cases hlt : k < a.size ∧ k < b.size
    · have hla := hlt.1
      have hlb := hlt.2
      have hlB : decide ((k : Int) < min (a.size : Int) (b.size : Int)) = true := by simp; omega
      have hst := cb_step kept a b k hla hlb
      rw [hq.out] at hst
      have ca := a[k].toNat_lt
      have cb := b[k].toNat_lt
      obtain ⟨d, hd⟩ : ∃ d, Lib.compareInt ((kept a[k]).toNat : Int) ((kept b[k]).toNat : Int) = d := ⟨_, rfl⟩
      rw [hd] at hst
      by_cases hd0 : d = 0
      · rw [if_neg (by simp [hd0])] at hst
        subst hd0
        replace hst := Lib.hid hst
        replace hd := Lib.hid hd
        clear hlt hr hq
        go_wp2_with fail
        go_region_held3 (fun _ => True) (trivial) (first
          | (go_at_call 114; refine (vsame_any _ _).mono ?_; rintro e w1 ⟨rfl, rfl⟩)
          | (go_at_call 117; refine (compare_u8 _ _ _).mono ?_; rintro e w1 ⟨rfl, rfl⟩; rw [hd.out]))
        all_goals (
          go_wp2
          go_roundw
          case rel => exact ⟨k + 1, by go_num, by omega, by omega, Lib.hid hst.out.symm, hB.drew⟩
          case measure => simp [intOf]; omega)
      · rw [if_pos hd0] at hst
        subst hst
        have hdB : (r != 0) = true := by simp; omega
        replace hd := Lib.hid hd
        clear hlt hr hq
        go_wp2_with fail
        go_region_held3 (fun _ => True) (trivial) (first
          | (go_at_call 114; refine (vsame_any _ _).mono ?_; rintro e w1 ⟨rfl, rfl⟩)
          | (go_at_call 117; refine (compare_u8 _ _ _).mono ?_; rintro e w1 ⟨rfl, rfl⟩; rw [hd.out]))
        all_goals (
          go_wp2
          go_ret
          exact ⟨rfl, hB.drew⟩)
    · have hlB : decide ((k : Int) < min (a.size : Int) (b.size : Int)) = false := by simp; omega
      have he := (cb_end kept a b k hlt hka hkb).symm.trans hq.out
      replace he := Lib.hid he
      clear hr hq hlt
      go_wp2_with (go_at_call 74; refine (Tryz.cmp_Compare_int _ _ _).mono ?_; rintro e w1 ⟨rfl, rfl⟩; rw [he.out])
      go_ret
      exact ⟨rfl, hB⟩

theorem rtrim_same (l : List UInt8) : Txt.rtrim l = Lib.trimRightB l 32 := by
  have : (fun c : UInt8 => decide (c.toNat = 32)) = (fun c => c == 32) := by
    funext c
    rw [Bool.eq_iff_iff]
    simp [← UInt8.toNat_inj]
  unfold Txt.rtrim Lib.trimRightB
  rw [this]
/-- texts, under any collation -/
theorem vtexts_any (a b : ByteArray) (c : Int) (w : World) (ha : a.size ≤ 1048576) (hb : b.size ≤ 1048576) :
    Calls Tryz.prog 90 #[.string a, .string b, .int .i64 c] w fun e w' => e = .returned (.int .i64 (Val.texts a.data.toList b.data.toList c)) ∧ Below w.heap.size w w' := by
  by_cases h1 : c = 1
  · refine vtexts_low a b c w h1 ha hb _ (Lib.hid ?_)
    subst h1
    simp [Val.texts, Txt.fold]
  · by_cases h2 : c = 2
    · refine vtexts_trim a b c w h2 ha hb _ (Lib.hid ?_)
      subst h2
      simp [Val.texts, Txt.fold, rtrim_same, kept_map]
    · refine vtexts_plain a b c w ⟨h1, h2⟩ ha hb _ (Lib.hid ?_)
      simp [Val.texts, Txt.fold, h1, h2, kept_map]

end Go.Proofs.YtdapnemcdgjeeaaGreatDoor

namespace Go.Proofs.YtdapnemcdgjeeaaGreatDoor
open Go.RowKit

theorem or_any (b : Nat) (x y : Int) (c : Nat) (w : World) (h0 : w.cell? ⟨b, 0, none⟩ = some (.int .i64 x)) (h1 : w.cell? ⟨b, 1, none⟩ = some (.int .i64 y)) :
    Calls Tryz.prog 73 #[.slice (some ⟨b, 0, none⟩) 2 c] w fun e w' => e = .returned (.int .i64 (if x ≠ 0 then x else y)) ∧ w = w' := by
  obtain ⟨r, hr⟩ : ∃ r, (if x ≠ 0 then x else y) = r := ⟨_, rfl⟩
  rw [hr]
  replace hr := Lib.hid hr
  go_enter Tryz.func73, Tryz.ntmps73
  go_wp2
  go_loop [8] (fun i => (i = .int .i64 0) ∨ (i = .int .i64 1 ∧ Hid (x = 0)) ∨ (i = .int .i64 2 ∧ Hid (x = 0) ∧ Hid (y = 0))) (fun i => 2 - (intOf i).toNat)
  case atStart => exact .inl (by go_num)
  case round =>
    rcases hrel with rfl | ⟨rfl, hx⟩ | ⟨rfl, hx, hy⟩
    · by_cases hx : x = 0
      · subst hx
        go_wp2
        go_round
        case rel => exact .inr (.inl ⟨by go_num, by first | exact Lib.hid rfl | exact Lib.hid trivial⟩)
        case measure => simp [intOf]
      · have hB : (x != 0) = true := by simp; omega
        have : x = r := by rw [← hr.out, if_pos hx]
        replace this := Lib.hid this
        clear hx
        go_wp2
        go_ret
        exact ⟨by rw [this.out]; rfl, rfl⟩
    · by_cases hy : y = 0
      · subst hy
        go_wp2
        go_round
        case rel => exact .inr (.inr ⟨by go_num, hx, by first | exact Lib.hid rfl | exact Lib.hid trivial⟩)
        case measure => simp [intOf]
      · have hB : (y != 0) = true := by simp; omega
        have : y = r := by rw [← hr.out, if_neg (by rw [hx.out]; simp)]
        replace this := Lib.hid this
        clear hy
        go_wp2
        go_ret
        exact ⟨by rw [this.out]; rfl, rfl⟩
    · have : 0 = r := by rw [← hr.out, if_neg (by rw [hx.out]; simp), hy.out]
      replace this := Lib.hid this
      go_wp2
      go_ret
      exact ⟨by rw [← this.out]; rfl, rfl⟩

theorem cmp_kinds {a b : Val.V} {c : Int} (ha : Val.may a = true) (hb : Val.may b = true) (hk : a.kind ≠ b.kind) : Val.cmp a b c = Lib.compareInt a.kind b.kind := by
  rw [Val.cmp, if_pos ⟨ha, hb⟩, if_pos hk]
theorem cmp_text {a b : Val.V} {c : Int} (ha : Val.may a = true) (hb : Val.may b = true) (hk : a.kind = b.kind) (h2 : a.kind = 2) : Val.cmp a b c = Val.texts a.text b.text c := by
  rw [Val.cmp, if_pos ⟨ha, hb⟩, if_neg (by simp [hk]), if_pos h2]
theorem cmp_else {a b : Val.V} {c : Int} (ha : Val.may a = true) (hb : Val.may b = true) (hk : a.kind = b.kind) (h2 : a.kind ≠ 2) : Val.cmp a b c = if Lib.compareInt a.int b.int ≠ 0 then Lib.compareInt a.int b.int else Lib.compareBytes a.text b.text := by
  rw [Val.cmp, if_pos ⟨ha, hb⟩, if_neg (by simp [hk]), if_neg h2]
  unfold Lib.compareInt
  by_cases hi : a.int = b.int
  · rw [if_neg (by simp [hi]), if_neg (by simp [hi])]
  · rw [if_pos hi]
    split
    · simp
    · split
      · simp
      · omega
theorem cmp_not {a b : Val.V} {c : Int} (h : ¬ (Val.may a = true ∧ Val.may b = true)) : Val.cmp a b c = 0 := by
  rw [Val.cmp, if_neg h]

/-- what a compare of two values owes -/
def CmpP (r : Int) (w : World) (e : Ending) (w' : World) : Prop := e = .returned (.int .i64 r) ∧ Below w.heap.size w w'

theorem heap_two (w : World) (A B : Obj) : ((w.alloc A).alloc B).heap[w.heap.size]? = some A ∧ ((w.alloc A).alloc B).heap[w.heap.size + 1]? = some B := by
  refine ⟨?_, ?_⟩
  · have h1 := (((Below.refl (w.alloc A).heap.size (w.alloc A)).alloc (Nat.le_refl _) B).block w.heap.size (by simp))
    exact h1.trans (heap_new _ _)
  · have h2 := heap_new (w.alloc A) B
    simpa using h2
theorem two_lt (w : World) (A B : Obj) : w.heap.size < ((w.alloc A).alloc B).heap.size ∧ w.heap.size + 1 < ((w.alloc A).alloc B).heap.size := by simp; omega
theorem two_below (w : World) (A B : Obj) {w1 : World} (h : Below ((w.alloc A).alloc B).heap.size ((w.alloc A).alloc B) w1) : Below w.heap.size w w1 :=
  (((Below.refl _ w).alloc (Nat.le_refl _) A).alloc (by simp) B).trans (h.mono (by simp; omega))

theorem rtexts_any (a b : ByteArray) (w : World) :
    Calls Tryz.prog 86 #[.string a, .string b] w fun e w' => e = .returned (.int .i64 (Lib.compareBytes a.data.toList b.data.toList)) ∧ w = w' := by
  have l1 := Val.less_cb a.data.toList b.data.toList
  have z1 := Val.cb_zero a.data.toList b.data.toList
  rcases Val.cb_range a.data.toList b.data.toList with h | h | h
  · rw [h] at l1 ⊢
    have b1 : Op.bytesLess a.toList b.toList = true := by rw [Lib.toList_data, Lib.toList_data, l1]; decide
    clear l1 z1
    go_enter Tryz.func86, Tryz.ntmps86
    go_wp2
    go_ret
    exact ⟨rfl, rfl⟩
  · have e1 := z1.1 h
    rw [h] at l1 ⊢
    have b1 : Op.bytesLess a.toList b.toList = false := by rw [Lib.toList_data, Lib.toList_data, l1]; decide
    have b2 : (a.toList == b.toList) = true := by rw [Lib.toList_data, Lib.toList_data, e1]; simp
    clear l1 z1 e1
    go_enter Tryz.func86, Tryz.ntmps86
    go_wp2
    go_ret
    exact ⟨rfl, rfl⟩
  · have e1 : a.data.toList ≠ b.data.toList := fun he => by rw [z1.2 he] at h; simp at h
    rw [h] at l1 ⊢
    have b1 : Op.bytesLess a.toList b.toList = false := by rw [Lib.toList_data, Lib.toList_data, l1]; decide
    have b2 : (a.toList == b.toList) = false := by rw [Lib.toList_data, Lib.toList_data]; exact beq_false_of_ne e1
    clear l1 z1 e1
    go_enter Tryz.func86, Tryz.ntmps86
    go_wp2
    go_ret
    exact ⟨rfl, rfl⟩

theorem rrank_any (k : Int) (w : World) (h0 : 0 ≤ k) (h1 : k ≤ 3) :
    Calls Tryz.prog 85 #[.int .i64 k] w fun e w' => e = .returned (.int .i64 k) ∧ w = w' := by
  have : k = 0 ∨ k = 1 ∨ k = 2 ∨ k = 3 := by omega
  rcases this with rfl | rfl | rfl | rfl
  all_goals (
    go_enter Tryz.func85, Tryz.ntmps85
    go_wp2
    go_ret
    exact ⟨rfl, rfl⟩)

end Go.Proofs.YtdapnemcdgjeeaaGreatDoor

