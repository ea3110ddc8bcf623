/- Walks: the digits ahead of a text. Walks: a value as a number, as a text, whether it is true: of package calc. Walks: Num, Show, Truth of package calc. Walks: Show, Truth of package calc. -/
import Derived.Test.YtmkgalcojoeniaaGreatDoorCalcW1
import Derived.Test.YtmkgalcojoeniaaGreatDoorPlain
import Derived.Test.YtmkgalcojoeniaaGreatDoorNumW
import Derived.Shelf.Strings.SlTrimAscii
set_option maxRecDepth 100000
set_option linter.unusedVariables false
set_option linter.unusedSimpArgs false
namespace Go.Proofs.YtmkgalcojoeniaaGreatDoor
open Go.RowKit

theorem sgn_empty (s : ByteArray) (h : s.size = 0) : Val.sgn s.data.toList = 0 := by
  have : s.data.toList = [] := List.eq_nil_of_length_eq_zero h
  rw [this]; rfl
theorem sgn_byte (s : ByteArray) (h : 0 < s.size) : Val.sgn s.data.toList = if (s[0]).toNat = 43 ∨ (s[0]).toNat = 45 then 1 else 0 := by
  have hd := dropc s 0 h
  rw [List.drop_zero] at hd
  rw [hd]; rfl
/-- how far the digits go: a step, and the end -/
theorem digs_step (s : ByteArray) (g k : Nat) (hg : g ≤ k) (hk : k < s.size) (hc : 48 ≤ (s[k]).toNat ∧ (s[k]).toNat ≤ 57) (h : ∀ c ∈ (s.data.toList.drop g).take (k - g), Val.isDigit c = true) : ∀ c ∈ (s.data.toList.drop g).take (k + 1 - g), Val.isDigit c = true := by
  have hl : s.data.toList.length = s.size := rfl
  have e : k + 1 - g = (k - g) + 1 := by omega
  have hi : k - g < (s.data.toList.drop g).length := by rw [List.length_drop]; omega
  rw [e, List.take_succ_eq_append_getElem hi]
  intro c hm
  rcases List.mem_append.1 hm with hm | hm
  · exact h c hm
  · rw [List.mem_singleton.1 hm, List.getElem_drop]
    have e2 : g + (k - g) = k := by omega
    simp only [e2]
    have e3 : s.data.toList[k]'(by omega) = s[k] := rfl
    rw [e3]
    simp only [Val.isDigit, decide_eq_true_eq]; exact hc
theorem lead_at (s : ByteArray) (g k : Nat) (hs : Val.sgn s.data.toList = g) (hg : g ≤ k) (hk : k ≤ s.size) (h : ∀ c ∈ (s.data.toList.drop g).take (k - g), Val.isDigit c = true) (he : ∀ hk : k < s.size, ¬ (48 ≤ (s[k]).toNat ∧ (s[k]).toNat ≤ 57)) : Val.lead s.data.toList = if k = g then 0 else k := by
  have hl : s.data.toList.length = s.size := rfl
  have hN : Val.leadN s.data.toList = k := by
    refine Val.leadN_is (by omega) (by omega) (by rw [hs]; exact h) ?_
    intro c hc
    by_cases hkl : k < s.size
    · have e3 : s.data.toList[k]? = some s[k] := by rw [List.getElem?_eq_getElem (show k < s.data.toList.length by omega)]; rfl
      rw [e3] at hc
      cases hc
      have := he hkl
      simp [Val.isDigit]; omega
    · rw [List.getElem?_eq_none (by omega)] at hc; cases hc
  rw [Val.lead, hN, hs]

theorem rdig_any (c : UInt8) (w : World) (b : Bool) (h : Hid (Val.isDigit c = b)) :
    Calls Tryz.prog 157 #[.int .u8 (c.toNat : Int)] w fun e w' => e = .returned (.bool b) ∧ w = w' := by
  have h' := h.out
  rw [Val.isDigit] at h'
  subst h'
  go_enter Tryz.func157, Tryz.ntmps157
  go_wp2
  all_goals (
    go_ret
    refine ⟨ret_bool ?_, rfl⟩
    rw [Bool.eq_iff_iff]
    simp
    try omega)
theorem rblank_any (c : UInt8) (w : World) (b : Bool) (h : Hid (Val.isBlank c = b)) :
    Calls Tryz.prog 120 #[.int .u8 (c.toNat : Int)] w fun e w' => e = .returned (.bool b) ∧ w = w' := by
  have h' := h.out
  have e : Val.isBlank c = decide (c.toNat = 32 ∨ c.toNat = 9 ∨ c.toNat = 10 ∨ c.toNat = 13) := by
    rw [Bool.eq_iff_iff]
    simp [Val.isBlank, ← UInt8.toNat_inj]
  rw [e] at h'
  subst h'
  go_enter Tryz.func120, Tryz.ntmps120
  go_wp2
  all_goals (
    go_ret
    refine ⟨ret_bool ?_, rfl⟩
    rw [Bool.eq_iff_iff]
    simp
    try omega)

set_option maxHeartbeats 1000000 in
theorem cdigits_A (s : ByteArray) (w : World) (hs : s.size ≤ 1048576) (h0 : s.size = 0) (n : Nat) (hn : Hid (Val.lead s.data.toList = n)) :
    Calls Tryz.prog 160 #[.string s] w fun e w' => e = .returned (.int .i64 (n : Int)) ∧ w = w' := by
  have hg : Val.sgn s.data.toList = 0 := sgn_empty s h0
  have b0 : decide ((0 : Int) < (s.size : Int)) = false := decide_eq_false (by omega)
  have b0' : decide ((s.size : Int) > 0) = false := decide_eq_false (by omega)
  replace hg := Lib.hid hg
  go_enter Tryz.func160, Tryz.ntmps160
  go_wp2
  go_loop [3] (fun i => ∃ k : Nat, i = .int .i64 (k : Int) ∧ 0 ≤ k ∧ k ≤ s.size ∧ Hid (∀ c ∈ (s.data.toList.drop 0).take (k - 0), Val.isDigit c = true)) (fun i => s.size - (intOf i).toNat)
  case atStart => exact ⟨0, by go_num, by omega, by omega, Lib.hid (by simp)⟩
  case round =>
    obtain ⟨k, rfl, hgk, hk, hq⟩ := hrel
    by_cases hlt : k < s.size
    · exact absurd hlt (by omega)
    · have hlB : decide ((k : Int) < (s.size : Int)) = false := decide_eq_false (by omega)
      have hL := (lead_at s 0 k hg.out hgk hk hq.out (fun h => absurd h hlt)).symm.trans hn.out
      clear hq hn
      by_cases hkg : k = 0
      · rw [if_pos hkg] at hL
        subst hL
        have e1 : ((k : Int) == 0) = true := by simp; omega
        clear hkg
        go_wp2
        go_ret
        exact ⟨rfl, rfl⟩
      · exact absurd (show k = 0 by omega) hkg
set_option maxHeartbeats 1000000 in
theorem cdigits_C (s : ByteArray) (w : World) (hs : s.size ≤ 1048576) (h0 : 0 < s.size) (h1 : (s[0]).toNat ≠ 43) (h2 : (s[0]).toNat ≠ 45) (n : Nat) (hn : Hid (Val.lead s.data.toList = n)) :
    Calls Tryz.prog 160 #[.string s] w fun e w' => e = .returned (.int .i64 (n : Int)) ∧ w = w' := by
  have hg : Val.sgn s.data.toList = 0 := by rw [sgn_byte s h0, if_neg (by omega)]
  have b0 : decide ((0 : Int) < (s.size : Int)) = true := decide_eq_true (by omega)
  have b0' : decide ((s.size : Int) > 0) = true := decide_eq_true (by omega)
  have b1 : (((s[0]).toNat : Int) == 43) = false := by simp; omega
  have b2 : (((s[0]).toNat : Int) == 45) = false := by simp; omega
  clear h1 h2
  replace hg := Lib.hid hg
  go_enter Tryz.func160, Tryz.ntmps160
  go_wp2
  go_loop [3] (fun i => ∃ k : Nat, i = .int .i64 (k : Int) ∧ 0 ≤ k ∧ k ≤ s.size ∧ Hid (∀ c ∈ (s.data.toList.drop 0).take (k - 0), Val.isDigit c = true)) (fun i => s.size - (intOf i).toNat)
  case atStart => exact ⟨0, by go_num, by omega, by omega, Lib.hid (by simp)⟩
  case round =>
    obtain ⟨k, rfl, hgk, hk, hq⟩ := hrel
    by_cases hlt : k < s.size
    · have hlB : decide ((k : Int) < (s.size : Int)) = true := decide_eq_true (by omega)
      have c8 := (s[k]).toNat_lt
      by_cases hc : 48 ≤ (s[k]).toNat ∧ (s[k]).toNat ≤ 57
      · have hst := digs_step s 0 k hgk hlt hc hq.out
        replace hst := Lib.hid hst
        clear hq
        have d1 : decide (((s[k]).toNat : Int) ≥ 48) = true := decide_eq_true (by omega)
        have d2 : decide (((s[k]).toNat : Int) ≤ 57) = true := decide_eq_true (by omega)
        clear hc
        go_wp2
        go_round
        case rel => exact ⟨k + 1, by go_num, by omega, by omega, hst⟩
        case measure => simp [intOf]; omega
      · have hL := (lead_at s 0 k hg.out hgk hk hq.out (fun _ => hc)).symm.trans hn.out
        clear hq hn
        by_cases hlo : (s[k]).toNat < 48
        · have d1 : decide (((s[k]).toNat : Int) ≥ 48) = false := decide_eq_false (by omega)
          clear hc hlo
          by_cases hkg : k = 0
          · rw [if_pos hkg] at hL
            subst hL
            have e1 : ((k : Int) == 0) = true := by simp; omega
            clear hkg
            go_wp2
            go_ret
            exact ⟨rfl, rfl⟩
          · rw [if_neg hkg] at hL
            subst hL
            have e1 : ((k : Int) == 0) = false := by simp; omega
            go_wp2
            go_ret
            exact ⟨rfl, rfl⟩
        · have d1 : decide (((s[k]).toNat : Int) ≥ 48) = true := decide_eq_true (by omega)
          have d2 : decide (((s[k]).toNat : Int) ≤ 57) = false := decide_eq_false (by omega)
          clear hc hlo
          by_cases hkg : k = 0
          · rw [if_pos hkg] at hL
            subst hL
            have e1 : ((k : Int) == 0) = true := by simp; omega
            clear hkg
            go_wp2
            go_ret
            exact ⟨rfl, rfl⟩
          · rw [if_neg hkg] at hL
            subst hL
            have e1 : ((k : Int) == 0) = false := by simp; omega
            go_wp2
            go_ret
            exact ⟨rfl, rfl⟩
    · have hlB : decide ((k : Int) < (s.size : Int)) = false := decide_eq_false (by omega)
      have hL := (lead_at s 0 k hg.out hgk hk hq.out (fun h => absurd h hlt)).symm.trans hn.out
      clear hq hn
      by_cases hkg : k = 0
      · rw [if_pos hkg] at hL
        subst hL
        have e1 : ((k : Int) == 0) = true := by simp; omega
        clear hkg
        go_wp2
        go_ret
        exact ⟨rfl, rfl⟩
      · rw [if_neg hkg] at hL
        subst hL
        have e1 : ((k : Int) == 0) = false := by simp; omega
        go_wp2
        go_ret
        exact ⟨rfl, rfl⟩
set_option maxHeartbeats 1000000 in
theorem cdigits_B (s : ByteArray) (w : World) (hs : s.size ≤ 1048576) (h0 : 0 < s.size) (h1 : (s[0]).toNat = 43) (n : Nat) (hn : Hid (Val.lead s.data.toList = n)) :
    Calls Tryz.prog 160 #[.string s] w fun e w' => e = .returned (.int .i64 (n : Int)) ∧ w = w' := by
  have hg : Val.sgn s.data.toList = 1 := by rw [sgn_byte s h0, if_pos (by omega)]
  have b0 : decide ((0 : Int) < (s.size : Int)) = true := decide_eq_true (by omega)
  have b0' : decide ((s.size : Int) > 0) = true := decide_eq_true (by omega)
  have b1 : (((s[0]).toNat : Int) == 43) = true := by simp; omega
  clear h1
  replace hg := Lib.hid hg
  go_enter Tryz.func160, Tryz.ntmps160
  go_wp2
  go_loop [3] (fun i => ∃ k : Nat, i = .int .i64 (k : Int) ∧ 1 ≤ k ∧ k ≤ s.size ∧ Hid (∀ c ∈ (s.data.toList.drop 1).take (k - 1), Val.isDigit c = true)) (fun i => s.size - (intOf i).toNat)
  case atStart => exact ⟨1, by go_num, by omega, by omega, Lib.hid (by simp)⟩
  case round =>
    obtain ⟨k, rfl, hgk, hk, hq⟩ := hrel
    by_cases hlt : k < s.size
    · have hlB : decide ((k : Int) < (s.size : Int)) = true := decide_eq_true (by omega)
      have c8 := (s[k]).toNat_lt
      by_cases hc : 48 ≤ (s[k]).toNat ∧ (s[k]).toNat ≤ 57
      · have hst := digs_step s 1 k hgk hlt hc hq.out
        replace hst := Lib.hid hst
        clear hq
        have d1 : decide (((s[k]).toNat : Int) ≥ 48) = true := decide_eq_true (by omega)
        have d2 : decide (((s[k]).toNat : Int) ≤ 57) = true := decide_eq_true (by omega)
        clear hc
        go_wp2
        go_round
        case rel => exact ⟨k + 1, by go_num, by omega, by omega, hst⟩
        case measure => simp [intOf]; omega
      · have hL := (lead_at s 1 k hg.out hgk hk hq.out (fun _ => hc)).symm.trans hn.out
        clear hq hn
        by_cases hlo : (s[k]).toNat < 48
        · have d1 : decide (((s[k]).toNat : Int) ≥ 48) = false := decide_eq_false (by omega)
          clear hc hlo
          by_cases hkg : k = 1
          · rw [if_pos hkg] at hL
            subst hL
            have e1 : ((k : Int) == 1) = true := by simp; omega
            clear hkg
            go_wp2
            go_ret
            exact ⟨rfl, rfl⟩
          · rw [if_neg hkg] at hL
            subst hL
            have e1 : ((k : Int) == 1) = false := by simp; omega
            go_wp2
            go_ret
            exact ⟨rfl, rfl⟩
        · have d1 : decide (((s[k]).toNat : Int) ≥ 48) = true := decide_eq_true (by omega)
          have d2 : decide (((s[k]).toNat : Int) ≤ 57) = false := decide_eq_false (by omega)
          clear hc hlo
          by_cases hkg : k = 1
          · rw [if_pos hkg] at hL
            subst hL
            have e1 : ((k : Int) == 1) = true := by simp; omega
            clear hkg
            go_wp2
            go_ret
            exact ⟨rfl, rfl⟩
          · rw [if_neg hkg] at hL
            subst hL
            have e1 : ((k : Int) == 1) = false := by simp; omega
            go_wp2
            go_ret
            exact ⟨rfl, rfl⟩
    · have hlB : decide ((k : Int) < (s.size : Int)) = false := decide_eq_false (by omega)
      have hL := (lead_at s 1 k hg.out hgk hk hq.out (fun h => absurd h hlt)).symm.trans hn.out
      clear hq hn
      by_cases hkg : k = 1
      · rw [if_pos hkg] at hL
        subst hL
        have e1 : ((k : Int) == 1) = true := by simp; omega
        clear hkg
        go_wp2
        go_ret
        exact ⟨rfl, rfl⟩
      · rw [if_neg hkg] at hL
        subst hL
        have e1 : ((k : Int) == 1) = false := by simp; omega
        go_wp2
        go_ret
        exact ⟨rfl, rfl⟩
set_option maxHeartbeats 1000000 in
theorem cdigits_D (s : ByteArray) (w : World) (hs : s.size ≤ 1048576) (h0 : 0 < s.size) (h1 : (s[0]).toNat = 45) (n : Nat) (hn : Hid (Val.lead s.data.toList = n)) :
    Calls Tryz.prog 160 #[.string s] w fun e w' => e = .returned (.int .i64 (n : Int)) ∧ w = w' := by
  have hg : Val.sgn s.data.toList = 1 := by rw [sgn_byte s h0, if_pos (by omega)]
  have b0 : decide ((0 : Int) < (s.size : Int)) = true := decide_eq_true (by omega)
  have b0' : decide ((s.size : Int) > 0) = true := decide_eq_true (by omega)
  have b1 : (((s[0]).toNat : Int) == 43) = false := by simp; omega
  have b2 : (((s[0]).toNat : Int) == 45) = true := by simp; omega
  clear h1
  replace hg := Lib.hid hg
  go_enter Tryz.func160, Tryz.ntmps160
  go_wp2
  go_loop [3] (fun i => ∃ k : Nat, i = .int .i64 (k : Int) ∧ 1 ≤ k ∧ k ≤ s.size ∧ Hid (∀ c ∈ (s.data.toList.drop 1).take (k - 1), Val.isDigit c = true)) (fun i => s.size - (intOf i).toNat)
  case atStart => exact ⟨1, by go_num, by omega, by omega, Lib.hid (by simp)⟩
  case round =>
    obtain ⟨k, rfl, hgk, hk, hq⟩ := hrel
    by_cases hlt : k < s.size
    · have hlB : decide ((k : Int) < (s.size : Int)) = true := decide_eq_true (by omega)
      have c8 := (s[k]).toNat_lt
      by_cases hc : 48 ≤ (s[k]).toNat ∧ (s[k]).toNat ≤ 57
      · have hst := digs_step s 1 k hgk hlt hc hq.out
        replace hst := Lib.hid hst
        clear hq
        have d1 : decide (((s[k]).toNat : Int) ≥ 48) = true := decide_eq_true (by omega)
        have d2 : decide (((s[k]).toNat : Int) ≤ 57) = true := decide_eq_true (by omega)
        clear hc
        go_wp2
        go_round
        case rel => exact ⟨k + 1, by go_num, by omega, by omega, hst⟩
        case measure => simp [intOf]; omega
      · have hL := (lead_at s 1 k hg.out hgk hk hq.out (fun _ => hc)).symm.trans hn.out
        clear hq hn
        by_cases hlo : (s[k]).toNat < 48
        · have d1 : decide (((s[k]).toNat : Int) ≥ 48) = false := decide_eq_false (by omega)
          clear hc hlo
          by_cases hkg : k = 1
          · rw [if_pos hkg] at hL
            subst hL
            have e1 : ((k : Int) == 1) = true := by simp; omega
            clear hkg
            go_wp2
            go_ret
            exact ⟨rfl, rfl⟩
          · rw [if_neg hkg] at hL
            subst hL
            have e1 : ((k : Int) == 1) = false := by simp; omega
            go_wp2
            go_ret
            exact ⟨rfl, rfl⟩
        · have d1 : decide (((s[k]).toNat : Int) ≥ 48) = true := decide_eq_true (by omega)
          have d2 : decide (((s[k]).toNat : Int) ≤ 57) = false := decide_eq_false (by omega)
          clear hc hlo
          by_cases hkg : k = 1
          · rw [if_pos hkg] at hL
            subst hL
            have e1 : ((k : Int) == 1) = true := by simp; omega
            clear hkg
            go_wp2
            go_ret
            exact ⟨rfl, rfl⟩
          · rw [if_neg hkg] at hL
            subst hL
            have e1 : ((k : Int) == 1) = false := by simp; omega
            go_wp2
            go_ret
            exact ⟨rfl, rfl⟩
    · have hlB : decide ((k : Int) < (s.size : Int)) = false := decide_eq_false (by omega)
      have hL := (lead_at s 1 k hg.out hgk hk hq.out (fun h => absurd h hlt)).symm.trans hn.out
      clear hq hn
      by_cases hkg : k = 1
      · rw [if_pos hkg] at hL
        subst hL
        have e1 : ((k : Int) == 1) = true := by simp; omega
        clear hkg
        go_wp2
        go_ret
        exact ⟨rfl, rfl⟩
      · rw [if_neg hkg] at hL
        subst hL
        have e1 : ((k : Int) == 1) = false := by simp; omega
        go_wp2
        go_ret
        exact ⟨rfl, rfl⟩
theorem cdigits_is (s : ByteArray) (w : World) (hs : s.size ≤ 1048576) (n : Nat) (hn : Hid (Val.lead s.data.toList = n)) :
    Calls Tryz.prog 160 #[.string s] w fun e w' => e = .returned (.int .i64 (n : Int)) ∧ w = w' := by
  by_cases h0 : s.size = 0
  · exact cdigits_A s w hs h0 n hn
  · have h0' : 0 < s.size := by omega
    by_cases h1 : (s[0]).toNat = 43
    · exact cdigits_B s w hs h0' h1 n hn
    · by_cases h2 : (s[0]).toNat = 45
      · exact cdigits_D s w hs h0' h2 n hn
      · exact cdigits_C s w hs h0' h1 h2 n hn

set_option maxHeartbeats 1000000 in
theorem rlead_A (s : ByteArray) (w : World) (hs : s.size ≤ 1048576) (h0 : s.size = 0) (n : Nat) (hn : Hid (Val.lead s.data.toList = n)) :
    Calls Tryz.prog 121 #[.string s] w fun e w' => e = .returned (.int .i64 (n : Int)) ∧ w = w' := by
  have hg : Val.sgn s.data.toList = 0 := sgn_empty s h0
  have b0 : decide ((0 : Int) < (s.size : Int)) = false := decide_eq_false (by omega)
  have b0' : decide ((s.size : Int) > 0) = false := decide_eq_false (by omega)
  replace hg := Lib.hid hg
  go_enter Tryz.func121, Tryz.ntmps121
  go_wp2
  go_loop [4] (fun i => ∃ k : Nat, i = .int .i64 (k : Int) ∧ 0 ≤ k ∧ k ≤ s.size ∧ Hid (∀ c ∈ (s.data.toList.drop 0).take (k - 0), Val.isDigit c = true)) (fun i => s.size - (intOf i).toNat)
  case atStart => exact ⟨0, by go_num, by omega, by omega, Lib.hid (by simp)⟩
  case round =>
    obtain ⟨k, rfl, hgk, hk, hq⟩ := hrel
    by_cases hlt : k < s.size
    · exact absurd hlt (by omega)
    · have hlB : decide ((k : Int) < (s.size : Int)) = false := decide_eq_false (by omega)
      have hL := (lead_at s 0 k hg.out hgk hk hq.out (fun h => absurd h hlt)).symm.trans hn.out
      clear hq hn
      by_cases hkg : k = 0
      · rw [if_pos hkg] at hL
        subst hL
        have e1 : ((k : Int) == 0) = true := by simp; omega
        clear hkg
        go_wp2
        go_ret
        exact ⟨rfl, rfl⟩
      · exact absurd (show k = 0 by omega) hkg
set_option maxHeartbeats 1000000 in
theorem rlead_C (s : ByteArray) (w : World) (hs : s.size ≤ 1048576) (h0 : 0 < s.size) (h1 : (s[0]).toNat ≠ 43) (h2 : (s[0]).toNat ≠ 45) (n : Nat) (hn : Hid (Val.lead s.data.toList = n)) :
    Calls Tryz.prog 121 #[.string s] w fun e w' => e = .returned (.int .i64 (n : Int)) ∧ w = w' := by
  have hg : Val.sgn s.data.toList = 0 := by rw [sgn_byte s h0, if_neg (by omega)]
  have b0 : decide ((0 : Int) < (s.size : Int)) = true := decide_eq_true (by omega)
  have b0' : decide ((s.size : Int) > 0) = true := decide_eq_true (by omega)
  have b1 : (((s[0]).toNat : Int) == 43) = false := by simp; omega
  have b2 : (((s[0]).toNat : Int) == 45) = false := by simp; omega
  clear h1 h2
  replace hg := Lib.hid hg
  go_enter Tryz.func121, Tryz.ntmps121
  go_wp2
  go_loop [4] (fun i => ∃ k : Nat, i = .int .i64 (k : Int) ∧ 0 ≤ k ∧ k ≤ s.size ∧ Hid (∀ c ∈ (s.data.toList.drop 0).take (k - 0), Val.isDigit c = true)) (fun i => s.size - (intOf i).toNat)
  case atStart => exact ⟨0, by go_num, by omega, by omega, Lib.hid (by simp)⟩
  case round =>
    obtain ⟨k, rfl, hgk, hk, hq⟩ := hrel
    by_cases hlt : k < s.size
    · have hlB : decide ((k : Int) < (s.size : Int)) = true := decide_eq_true (by omega)
      have c8 := (s[k]).toNat_lt
      by_cases hc : 48 ≤ (s[k]).toNat ∧ (s[k]).toNat ≤ 57
      · have hst := digs_step s 0 k hgk hlt hc hq.out
        replace hst := Lib.hid hst
        clear hq
        have hd : Hid (Val.isDigit s[k] = true) := Lib.hid (by simp [Val.isDigit]; omega)
        clear hc
        go_wp2_with (go_at_call 157; refine (rdig_any _ _ _ hd).mono ?_; rintro e w1 ⟨rfl, rfl⟩)
        go_round
        case rel => exact ⟨k + 1, by go_num, by omega, by omega, hst⟩
        case measure => simp [intOf]; omega
      · have hL := (lead_at s 0 k hg.out hgk hk hq.out (fun _ => hc)).symm.trans hn.out
        clear hq hn
        have hd : Hid (Val.isDigit s[k] = false) := Lib.hid (by simp [Val.isDigit]; omega)
        clear hc
        by_cases hkg : k = 0
        · rw [if_pos hkg] at hL
          subst hL
          have e1 : ((k : Int) == 0) = true := by simp; omega
          clear hkg
          go_wp2_with (go_at_call 157; refine (rdig_any _ _ _ hd).mono ?_; rintro e w1 ⟨rfl, rfl⟩)
          go_ret
          exact ⟨rfl, rfl⟩
        · rw [if_neg hkg] at hL
          subst hL
          have e1 : ((k : Int) == 0) = false := by simp; omega
          go_wp2_with (go_at_call 157; refine (rdig_any _ _ _ hd).mono ?_; rintro e w1 ⟨rfl, rfl⟩)
          go_ret
          exact ⟨rfl, rfl⟩
    · have hlB : decide ((k : Int) < (s.size : Int)) = false := decide_eq_false (by omega)
      have hL := (lead_at s 0 k hg.out hgk hk hq.out (fun h => absurd h hlt)).symm.trans hn.out
      clear hq hn
      by_cases hkg : k = 0
      · rw [if_pos hkg] at hL
        subst hL
        have e1 : ((k : Int) == 0) = true := by simp; omega
        clear hkg
        go_wp2
        go_ret
        exact ⟨rfl, rfl⟩
      · rw [if_neg hkg] at hL
        subst hL
        have e1 : ((k : Int) == 0) = false := by simp; omega
        go_wp2
        go_ret
        exact ⟨rfl, rfl⟩
set_option maxHeartbeats 1000000 in
theorem rlead_B (s : ByteArray) (w : World) (hs : s.size ≤ 1048576) (h0 : 0 < s.size) (h1 : (s[0]).toNat = 43) (n : Nat) (hn : Hid (Val.lead s.data.toList = n)) :
    Calls Tryz.prog 121 #[.string s] w fun e w' => e = .returned (.int .i64 (n : Int)) ∧ w = w' := by
  have hg : Val.sgn s.data.toList = 1 := by rw [sgn_byte s h0, if_pos (by omega)]
  have b0 : decide ((0 : Int) < (s.size : Int)) = true := decide_eq_true (by omega)
  have b0' : decide ((s.size : Int) > 0) = true := decide_eq_true (by omega)
  have b1 : (((s[0]).toNat : Int) == 43) = true := by simp; omega
  clear h1
  replace hg := Lib.hid hg
  go_enter Tryz.func121, Tryz.ntmps121
  go_wp2
  go_loop [4] (fun i => ∃ k : Nat, i = .int .i64 (k : Int) ∧ 1 ≤ k ∧ k ≤ s.size ∧ Hid (∀ c ∈ (s.data.toList.drop 1).take (k - 1), Val.isDigit c = true)) (fun i => s.size - (intOf i).toNat)
  case atStart => exact ⟨1, by go_num, by omega, by omega, Lib.hid (by simp)⟩
  case round =>
    obtain ⟨k, rfl, hgk, hk, hq⟩ := hrel
    by_cases hlt : k < s.size
    · have hlB : decide ((k : Int) < (s.size : Int)) = true := decide_eq_true (by omega)
      have c8 := (s[k]).toNat_lt
      by_cases hc : 48 ≤ (s[k]).toNat ∧ (s[k]).toNat ≤ 57
      · have hst := digs_step s 1 k hgk hlt hc hq.out
        replace hst := Lib.hid hst
        clear hq
        have hd : Hid (Val.isDigit s[k] = true) := Lib.hid (by simp [Val.isDigit]; omega)
        clear hc
        go_wp2_with (go_at_call 157; refine (rdig_any _ _ _ hd).mono ?_; rintro e w1 ⟨rfl, rfl⟩)
        go_round
        case rel => exact ⟨k + 1, by go_num, by omega, by omega, hst⟩
        case measure => simp [intOf]; omega
      · have hL := (lead_at s 1 k hg.out hgk hk hq.out (fun _ => hc)).symm.trans hn.out
        clear hq hn
        have hd : Hid (Val.isDigit s[k] = false) := Lib.hid (by simp [Val.isDigit]; omega)
        clear hc
        by_cases hkg : k = 1
        · rw [if_pos hkg] at hL
          subst hL
          have e1 : ((k : Int) == 1) = true := by simp; omega
          clear hkg
          go_wp2_with (go_at_call 157; refine (rdig_any _ _ _ hd).mono ?_; rintro e w1 ⟨rfl, rfl⟩)
          go_ret
          exact ⟨rfl, rfl⟩
        · rw [if_neg hkg] at hL
          subst hL
          have e1 : ((k : Int) == 1) = false := by simp; omega
          go_wp2_with (go_at_call 157; refine (rdig_any _ _ _ hd).mono ?_; rintro e w1 ⟨rfl, rfl⟩)
          go_ret
          exact ⟨rfl, rfl⟩
    · have hlB : decide ((k : Int) < (s.size : Int)) = false := decide_eq_false (by omega)
      have hL := (lead_at s 1 k hg.out hgk hk hq.out (fun h => absurd h hlt)).symm.trans hn.out
      clear hq hn
      by_cases hkg : k = 1
      · rw [if_pos hkg] at hL
        subst hL
        have e1 : ((k : Int) == 1) = true := by simp; omega
        clear hkg
        go_wp2
        go_ret
        exact ⟨rfl, rfl⟩
      · rw [if_neg hkg] at hL
        subst hL
        have e1 : ((k : Int) == 1) = false := by simp; omega
        go_wp2
        go_ret
        exact ⟨rfl, rfl⟩
set_option maxHeartbeats 1000000 in
theorem rlead_D (s : ByteArray) (w : World) (hs : s.size ≤ 1048576) (h0 : 0 < s.size) (h1 : (s[0]).toNat = 45) (n : Nat) (hn : Hid (Val.lead s.data.toList = n)) :
    Calls Tryz.prog 121 #[.string s] w fun e w' => e = .returned (.int .i64 (n : Int)) ∧ w = w' := by
  have hg : Val.sgn s.data.toList = 1 := by rw [sgn_byte s h0, if_pos (by omega)]
  have b0 : decide ((0 : Int) < (s.size : Int)) = true := decide_eq_true (by omega)
  have b0' : decide ((s.size : Int) > 0) = true := decide_eq_true (by omega)
  have b1 : (((s[0]).toNat : Int) == 43) = false := by simp; omega
  have b2 : (((s[0]).toNat : Int) == 45) = true := by simp; omega
  clear h1
  replace hg := Lib.hid hg
  go_enter Tryz.func121, Tryz.ntmps121
  go_wp2
  go_loop [4] (fun i => ∃ k : Nat, i = .int .i64 (k : Int) ∧ 1 ≤ k ∧ k ≤ s.size ∧ Hid (∀ c ∈ (s.data.toList.drop 1).take (k - 1), Val.isDigit c = true)) (fun i => s.size - (intOf i).toNat)
  case atStart => exact ⟨1, by go_num, by omega, by omega, Lib.hid (by simp)⟩
  case round =>
    obtain ⟨k, rfl, hgk, hk, hq⟩ := hrel
    by_cases hlt : k < s.size
    · have hlB : decide ((k : Int) < (s.size : Int)) = true := decide_eq_true (by omega)
      have c8 := (s[k]).toNat_lt
      by_cases hc : 48 ≤ (s[k]).toNat ∧ (s[k]).toNat ≤ 57
      · have hst := digs_step s 1 k hgk hlt hc hq.out
        replace hst := Lib.hid hst
        clear hq
        have hd : Hid (Val.isDigit s[k] = true) := Lib.hid (by simp [Val.isDigit]; omega)
        clear hc
        go_wp2_with (go_at_call 157; refine (rdig_any _ _ _ hd).mono ?_; rintro e w1 ⟨rfl, rfl⟩)
        go_round
        case rel => exact ⟨k + 1, by go_num, by omega, by omega, hst⟩
        case measure => simp [intOf]; omega
      · have hL := (lead_at s 1 k hg.out hgk hk hq.out (fun _ => hc)).symm.trans hn.out
        clear hq hn
        have hd : Hid (Val.isDigit s[k] = false) := Lib.hid (by simp [Val.isDigit]; omega)
        clear hc
        by_cases hkg : k = 1
        · rw [if_pos hkg] at hL
          subst hL
          have e1 : ((k : Int) == 1) = true := by simp; omega
          clear hkg
          go_wp2_with (go_at_call 157; refine (rdig_any _ _ _ hd).mono ?_; rintro e w1 ⟨rfl, rfl⟩)
          go_ret
          exact ⟨rfl, rfl⟩
        · rw [if_neg hkg] at hL
          subst hL
          have e1 : ((k : Int) == 1) = false := by simp; omega
          go_wp2_with (go_at_call 157; refine (rdig_any _ _ _ hd).mono ?_; rintro e w1 ⟨rfl, rfl⟩)
          go_ret
          exact ⟨rfl, rfl⟩
    · have hlB : decide ((k : Int) < (s.size : Int)) = false := decide_eq_false (by omega)
      have hL := (lead_at s 1 k hg.out hgk hk hq.out (fun h => absurd h hlt)).symm.trans hn.out
      clear hq hn
      by_cases hkg : k = 1
      · rw [if_pos hkg] at hL
        subst hL
        have e1 : ((k : Int) == 1) = true := by simp; omega
        clear hkg
        go_wp2
        go_ret
        exact ⟨rfl, rfl⟩
      · rw [if_neg hkg] at hL
        subst hL
        have e1 : ((k : Int) == 1) = false := by simp; omega
        go_wp2
        go_ret
        exact ⟨rfl, rfl⟩
theorem rlead_is (s : ByteArray) (w : World) (hs : s.size ≤ 1048576) (n : Nat) (hn : Hid (Val.lead s.data.toList = n)) :
    Calls Tryz.prog 121 #[.string s] w fun e w' => e = .returned (.int .i64 (n : Int)) ∧ w = w' := by
  by_cases h0 : s.size = 0
  · exact rlead_A s w hs h0 n hn
  · have h0' : 0 < s.size := by omega
    by_cases h1 : (s[0]).toNat = 43
    · exact rlead_B s w hs h0' h1 n hn
    · by_cases h2 : (s[0]).toNat = 45
      · exact rlead_D s w hs h0' h2 n hn
      · exact rlead_C s w hs h0' h1 h2 n hn

end Go.Proofs.YtmkgalcojoeniaaGreatDoor

namespace Go.Proofs.YtmkgalcojoeniaaGreatDoor
open Go.RowKit

theorem vbytes_ok (k : Int) (s : ByteArray) (w : World) (h : s.size ≤ 400) : Calls Tryz.prog 171 #[.int .i64 k, .string s] w (VRet2 k 0 s 0 w) := by
  have b : decide ((s.size : Int) > 400) = false := decide_eq_false (by omega)
  go_enter Tryz.func171, Tryz.ntmps171
  go_wp2
  refine bodyPost_ret (v := .tuple #[.agg #[.int .i64 k, .int .i64 0, .string s], .int .i64 0]) (by simp only [results, Tryz.results171]; go_simp) rfl ⟨rfl, ?_⟩
  first | exact below_new _ _ | exact below_setg (below_new _ _) (Nat.le_refl _)
theorem vbytes_long (k : Int) (s : ByteArray) (w : World) (h : 400 < s.size) : Calls Tryz.prog 171 #[.int .i64 k, .string s] w (VRet2 0 0 ⟨#[]⟩ 3 w) := by
  have b : decide ((s.size : Int) > 400) = true := decide_eq_true (by omega)
  go_enter Tryz.func171, Tryz.ntmps171
  go_wp2
  refine bodyPost_ret (v := .tuple #[.agg #[.int .i64 0, .int .i64 0, .string ⟨#[]⟩], .int .i64 3]) (by simp only [results, Tryz.results171]; go_simp) rfl ⟨rfl, ?_⟩
  first | exact below_new _ _ | exact below_setg (below_new _ _) (Nat.le_refl _)
theorem vtext_ok (s : ByteArray) (w : World) (h : s.size ≤ 400) : Calls Tryz.prog 130 #[.string s] w (VRet2 2 0 s 0 w) := by
  have hS := start1 w (.int .i64 0) (.int .i64 0) (.string ⟨#[]⟩) 25
  go_enter Tryz.func130, Tryz.ntmps130
  go_wp2_with (go_at_call 171; refine (vbytes_ok _ _ _ h).mono ?_; rintro e w1 ⟨rfl, hb⟩; have hS1 := keep1 hS hb; obtain ⟨ca0, ca1, ca2, ca3, ca4, ca5, hz, hB⟩ := id hS1)
  refine bodyPost_ret (v := .tuple #[.agg #[.int .i64 2, .int .i64 0, .string s], .int .i64 0]) (by simp only [results, Tryz.results130]; go_simp) rfl ⟨rfl, below_setg hB (Nat.le_refl _)⟩
theorem vtext_long (s : ByteArray) (w : World) (h : 400 < s.size) : Calls Tryz.prog 130 #[.string s] w (VRet2 0 0 ⟨#[]⟩ 3 w) := by
  have hS := start1 w (.int .i64 0) (.int .i64 0) (.string ⟨#[]⟩) 25
  go_enter Tryz.func130, Tryz.ntmps130
  go_wp2_with (go_at_call 171; refine (vbytes_long _ _ _ h).mono ?_; rintro e w1 ⟨rfl, hb⟩; have hS1 := keep1 hS hb; obtain ⟨ca0, ca1, ca2, ca3, ca4, ca5, hz, hB⟩ := id hS1)
  refine bodyPost_ret (v := .tuple #[.agg #[.int .i64 0, .int .i64 0, .string ⟨#[]⟩], .int .i64 3]) (by simp only [results, Tryz.results130]; go_simp) rfl ⟨rfl, below_setg hB (Nat.le_refl _)⟩
theorem vblob_ok (s : ByteArray) (w : World) (h : s.size ≤ 400) : Calls Tryz.prog 141 #[.string s] w (VRet2 3 0 s 0 w) := by
  have hS := start1 w (.int .i64 0) (.int .i64 0) (.string ⟨#[]⟩) 25
  go_enter Tryz.func141, Tryz.ntmps141
  go_wp2_with (go_at_call 171; refine (vbytes_ok _ _ _ h).mono ?_; rintro e w1 ⟨rfl, hb⟩; have hS1 := keep1 hS hb; obtain ⟨ca0, ca1, ca2, ca3, ca4, ca5, hz, hB⟩ := id hS1)
  refine bodyPost_ret (v := .tuple #[.agg #[.int .i64 3, .int .i64 0, .string s], .int .i64 0]) (by simp only [results, Tryz.results141]; go_simp) rfl ⟨rfl, below_setg hB (Nat.le_refl _)⟩

theorem ctext_ok (s : ByteArray) (w : World) (h : s.size ≤ 400) : Calls Tryz.prog 147 #[.string s] w (VRet 2 0 s w) := by
  have hS := start1 w (.int .i64 0) (.int .i64 0) (.string ⟨#[]⟩) 25
  go_enter Tryz.func147, Tryz.ntmps147
  go_wp2_with (go_at_call 130; refine (vtext_ok _ _ h).mono ?_; rintro e w1 ⟨rfl, hb⟩; have hS1 := keep1 hS (hb.trans (((Below.refl _ w1).alloc (Nat.le_refl _) (.cells #[.int .i64 2, .int .i64 0, .string s] 25)).mono hb.size)); obtain ⟨ca0, ca1, ca2, ca3, ca4, ca5, hz, hB⟩ := id hS1)
  refine bodyPost_ret (v := .agg #[.int .i64 2, .int .i64 0, .string s]) (by simp only [results, Tryz.results147]; go_simp) rfl ⟨rfl, below_setg hB (Nat.le_refl _)⟩
theorem cnumber_is (s : ByteArray) (w : World) (hs : s.size ≤ 1048576) (hL : Lits w) (k n : Int) (hv : Hid (Val.pnum s.data.toList = ⟨k, n, []⟩)) : Calls Tryz.prog 161 #[.string s] w (VRet k n ⟨#[]⟩ w) := by
  have hS := start1 w (.int .i64 0) (.int .i64 0) (.string ⟨#[]⟩) 25
  go_enter Tryz.func161, Tryz.ntmps161
  go_wp2_with fail
  refine (parse_any s _ hs (hL.alloc _)).mono ?_
  rintro e w1 ⟨hb, ⟨m, hm, rfl⟩ | ⟨hno, m, T, v, rfl⟩⟩
  · have hv' := (Val.pnum_ok hm).symm.trans hv.out
    simp only [Val.V.mk.injEq, and_true] at hv'
    obtain ⟨rfl, rfl⟩ := hv'
    have hS1 := keep1 hS hb
    clear hm hv
    go_wp2_with (go_at_call 81; refine (vint_any _ _).mono ?_; rintro e w2 ⟨rfl, hb2⟩; have hS2 := keep1 hS1 hb2; obtain ⟨ca0, ca1, ca2, ca3, ca4, ca5, hz, hB⟩ := id hS2)
    refine bodyPost_ret (v := .agg #[.int .i64 1, .int .i64 m, .string ⟨#[]⟩]) (by simp only [results, Tryz.results161]; go_simp) rfl ⟨rfl, below_setg hB (Nat.le_refl _)⟩
  · have hv' := (Val.pnum_no hno).symm.trans hv.out
    simp only [Val.zero, Val.V.mk.injEq, and_true] at hv'
    obtain ⟨rfl, rfl⟩ := hv'
    have hS1 := keep1 hS hb
    clear hno hv
    go_wp2_with (go_at_call 146; refine (cnull_any _).mono ?_; rintro e w2 ⟨rfl, hb2⟩; have hS2 := keep1 hS1 hb2; obtain ⟨ca0, ca1, ca2, ca3, ca4, ca5, hz, hB⟩ := id hS2)
    refine bodyPost_ret (v := .agg #[.int .i64 0, .int .i64 0, .string ⟨#[]⟩]) (by simp only [results, Tryz.results161]; go_simp) rfl ⟨rfl, below_setg hB (Nat.le_refl _)⟩

end Go.Proofs.YtmkgalcojoeniaaGreatDoor

namespace Go.Proofs.YtmkgalcojoeniaaGreatDoor
open Go.RowKit

theorem may_len {k n : Int} {t : ByteArray} (h : Val.may ⟨k, n, t.data.toList⟩ = true) : t.size ≤ 400 := by
  have h1 := Val.may_iff.1 h
  have hl : t.data.toList.length = t.size := rfl
  simp only at h1
  rcases h1 with ⟨_, _, h⟩ | ⟨_, h⟩ | ⟨_, _, h⟩
  · rw [h] at hl; simp at hl; omega
  · rw [h] at hl; simp at hl; omega
  · omega
theorem text_nil {t : ByteArray} (h : t.data.toList = []) : t = ⟨#[]⟩ := by rw [← bs_of t, h]; rfl
theorem trimL_is (t u : ByteArray) (w : World) (hu : Hid (bs (Val.ltrim t.data.toList) = u)) :
    Calls Tryz.prog 159 #[.string t, .string ⟨#[32, 9, 10, 13]⟩] w fun e w' => e = .returned (.string u) ∧ Below w.heap.size w w' :=
  (Any.strings_TrimLeft_laid Tryz.lays161 (by kernel_rfl) t ⟨#[32, 9, 10, 13]⟩ w (by decide) (ascii_of_all (by decide))).mono fun _ _ ⟨h1, h2⟩ => ⟨by rw [h1, ← hu.out]; rfl, h2⟩
theorem extract_take (u : ByteArray) (m : Nat) : (u.extract 0 m).data.toList = u.data.toList.take m := by
  rw [Lib.extract_data]; simp

set_option maxHeartbeats 1000000 in
theorem cnum_is (k n : Int) (t : ByteArray) (w : World) (hL : Lits w) (k' n' : Int) (hv : Hid (Val.num ⟨k, n, t.data.toList⟩ = ⟨k', n', []⟩)) : Calls Tryz.prog 127 #[.agg #[.int .i64 k, .int .i64 n, .string t]] w (VRet k' n' ⟨#[]⟩ w) := by
  have hS := start2 w (.int .i64 k) (.int .i64 n) (.string t) (.int .i64 0) (.int .i64 0) (.string ⟨#[]⟩) 25 25
  have hL0 : Lits ((w.alloc (.cells #[.int .i64 k, .int .i64 n, .string t] 25)).alloc (.cells #[.int .i64 0, .int .i64 0, .string ⟨#[]⟩] 25)) := (hL.alloc _).alloc _
  cases hm : Val.may ⟨k, n, t.data.toList⟩ with
  | false =>
    have hv' := (Val.num_not (.inl hm)).symm.trans hv.out
    simp only [Val.zero, Val.V.mk.injEq, and_true] at hv'
    obtain ⟨rfl, rfl⟩ := hv'
    replace hm := Lib.hid hm
    clear hv
    go_enter Tryz.func127, Tryz.ntmps127
    go_wp2_with (first
      | (go_at_call 18; refine (may_is _ _ _ _ hm).mono ?_; rintro e w1 ⟨rfl, hb⟩; have hS1 := keep2 hS hb; obtain ⟨ca0, ca1, ca2, ca3, ca4, ca5, ca6, ca7, ca8, ca9, ca10, ca11, hz, hB⟩ := id hS1)
      | (go_at_call 146; refine (cnull_any _).mono ?_; rintro e w2 ⟨rfl, hb2⟩; have hS2 := keep2 hS1 hb2; obtain ⟨cb0, cb1, cb2, cb3, cb4, cb5, cb6, cb7, cb8, cb9, cb10, cb11, hz2, hB2⟩ := id hS2))
    refine bodyPost_ret (v := .agg #[.int .i64 0, .int .i64 0, .string ⟨#[]⟩]) (by simp only [results, Tryz.results127]; go_simp) rfl ⟨rfl, below_setg hB2 (by omega)⟩
  | true =>
    have hml := may_len hm
    have hmi := Val.may_iff.1 hm
    simp only at hmi
    by_cases k0 : k = 0
    · have hv' := (Val.num_not (.inr k0)).symm.trans hv.out
      simp only [Val.zero, Val.V.mk.injEq, and_true] at hv'
      obtain ⟨rfl, rfl⟩ := hv'
      have b0 : (k == 0) = true := by simp [k0]
      replace hm := Lib.hid hm
      clear hv k0 hmi
      go_enter Tryz.func127, Tryz.ntmps127
      go_wp2_with (first
        | (go_at_call 18; refine (may_is _ _ _ _ hm).mono ?_; rintro e w1 ⟨rfl, hb⟩; have hS1 := keep2 hS hb; obtain ⟨ca0, ca1, ca2, ca3, ca4, ca5, ca6, ca7, ca8, ca9, ca10, ca11, hz, hB⟩ := id hS1)
        | (go_at_call 146; refine (cnull_any _).mono ?_; rintro e w2 ⟨rfl, hb2⟩; have hS2 := keep2 hS1 hb2; obtain ⟨cb0, cb1, cb2, cb3, cb4, cb5, cb6, cb7, cb8, cb9, cb10, cb11, hz2, hB2⟩ := id hS2))
      refine bodyPost_ret (v := .agg #[.int .i64 0, .int .i64 0, .string ⟨#[]⟩]) (by simp only [results, Tryz.results127]; go_simp) rfl ⟨rfl, below_setg hB2 (by omega)⟩
    · have b0 : (k == 0) = false := by simp [k0]
      by_cases k1 : k = 1
      · have hv' := (Val.num_int hm k1).symm.trans hv.out
        simp only [Val.V.mk.injEq] at hv'
        obtain ⟨rfl, rfl, ht⟩ := hv'
        have ht' := text_nil ht
        subst ht'
        have b1 : (k == 1) = true := by simp [k1]
        replace hm := Lib.hid hm
        clear hv k0 hmi k1 ht
        go_enter Tryz.func127, Tryz.ntmps127
        go_wp2_with (go_at_call 18; refine (may_is _ _ _ _ hm).mono ?_; rintro e w1 ⟨rfl, hb⟩; have hS1 := keep2 hS hb; obtain ⟨ca0, ca1, ca2, ca3, ca4, ca5, ca6, ca7, ca8, ca9, ca10, ca11, hz, hB⟩ := id hS1)
        refine bodyPost_ret (v := .agg #[.int .i64 k, .int .i64 n, .string ⟨#[]⟩]) (by simp only [results, Tryz.results127]; go_simp) rfl ⟨rfl, below_setg hB (by omega)⟩
      · have b1 : (k == 1) = false := by simp [k1]
        obtain ⟨u, hu⟩ : ∃ u, bs (Val.ltrim t.data.toList) = u := ⟨_, rfl⟩
        have hud : u.data.toList = Val.ltrim t.data.toList := by rw [← hu]; rfl
        have hul : u.size ≤ 400 := by
          have h1 : (Val.ltrim t.data.toList).length ≤ t.data.toList.length := (List.dropWhile_sublist _).length_le
          have h2 : t.data.toList.length = t.size := rfl
          have h3 : u.data.toList.length = u.size := rfl
          rw [hud] at h3; omega
        obtain ⟨m, hmm⟩ : ∃ m, Val.lead u.data.toList = m := ⟨_, rfl⟩
        have hmle : m ≤ u.size := by rw [← hmm]; exact Val.lead_le _
        by_cases m0 : m = 0
        · have hv' := (Val.num_none hm k0 k1 (by rw [← hud, hmm]; exact m0)).symm.trans hv.out
          simp only [Val.V.mk.injEq, and_true] at hv'
          obtain ⟨rfl, rfl⟩ := hv'
          subst m0
          replace hm := Lib.hid hm
          replace hu := Lib.hid hu
          replace hmm := Lib.hid hmm
          clear hv k0 hmi k1 hud
          go_enter Tryz.func127, Tryz.ntmps127
          go_wp2_with (first
            | (go_at_call 18; refine (may_is _ _ _ _ hm).mono ?_; rintro e w1 ⟨rfl, hb⟩; have hS1 := keep2 hS hb; obtain ⟨ca0, ca1, ca2, ca3, ca4, ca5, ca6, ca7, ca8, ca9, ca10, ca11, hz, hB⟩ := id hS1)
            | (go_at_call 159; refine (trimL_is _ _ _ hu).mono ?_; rintro e w2 ⟨rfl, hb2⟩; have hS2 := keep2 hS1 hb2)
            | (go_at_call 160; refine (cdigits_is u _ (by omega) _ hmm).mono ?_; rintro e w3 ⟨rfl, rfl⟩)
            | (go_at_call 81; refine (vint_any _ _).mono ?_; rintro e w3 ⟨rfl, hb3⟩; have hS3 := keep2 hS2 hb3; obtain ⟨cb0, cb1, cb2, cb3, cb4, cb5, cb6, cb7, cb8, cb9, cb10, cb11, hz3, hB3⟩ := id hS3))
          refine bodyPost_ret (v := .agg #[.int .i64 1, .int .i64 0, .string ⟨#[]⟩]) (by simp only [results, Tryz.results127]; go_simp) rfl ⟨rfl, below_setg hB3 (by omega)⟩
        · have hv' := (Val.num_text hm k0 k1 (by rw [← hud, hmm]; exact m0)).symm.trans hv.out
          rw [← hud, hmm, ← extract_take] at hv'
          have b2 : ((m : Int) == 0) = false := by simp; omega
          have hel : (u.extract 0 m).size ≤ 1048576 := by
            have h1 := extract_take u m
            have h2 : (u.extract 0 m).data.toList.length = (u.extract 0 m).size := rfl
            rw [h1, List.length_take] at h2
            have h3 : u.data.toList.length = u.size := rfl
            omega
          replace hm := Lib.hid hm
          replace hu := Lib.hid hu
          replace hmm := Lib.hid hmm
          replace hv' := Lib.hid hv'
          replace hel := Lib.hid hel
          clear hv k0 hmi k1 hud m0
          go_enter Tryz.func127, Tryz.ntmps127
          go_wp2_with (first
            | (go_at_call 18; refine (may_is _ _ _ _ hm).mono ?_; rintro e w1 ⟨rfl, hb⟩; have hS1 := keep2 hS hb; obtain ⟨ca0, ca1, ca2, ca3, ca4, ca5, ca6, ca7, ca8, ca9, ca10, ca11, hz, hB⟩ := id hS1; have hL1 := hL0.below hb)
            | (go_at_call 159; refine (trimL_is _ _ _ hu).mono ?_; rintro e w2 ⟨rfl, hb2⟩; have hS2 := keep2 hS1 hb2; have hL2 := hL1.below hb2)
            | (go_at_call 160; refine (cdigits_is u _ (by omega) _ hmm).mono ?_; rintro e w3 ⟨rfl, rfl⟩)
            | (go_at_call 161; refine (cnumber_is _ _ hel.out hL2 _ _ hv').mono ?_; rintro e w3 ⟨rfl, hb3⟩; have hS3 := keep2 hS2 hb3; obtain ⟨cb0, cb1, cb2, cb3, cb4, cb5, cb6, cb7, cb8, cb9, cb10, cb11, hz3, hB3⟩ := id hS3))
          refine bodyPost_ret (v := .agg #[.int .i64 k', .int .i64 n', .string ⟨#[]⟩]) (by simp only [results, Tryz.results127]; go_simp) rfl ⟨rfl, below_setg hB3 (by omega)⟩

end Go.Proofs.YtmkgalcojoeniaaGreatDoor

namespace Go.Proofs.YtmkgalcojoeniaaGreatDoor
open Go.RowKit

theorem itoa_size {n : Int} (h0 : -9223372036854775808 ≤ n) (h1 : n ≤ 9223372036854775807) : (bs (Lib.itoa n)).size ≤ 400 := by
  have := Val.itoa_len n h0 h1
  rw [bs_size]; omega
theorem bytes_inj' {a b : ByteArray} (h : a.data.toList = b.data.toList) : a = b := by rw [← bs_of a, ← bs_of b, h]

set_option maxHeartbeats 1000000 in
theorem cshow_is (k n : Int) (t : ByteArray) (w : World) (h0 : -9223372036854775808 ≤ n) (h1 : n ≤ 9223372036854775807) (hL : Lits w) (k' : Int) (t' : ByteArray) (hv : Hid (Val.pshow ⟨k, n, t.data.toList⟩ = ⟨k', 0, t'.data.toList⟩)) : Calls Tryz.prog 104 #[.agg #[.int .i64 k, .int .i64 n, .string t]] w (VRet k' 0 t' w) := by
  have hS := start2 w (.int .i64 k) (.int .i64 n) (.string t) (.int .i64 0) (.int .i64 0) (.string ⟨#[]⟩) 25 25
  have hL0 : Lits ((w.alloc (.cells #[.int .i64 k, .int .i64 n, .string t] 25)).alloc (.cells #[.int .i64 0, .int .i64 0, .string ⟨#[]⟩] 25)) := (hL.alloc _).alloc _
  cases hm : Val.may ⟨k, n, t.data.toList⟩ with
  | false =>
    have hv' := (Val.pshow_not (.inl hm)).symm.trans hv.out
    simp only [Val.zero, Val.V.mk.injEq, true_and] at hv'
    obtain ⟨rfl, ht⟩ := hv'
    have ht' := text_nil ht.symm
    subst ht'
    replace hm := Lib.hid hm
    clear hv ht
    go_enter Tryz.func104, Tryz.ntmps104
    go_wp2_with (first
      | (go_at_call 18; refine (may_is _ _ _ _ hm).mono ?_; rintro e w1 ⟨rfl, hb⟩; have hS1 := keep2 hS hb; obtain ⟨ca0, ca1, ca2, ca3, ca4, ca5, ca6, ca7, ca8, ca9, ca10, ca11, hz, hB⟩ := id hS1)
      | (go_at_call 146; refine (cnull_any _).mono ?_; rintro e w2 ⟨rfl, hb2⟩; have hS2 := keep2 hS1 hb2; obtain ⟨cb0, cb1, cb2, cb3, cb4, cb5, cb6, cb7, cb8, cb9, cb10, cb11, hz2, hB2⟩ := id hS2))
    refine bodyPost_ret (v := .agg #[.int .i64 0, .int .i64 0, .string ⟨#[]⟩]) (by simp only [results, Tryz.results104]; go_simp) rfl ⟨rfl, below_setg hB2 (by omega)⟩
  | true =>
    have hml := may_len hm
    by_cases k0 : k = 0
    · have hv' := (Val.pshow_not (.inr k0)).symm.trans hv.out
      simp only [Val.zero, Val.V.mk.injEq, true_and] at hv'
      obtain ⟨rfl, ht⟩ := hv'
      have ht' := text_nil ht.symm
      subst ht'
      have b0 : (k == 0) = true := by simp [k0]
      replace hm := Lib.hid hm
      clear hv k0 ht
      go_enter Tryz.func104, Tryz.ntmps104
      go_wp2_with (first
        | (go_at_call 18; refine (may_is _ _ _ _ hm).mono ?_; rintro e w1 ⟨rfl, hb⟩; have hS1 := keep2 hS hb; obtain ⟨ca0, ca1, ca2, ca3, ca4, ca5, ca6, ca7, ca8, ca9, ca10, ca11, hz, hB⟩ := id hS1)
        | (go_at_call 146; refine (cnull_any _).mono ?_; rintro e w2 ⟨rfl, hb2⟩; have hS2 := keep2 hS1 hb2; obtain ⟨cb0, cb1, cb2, cb3, cb4, cb5, cb6, cb7, cb8, cb9, cb10, cb11, hz2, hB2⟩ := id hS2))
      refine bodyPost_ret (v := .agg #[.int .i64 0, .int .i64 0, .string ⟨#[]⟩]) (by simp only [results, Tryz.results104]; go_simp) rfl ⟨rfl, below_setg hB2 (by omega)⟩
    · have b0 : (k == 0) = false := by simp [k0]
      by_cases k1 : k = 1
      · have hv' := (Val.pshow_int hm k1).symm.trans hv.out
        simp only [Val.V.mk.injEq, true_and] at hv'
        obtain ⟨rfl, ht⟩ := hv'
        have ht' : bs (Lib.itoa n) = t' := bytes_inj' ht
        have hts := itoa_size h0 h1
        rw [ht'] at hts
        have b1 : (k == 1) = true := by simp [k1]
        replace hm := Lib.hid hm
        replace ht' := Lib.hid ht'
        clear hv k0 k1 ht
        go_enter Tryz.func104, Tryz.ntmps104
        go_wp2_with (first
          | (go_at_call 18; refine (may_is _ _ _ _ hm).mono ?_; rintro e w1 ⟨rfl, hb⟩; have hS1 := keep2 hS hb; obtain ⟨ca0, ca1, ca2, ca3, ca4, ca5, ca6, ca7, ca8, ca9, ca10, ca11, hz, hB⟩ := id hS1; have hL1 := hL0.below hb)
          | (go_at_call 100; refine (format_any n _ h0 h1 hL1).mono ?_; rintro e w2 ⟨rfl, hb2⟩; rw [ht'.out]; have hS2 := keep2 hS1 hb2)
          | (go_at_call 147; refine (ctext_ok _ _ hts).mono ?_; rintro e w3 ⟨rfl, hb3⟩; have hS3 := keep2 hS2 hb3; obtain ⟨cb0, cb1, cb2, cb3, cb4, cb5, cb6, cb7, cb8, cb9, cb10, cb11, hz3, hB3⟩ := id hS3))
        refine bodyPost_ret (v := .agg #[.int .i64 2, .int .i64 0, .string t']) (by simp only [results, Tryz.results104]; go_simp) rfl ⟨rfl, below_setg hB3 (by omega)⟩
      · have hv' := (Val.pshow_text hm k0 k1).symm.trans hv.out
        simp only [Val.V.mk.injEq, true_and] at hv'
        obtain ⟨rfl, ht⟩ := hv'
        have ht' := bytes_inj' ht
        subst ht'
        have b1 : (k == 1) = false := by simp [k1]
        replace hm := Lib.hid hm
        clear hv k0 k1 ht
        go_enter Tryz.func104, Tryz.ntmps104
        go_wp2_with (first
          | (go_at_call 18; refine (may_is _ _ _ _ hm).mono ?_; rintro e w1 ⟨rfl, hb⟩; have hS1 := keep2 hS hb; obtain ⟨ca0, ca1, ca2, ca3, ca4, ca5, ca6, ca7, ca8, ca9, ca10, ca11, hz, hB⟩ := id hS1; have hL1 := hL0.below hb)
          | (go_at_call 147; refine (ctext_ok _ _ hml).mono ?_; rintro e w3 ⟨rfl, hb3⟩; have hS3 := keep2 hS1 hb3; obtain ⟨cb0, cb1, cb2, cb3, cb4, cb5, cb6, cb7, cb8, cb9, cb10, cb11, hz3, hB3⟩ := id hS3))
        refine bodyPost_ret (v := .agg #[.int .i64 2, .int .i64 0, .string t]) (by simp only [results, Tryz.results104]; go_simp) rfl ⟨rfl, below_setg hB3 (by omega)⟩

/-- a number's kind and worth, by what it says of truth -/
theorem tru_num {v : Val.V} {r : Int} (hf : Val.fits v) (hr : Val.tru v = r) : ∃ k' n', Val.num v = ⟨k', n', []⟩ ∧ (n' != 0) = decide (r = 1) ∧ (k' == 1) = decide (0 ≤ r) ∧ (k' == 0) = decide (r = -1) ∧ (n' ≠ 0 ↔ r = 1) := by
  unfold Val.tru at hr
  rcases Val.num_cases hf with h | ⟨n, h, _, _⟩
  · refine ⟨0, 0, h, ?_⟩
    rw [h] at hr
    simp [Val.zero] at hr
    subst hr; decide
  · refine ⟨1, n, h, ?_⟩
    rw [h] at hr
    by_cases h0 : n = 0
    · subst h0
      simp at hr
      subst hr; decide
    · simp [h0] at hr
      subst hr
      simp [h0]

set_option maxHeartbeats 1000000 in
theorem ctru_is (k n : Int) (t : ByteArray) (w : World) (h0 : -9223372036854775808 ≤ n) (h1 : n ≤ 9223372036854775807) (hL : Lits w) (r : Int) (is kn : Bool) (hr : Hid (Val.tru ⟨k, n, t.data.toList⟩ = r)) (hi : Hid (decide (r = 1) = is)) (hk : Hid (decide (0 ≤ r) = kn)) :
    Calls Tryz.prog 79 #[.agg #[.int .i64 k, .int .i64 n, .string t]] w fun e w' => e = .returned (.tuple #[.bool is, .bool kn]) ∧ Below w.heap.size w w' := by
  have hS := start1 w (.int .i64 k) (.int .i64 n) (.string t) 25
  have hL0 : Lits (w.alloc (.cells #[.int .i64 k, .int .i64 n, .string t] 25)) := hL.alloc _
  obtain ⟨k', n', hv, e1, e2, _, _⟩ := tru_num (v := ⟨k, n, t.data.toList⟩) ⟨h0, h1⟩ hr.out
  rw [hi.out] at e1
  rw [hk.out] at e2
  replace hv := Lib.hid hv
  clear hr hi hk
  go_enter Tryz.func79, Tryz.ntmps79
  go_wp2_with (go_at_call 127; refine (cnum_is _ _ _ _ hL0 _ _ hv).mono ?_; rintro e w1 ⟨rfl, hb⟩; have hS1 := keep1 hS hb; obtain ⟨ca0, ca1, ca2, ca3, ca4, ca5, hz, hB⟩ := id hS1)
  go_quiet (fail)
  go_wp2
  go_ret2
  refine ⟨rfl, ?_⟩
  exact below_drewN (hB.trans ((below_new w1 _).mono hB.size)) _

end Go.Proofs.YtmkgalcojoeniaaGreatDoor

