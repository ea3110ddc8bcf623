/- Walks: the digits ahead of a text. -/
import Derived.Test.YtmkgalcojoeniaaGreatDoorCalcW1
import Derived.Test.YtmkgalcojoeniaaGreatDoorPlain
import Derived.Test.YtmkgalcojoeniaaGreatDoorNumW
import Derived.Shelf.Strings.SlTrimAscii
set_option maxRecDepth 100000
set_option linter.unusedVariables false
set_option linter.unusedSimpArgs false
namespace Go.Proofs.YtmkgalcojoeniaaGreatDoor
open Go.RowKit

theorem sgn_empty (s : ByteArray) (h : s.size = 0) : Val.sgn s.data.toList = 0 := by
  have : s.data.toList = [] := List.eq_nil_of_length_eq_zero h
  rw [this]; rfl
theorem sgn_byte (s : ByteArray) (h : 0 < s.size) : Val.sgn s.data.toList = if (s[0]).toNat = 43 ∨ (s[0]).toNat = 45 then 1 else 0 := by
  have hd := dropc s 0 h
  rw [List.drop_zero] at hd
  rw [hd]; rfl
/-- how far the digits go: a step, and the end -/
theorem digs_step (s : ByteArray) (g k : Nat) (hg : g ≤ k) (hk : k < s.size) (hc : 48 ≤ (s[k]).toNat ∧ (s[k]).toNat ≤ 57) (h : ∀ c ∈ (s.data.toList.drop g).take (k - g), Val.isDigit c = true) : ∀ c ∈ (s.data.toList.drop g).take (k + 1 - g), Val.isDigit c = true := by
  have hl : s.data.toList.length = s.size := rfl
  have e : k + 1 - g = (k - g) + 1 := by omega
  have hi : k - g < (s.data.toList.drop g).length := by rw [List.length_drop]; omega
  rw [e, List.take_succ_eq_append_getElem hi]
  intro c hm
  rcases List.mem_append.1 hm with hm | hm
  · exact h c hm
  · rw [List.mem_singleton.1 hm, List.getElem_drop]
    have e2 : g + (k - g) = k := by omega
    simp only [e2]
    have e3 : s.data.toList[k]'(by omega) = s[k] := rfl
    rw [e3]
    simp only [Val.isDigit, decide_eq_true_eq]; exact hc
theorem lead_at (s : ByteArray) (g k : Nat) (hs : Val.sgn s.data.toList = g) (hg : g ≤ k) (hk : k ≤ s.size) (h : ∀ c ∈ (s.data.toList.drop g).take (k - g), Val.isDigit c = true) (he : ∀ hk : k < s.size, ¬ (48 ≤ (s[k]).toNat ∧ (s[k]).toNat ≤ 57)) : Val.lead s.data.toList = if k = g then 0 else k := by
  have hl : s.data.toList.length = s.size := rfl
  have hN : Val.leadN s.data.toList = k := by
    refine Val.leadN_is (by omega) (by omega) (by rw [hs]; exact h) ?_
    intro c hc
    by_cases hkl : k < s.size
    · have e3 : s.data.toList[k]? = some s[k] := by rw [List.getElem?_eq_getElem (show k < s.data.toList.length by omega)]; rfl
      rw [e3] at hc
      cases hc
      have := he hkl
      simp [Val.isDigit]; omega
    · rw [List.getElem?_eq_none (by omega)] at hc; cases hc
  rw [Val.lead, hN, hs]

theorem rdig_any (c : UInt8) (w : World) (b : Bool) (h : Hid (Val.isDigit c = b)) :
    Calls Tryz.prog 157 #[.int .u8 (c.toNat : Int)] w fun e w' => e = .returned (.bool b) ∧ w = w' := by
  have h' := h.out
  rw [Val.isDigit] at h'
  subst h'
  go_enter Tryz.func157, Tryz.ntmps157
  go_wp2
  all_goals (
    go_ret
    refine ⟨ret_bool ?_, rfl⟩
    rw [Bool.eq_iff_iff]
    simp
    try omega)
theorem rblank_any (c : UInt8) (w : World) (b : Bool) (h : Hid (Val.isBlank c = b)) :
    Calls Tryz.prog 120 #[.int .u8 (c.toNat : Int)] w fun e w' => e = .returned (.bool b) ∧ w = w' := by
  have h' := h.out
  have e : Val.isBlank c = decide (c.toNat = 32 ∨ c.toNat = 9 ∨ c.toNat = 10 ∨ c.toNat = 13) := by
    rw [Bool.eq_iff_iff]
    simp [Val.isBlank, ← UInt8.toNat_inj]
  rw [e] at h'
  subst h'
  go_enter Tryz.func120, Tryz.ntmps120
  go_wp2
  all_goals (
    go_ret
    refine ⟨ret_bool ?_, rfl⟩
    rw [Bool.eq_iff_iff]
    simp
    try omega)

set_option maxHeartbeats 1000000 in
theorem cdigits_A (s : ByteArray) (w : World) (hs : s.size ≤ 1048576) (h0 : s.size = 0) (n : Nat) (hn : Hid (Val.lead s.data.toList = n)) :
    Calls Tryz.prog 160 #[.string s] w fun e w' => e = .returned (.int .i64 (n : Int)) ∧ w = w' := by
  have hg : Val.sgn s.data.toList = 0 := sgn_empty s h0
  have b0 : decide ((0 : Int) < (s.size : Int)) = false := decide_eq_false (by omega)
  have b0' : decide ((s.size : Int) > 0) = false := decide_eq_false (by omega)
  replace hg := Lib.hid hg
  go_enter Tryz.func160, Tryz.ntmps160
  go_wp2
  go_loop [3] (fun i => ∃ k : Nat, i = .int .i64 (k : Int) ∧ 0 ≤ k ∧ k ≤ s.size ∧ Hid (∀ c ∈ (s.data.toList.drop 0).take (k - 0), Val.isDigit c = true)) (fun i => s.size - (intOf i).toNat)
  case atStart => exact ⟨0, by go_num, by omega, by omega, Lib.hid (by simp)⟩
  case round =>
    obtain ⟨k, rfl, hgk, hk, hq⟩ := hrel
    by_cases hlt : k < s.size
    · exact absurd hlt (by omega)
    · have hlB : decide ((k : Int) < (s.size : Int)) = false := decide_eq_false (by omega)
      have hL := (lead_at s 0 k hg.out hgk hk hq.out (fun h => absurd h hlt)).symm.trans hn.out
      clear hq hn
      by_cases hkg : k = 0
      · rw [if_pos hkg] at hL
        subst hL
        have e1 : ((k : Int) == 0) = true := by simp; omega
        clear hkg
        go_wp2
        go_ret
        exact ⟨rfl, rfl⟩
      · exact absurd (show k = 0 by omega) hkg
set_option maxHeartbeats 1000000 in
theorem cdigits_C (s : ByteArray) (w : World) (hs : s.size ≤ 1048576) (h0 : 0 < s.size) (h1 : (s[0]).toNat ≠ 43) (h2 : (s[0]).toNat ≠ 45) (n : Nat) (hn : Hid (Val.lead s.data.toList = n)) :
    Calls Tryz.prog 160 #[.string s] w fun e w' => e = .returned (.int .i64 (n : Int)) ∧ w = w' := by
  have hg : Val.sgn s.data.toList = 0 := by rw [sgn_byte s h0, if_neg (by omega)]
  have b0 : decide ((0 : Int) < (s.size : Int)) = true := decide_eq_true (by omega)
  have b0' : decide ((s.size : Int) > 0) = true := decide_eq_true (by omega)
  have b1 : (((s[0]).toNat : Int) == 43) = false := by simp; omega
  have b2 : (((s[0]).toNat : Int) == 45) = false := by simp; omega
  clear h1 h2
  replace hg := Lib.hid hg
  go_enter Tryz.func160, Tryz.ntmps160
  go_wp2
  go_loop [3] (fun i => ∃ k : Nat, i = .int .i64 (k : Int) ∧ 0 ≤ k ∧ k ≤ s.size ∧ Hid (∀ c ∈ (s.data.toList.drop 0).take (k - 0), Val.isDigit c = true)) (fun i => s.size - (intOf i).toNat)
  case atStart => exact ⟨0, by go_num, by omega, by omega, Lib.hid (by simp)⟩
  case round =>
    obtain ⟨k, rfl, hgk, hk, hq⟩ := hrel
    by_cases hlt : k < s.size
    · have hlB : decide ((k : Int) < (s.size : Int)) = true := decide_eq_true (by omega)
      have c8 := (s[k]).toNat_lt
      by_cases hc : 48 ≤ (s[k]).toNat ∧ (s[k]).toNat ≤ 57
      · have hst := digs_step s 0 k hgk hlt hc hq.out
        replace hst := Lib.hid hst
        clear hq
        have d1 : decide (((s[k]).toNat : Int) ≥ 48) = true := decide_eq_true (by omega)
        have d2 : decide (((s[k]).toNat : Int) ≤ 57) = true := decide_eq_true (by omega)
        clear hc
        go_wp2
        go_round
        case rel => exact ⟨k + 1, by go_num, by omega, by omega, hst⟩
        case measure => simp [intOf]; omega
      · have hL := (lead_at s 0 k hg.out hgk hk hq.out (fun _ => hc)).symm.trans hn.out
        clear hq hn
        by_cases hlo : (s[k]).toNat < 48
        · have d1 : decide (((s[k]).toNat : Int) ≥ 48) = false := decide_eq_false (by omega)
          clear hc hlo
          by_cases hkg : k = 0
          · rw [if_pos hkg] at hL
            subst hL
            have e1 : ((k : Int) == 0) = true := by simp; omega
            clear hkg
            go_wp2
            go_ret
            exact ⟨rfl, rfl⟩
          · rw [if_neg hkg] at hL
            subst hL
            have e1 : ((k : Int) == 0) = false := by simp; omega
            go_wp2
            go_ret
            exact ⟨rfl, rfl⟩
        · have d1 : decide (((s[k]).toNat : Int) ≥ 48) = true := decide_eq_true (by omega)
          have d2 : decide (((s[k]).toNat : Int) ≤ 57) = false := decide_eq_false (by omega)
          clear hc hlo
          by_cases hkg : k = 0
          · rw [if_pos hkg] at hL
            subst hL
            have e1 : ((k : Int) == 0) = true := by simp; omega
            clear hkg
            go_wp2
            go_ret
            exact ⟨rfl, rfl⟩
          · rw [if_neg hkg] at hL
            subst hL
            have e1 : ((k : Int) == 0) = false := by simp; omega
            go_wp2
            go_ret
            exact ⟨rfl, rfl⟩
    · have hlB : decide ((k : Int) < (s.size : Int)) = false := decide_eq_false (by omega)
      have hL := (lead_at s 0 k hg.out hgk hk hq.out (fun h => absurd h hlt)).symm.trans hn.out
      clear hq hn
      by_cases hkg : k = 0
      · rw [if_pos hkg] at hL
        subst hL
        have e1 : ((k : Int) == 0) = true := by simp; omega
        clear hkg
        go_wp2
        go_ret
        exact ⟨rfl, rfl⟩
      · rw [if_neg hkg] at hL
        subst hL
        have e1 : ((k : Int) == 0) = false := by simp; omega
        go_wp2
        go_ret
        exact ⟨rfl, rfl⟩
set_option maxHeartbeats 1000000 in
theorem cdigits_B (s : ByteArray) (w : World) (hs : s.size ≤ 1048576) (h0 : 0 < s.size) (h1 : (s[0]).toNat = 43) (n : Nat) (hn : Hid (Val.lead s.data.toList = n)) :
    Calls Tryz.prog 160 #[.string s] w fun e w' => e = .returned (.int .i64 (n : Int)) ∧ w = w' := by
  have hg : Val.sgn s.data.toList = 1 := by rw [sgn_byte s h0, if_pos (by omega)]
  have b0 : decide ((0 : Int) < (s.size : Int)) = true := decide_eq_true (by omega)
  have b0' : decide ((s.size : Int) > 0) = true := decide_eq_true (by omega)
  have b1 : (((s[0]).toNat : Int) == 43) = true := by simp; omega
  clear h1
  replace hg := Lib.hid hg
  go_enter Tryz.func160, Tryz.ntmps160
  go_wp2
  go_loop [3] (fun i => ∃ k : Nat, i = .int .i64 (k : Int) ∧ 1 ≤ k ∧ k ≤ s.size ∧ Hid (∀ c ∈ (s.data.toList.drop 1).take (k - 1), Val.isDigit c = true)) (fun i => s.size - (intOf i).toNat)
  case atStart => exact ⟨1, by go_num, by omega, by omega, Lib.hid (by simp)⟩
  case round =>
    obtain ⟨k, rfl, hgk, hk, hq⟩ := hrel
    by_cases hlt : k < s.size
    · have hlB : decide ((k : Int) < (s.size : Int)) = true := decide_eq_true (by omega)
      have c8 := (s[k]).toNat_lt
      by_cases hc : 48 ≤ (s[k]).toNat ∧ (s[k]).toNat ≤ 57
      · have hst := digs_step s 1 k hgk hlt hc hq.out
        replace hst := Lib.hid hst
        clear hq
        have d1 : decide (((s[k]).toNat : Int) ≥ 48) = true := decide_eq_true (by omega)
        have d2 : decide (((s[k]).toNat : Int) ≤ 57) = true := decide_eq_true (by omega)
        clear hc
        go_wp2
        go_round
        case rel => exact ⟨k + 1, by go_num, by omega, by omega, hst⟩
        case measure => simp [intOf]; omega
      · have hL := (lead_at s 1 k hg.out hgk hk hq.out (fun _ => hc)).symm.trans hn.out
        clear hq hn
        by_cases hlo : (s[k]).toNat < 48
        · have d1 : decide (((s[k]).toNat : Int) ≥ 48) = false := decide_eq_false (by omega)
          clear hc hlo
          by_cases hkg : k = 1
          · rw [if_pos hkg] at hL
            subst hL
            have e1 : ((k : Int) == 1) = true := by simp; omega
            clear hkg
            go_wp2
            go_ret
            exact ⟨rfl, rfl⟩
          · rw [if_neg hkg] at hL
            subst hL
            have e1 : ((k : Int) == 1) = false := by simp; omega
            go_wp2
            go_ret
            exact ⟨rfl, rfl⟩
        · have d1 : decide (((s[k]).toNat : Int) ≥ 48) = true := decide_eq_true (by omega)
          have d2 : decide (((s[k]).toNat : Int) ≤ 57) = false := decide_eq_false (by omega)
          clear hc hlo
          by_cases hkg : k = 1
          · rw [if_pos hkg] at hL
            subst hL
            have e1 : ((k : Int) == 1) = true := by simp; omega
            clear hkg
            go_wp2
            go_ret
            exact ⟨rfl, rfl⟩
          · rw [if_neg hkg] at hL
            subst hL
            have e1 : ((k : Int) == 1) = false := by simp; omega
            go_wp2
            go_ret
            exact ⟨rfl, rfl⟩
    · have hlB : decide ((k : Int) < (s.size : Int)) = false := decide_eq_false (by omega)
      have hL := (lead_at s 1 k hg.out hgk hk hq.out (fun h => absurd h hlt)).symm.trans hn.out
      clear hq hn
      by_cases hkg : k = 1
      · rw [if_pos hkg] at hL
        subst hL
        have e1 : ((k : Int) == 1) = true := by simp; omega
        clear hkg
        go_wp2
        go_ret
        exact ⟨rfl, rfl⟩
      · rw [if_neg hkg] at hL
        subst hL
        have e1 : ((k : Int) == 1) = false := by simp; omega
        go_wp2
        go_ret
        exact ⟨rfl, rfl⟩
set_option maxHeartbeats 1000000 in
theorem cdigits_D (s : ByteArray) (w : World) (hs : s.size ≤ 1048576) (h0 : 0 < s.size) (h1 : (s[0]).toNat = 45) (n : Nat) (hn : Hid (Val.lead s.data.toList = n)) :
    Calls Tryz.prog 160 #[.string s] w fun e w' => e = .returned (.int .i64 (n : Int)) ∧ w = w' := by
  have hg : Val.sgn s.data.toList = 1 := by rw [sgn_byte s h0, if_pos (by omega)]
  have b0 : decide ((0 : Int) < (s.size : Int)) = true := decide_eq_true (by omega)
  have b0' : decide ((s.size : Int) > 0) = true := decide_eq_true (by omega)
  have b1 : (((s[0]).toNat : Int) == 43) = false := by simp; omega
  have b2 : (((s[0]).toNat : Int) == 45) = true := by simp; omega
  clear h1
  replace hg := Lib.hid hg
  go_enter Tryz.func160, Tryz.ntmps160
  go_wp2
  go_loop [3] (fun i => ∃ k : Nat, i = .int .i64 (k : Int) ∧ 1 ≤ k ∧ k ≤ s.size ∧ Hid (∀ c ∈ (s.data.toList.drop 1).take (k - 1), Val.isDigit c = true)) (fun i => s.size - (intOf i).toNat)
  case atStart => exact ⟨1, by go_num, by omega, by omega, Lib.hid (by simp)⟩
  case round =>
    obtain ⟨k, rfl, hgk, hk, hq⟩ := hrel
    by_cases hlt : k < s.size
    · have hlB : decide ((k : Int) < (s.size : Int)) = true := decide_eq_true (by omega)
      have c8 := (s[k]).toNat_lt
      by_cases hc : 48 ≤ (s[k]).toNat ∧ (s[k]).toNat ≤ 57
      · have hst := digs_step s 1 k hgk hlt hc hq.out
        replace hst := Lib.hid hst
        clear hq
        have d1 : decide (((s[k]).toNat : Int) ≥ 48) = true := decide_eq_true (by omega)
        have d2 : decide (((s[k]).toNat : Int) ≤ 57) = true := decide_eq_true (by omega)
        clear hc
        go_wp2
        go_round
        case rel => exact ⟨k + 1, by go_num, by omega, by omega, hst⟩
        case measure => simp [intOf]; omega
      · have hL := (lead_at s 1 k hg.out hgk hk hq.out (fun _ => hc)).symm.trans hn.out
        clear hq hn
        by_cases hlo : (s[k]).toNat < 48
        · have d1 : decide (((s[k]).toNat : Int) ≥ 48) = false := decide_eq_false (by omega)
          clear hc hlo
          by_cases hkg : k = 1
          · rw [if_pos hkg] at hL
            subst hL
            have e1 : ((k : Int) == 1) = true := by simp; omega
            clear hkg
            go_wp2
            go_ret
            exact ⟨rfl, rfl⟩
          · rw [if_neg hkg] at hL
            subst hL
            have e1 : ((k : Int) == 1) = false := by simp; omega
            go_wp2
            go_ret
            exact ⟨rfl, rfl⟩
        · have d1 : decide (((s[k]).toNat : Int) ≥ 48) = true := decide_eq_true (by omega)
          have d2 : decide (((s[k]).toNat : Int) ≤ 57) = false := decide_eq_false (by omega)
          clear hc hlo
          by_cases hkg : k = 1
          · rw [if_pos hkg] at hL
            subst hL
            have e1 : ((k : Int) == 1) = true := by simp; omega
            clear hkg
            go_wp2
            go_ret
            exact ⟨rfl, rfl⟩
          · rw [if_neg hkg] at hL
            subst hL
            have e1 : ((k : Int) == 1) = false := by simp; omega
            go_wp2
            go_ret
            exact ⟨rfl, rfl⟩
    · have hlB : decide ((k : Int) < (s.size : Int)) = false := decide_eq_false (by omega)
      have hL := (lead_at s 1 k hg.out hgk hk hq.out (fun h => absurd h hlt)).symm.trans hn.out
      clear hq hn
      by_cases hkg : k = 1
      · rw [if_pos hkg] at hL
        subst hL
        have e1 : ((k : Int) == 1) = true := by simp; omega
        clear hkg
        go_wp2
        go_ret
        exact ⟨rfl, rfl⟩
      · rw [if_neg hkg] at hL
        subst hL
        have e1 : ((k : Int) == 1) = false := by simp; omega
        go_wp2
        go_ret
        exact ⟨rfl, rfl⟩
theorem cdigits_is (s : ByteArray) (w : World) (hs : s.size ≤ 1048576) (n : Nat) (hn : Hid (Val.lead s.data.toList = n)) :
    Calls Tryz.prog 160 #[.string s] w fun e w' => e = .returned (.int .i64 (n : Int)) ∧ w = w' := by
  by_cases h0 : s.size = 0
  · exact cdigits_A s w hs h0 n hn
  · have h0' : 0 < s.size := by omega
    by_cases h1 : (s[0]).toNat = 43
    · exact cdigits_B s w hs h0' h1 n hn
    · by_cases h2 : (s[0]).toNat = 45
      · exact cdigits_D s w hs h0' h2 n hn
      · exact cdigits_C s w hs h0' h1 h2 n hn

set_option maxHeartbeats 1000000 in
theorem rlead_A (s : ByteArray) (w : World) (hs : s.size ≤ 1048576) (h0 : s.size = 0) (n : Nat) (hn : Hid (Val.lead s.data.toList = n)) :
    Calls Tryz.prog 121 #[.string s] w fun e w' => e = .returned (.int .i64 (n : Int)) ∧ w = w' := by
  have hg : Val.sgn s.data.toList = 0 := sgn_empty s h0
  have b0 : decide ((0 : Int) < (s.size : Int)) = false := decide_eq_false (by omega)
  have b0' : decide ((s.size : Int) > 0) = false := decide_eq_false (by omega)
  replace hg := Lib.hid hg
  go_enter Tryz.func121, Tryz.ntmps121
  go_wp2
  go_loop [4] (fun i => ∃ k : Nat, i = .int .i64 (k : Int) ∧ 0 ≤ k ∧ k ≤ s.size ∧ Hid (∀ c ∈ (s.data.toList.drop 0).take (k - 0), Val.isDigit c = true)) (fun i => s.size - (intOf i).toNat)
  case atStart => exact ⟨0, by go_num, by omega, by omega, Lib.hid (by simp)⟩
  case round =>
    obtain ⟨k, rfl, hgk, hk, hq⟩ := hrel
    by_cases hlt : k < s.size
    · exact absurd hlt (by omega)
    · have hlB : decide ((k : Int) < (s.size : Int)) = false := decide_eq_false (by omega)
      have hL := (lead_at s 0 k hg.out hgk hk hq.out (fun h => absurd h hlt)).symm.trans hn.out
      clear hq hn
      by_cases hkg : k = 0
      · rw [if_pos hkg] at hL
        subst hL
        have e1 : ((k : Int) == 0) = true := by simp; omega
        clear hkg
        go_wp2
        go_ret
        exact ⟨rfl, rfl⟩
      · exact absurd (show k = 0 by omega) hkg
set_option maxHeartbeats 1000000 in
theorem rlead_C (s : ByteArray) (w : World) (hs : s.size ≤ 1048576) (h0 : 0 < s.size) (h1 : (s[0]).toNat ≠ 43) (h2 : (s[0]).toNat ≠ 45) (n : Nat) (hn : Hid (Val.lead s.data.toList = n)) :
    Calls Tryz.prog 121 #[.string s] w fun e w' => e = .returned (.int .i64 (n : Int)) ∧ w = w' := by
  have hg : Val.sgn s.data.toList = 0 := by rw [sgn_byte s h0, if_neg (by omega)]
  have b0 : decide ((0 : Int) < (s.size : Int)) = true := decide_eq_true (by omega)
  have b0' : decide ((s.size : Int) > 0) = true := decide_eq_true (by omega)
  have b1 : (((s[0]).toNat : Int) == 43) = false := by simp; omega
  have b2 : (((s[0]).toNat : Int) == 45) = false := by simp; omega
  clear h1 h2
  replace hg := Lib.hid hg
  go_enter Tryz.func121, Tryz.ntmps121
  go_wp2
  go_loop [4] (fun i => ∃ k : Nat, i = .int .i64 (k : Int) ∧ 0 ≤ k ∧ k ≤ s.size ∧ Hid (∀ c ∈ (s.data.toList.drop 0).take (k - 0), Val.isDigit c = true)) (fun i => s.size - (intOf i).toNat)
  case atStart => exact ⟨0, by go_num, by omega, by omega, Lib.hid (by simp)⟩
  case round =>
    obtain ⟨k, rfl, hgk, hk, hq⟩ := hrel
    by_cases hlt : k < s.size
    · have hlB : decide ((k : Int) < (s.size : Int)) = true := decide_eq_true (by omega)
      have c8 := (s[k]).toNat_lt
      by_cases hc : 48 ≤ (s[k]).toNat ∧ (s[k]).toNat ≤ 57
      · have hst := digs_step s 0 k hgk hlt hc hq.out
        replace hst := Lib.hid hst
        clear hq
        have hd : Hid (Val.isDigit s[k] = true) := Lib.hid (by simp [Val.isDigit]; omega)
        clear hc
        go_wp2_with (go_at_call 157; refine (rdig_any _ _ _ hd).mono ?_; rintro e w1 ⟨rfl, rfl⟩)
        go_round
        case rel => exact ⟨k + 1, by go_num, by omega, by omega, hst⟩
        case measure => simp [intOf]; omega
      · have hL := (lead_at s 0 k hg.out hgk hk hq.out (fun _ => hc)).symm.trans hn.out
        clear hq hn
        have hd : Hid (Val.isDigit s[k] = false) := Lib.hid (by simp [Val.isDigit]; omega)
        clear hc
        by_cases hkg : k = 0
        · rw [if_pos hkg] at hL
          subst hL
          have e1 : ((k : Int) == 0) = true := by simp; omega
          clear hkg
          go_wp2_with (go_at_call 157; refine (rdig_any _ _ _ hd).mono ?_; rintro e w1 ⟨rfl, rfl⟩)
          go_ret
          exact ⟨rfl, rfl⟩
        · rw [if_neg hkg] at hL
          subst hL
          have e1 : ((k : Int) == 0) = false := by simp; omega
          go_wp2_with (go_at_call 157; refine (rdig_any _ _ _ hd).mono ?_; rintro e w1 ⟨rfl, rfl⟩)
          go_ret
          exact ⟨rfl, rfl⟩
    · have hlB : decide ((k : Int) < (s.size : Int)) = false := decide_eq_false (by omega)
      have hL := (lead_at s 0 k hg.out hgk hk hq.out (fun h => absurd h hlt)).symm.trans hn.out
      clear hq hn
      by_cases hkg : k = 0
      · rw [if_pos hkg] at hL
        subst hL
        have e1 : ((k : Int) == 0) = true := by simp; omega
        clear hkg
        go_wp2
        go_ret
        exact ⟨rfl, rfl⟩
      · rw [if_neg hkg] at hL
        subst hL
        have e1 : ((k : Int) == 0) = false := by simp; omega
        go_wp2
        go_ret
        exact ⟨rfl, rfl⟩
set_option maxHeartbeats 1000000 in
theorem rlead_B (s : ByteArray) (w : World) (hs : s.size ≤ 1048576) (h0 : 0 < s.size) (h1 : (s[0]).toNat = 43) (n : Nat) (hn : Hid (Val.lead s.data.toList = n)) :
    Calls Tryz.prog 121 #[.string s] w fun e w' => e = .returned (.int .i64 (n : Int)) ∧ w = w' := by
  have hg : Val.sgn s.data.toList = 1 := by rw [sgn_byte s h0, if_pos (by omega)]
  have b0 : decide ((0 : Int) < (s.size : Int)) = true := decide_eq_true (by omega)
  have b0' : decide ((s.size : Int) > 0) = true := decide_eq_true (by omega)
  have b1 : (((s[0]).toNat : Int) == 43) = true := by simp; omega
  clear h1
  replace hg := Lib.hid hg
  go_enter Tryz.func121, Tryz.ntmps121
  go_wp2
  go_loop [4] (fun i => ∃ k : Nat, i = .int .i64 (k : Int) ∧ 1 ≤ k ∧ k ≤ s.size ∧ Hid (∀ c ∈ (s.data.toList.drop 1).take (k - 1), Val.isDigit c = true)) (fun i => s.size - (intOf i).toNat)
  case atStart => exact ⟨1, by go_num, by omega, by omega, Lib.hid (by simp)⟩
  case round =>
    obtain ⟨k, rfl, hgk, hk, hq⟩ := hrel
    by_cases hlt : k < s.size
    · have hlB : decide ((k : Int) < (s.size : Int)) = true := decide_eq_true (by omega)
      have c8 := (s[k]).toNat_lt
      by_cases hc : 48 ≤ (s[k]).toNat ∧ (s[k]).toNat ≤ 57
      · have hst := digs_step s 1 k hgk hlt hc hq.out
        replace hst := Lib.hid hst
        clear hq
        have hd : Hid (Val.isDigit s[k] = true) := Lib.hid (by simp [Val.isDigit]; omega)
        clear hc
        go_wp2_with (go_at_call 157; refine (rdig_any _ _ _ hd).mono ?_; rintro e w1 ⟨rfl, rfl⟩)
        go_round
        case rel => exact ⟨k + 1, by go_num, by omega, by omega, hst⟩
        case measure => simp [intOf]; omega
      · have hL := (lead_at s 1 k hg.out hgk hk hq.out (fun _ => hc)).symm.trans hn.out
        clear hq hn
        have hd : Hid (Val.isDigit s[k] = false) := Lib.hid (by simp [Val.isDigit]; omega)
        clear hc
        by_cases hkg : k = 1
        · rw [if_pos hkg] at hL
          subst hL
          have e1 : ((k : Int) == 1) = true := by simp; omega
          clear hkg
          go_wp2_with (go_at_call 157; refine (rdig_any _ _ _ hd).mono ?_; rintro e w1 ⟨rfl, rfl⟩)
          go_ret
          exact ⟨rfl, rfl⟩
        · rw [if_neg hkg] at hL
          subst hL
          have e1 : ((k : Int) == 1) = false := by simp; omega
          go_wp2_with (go_at_call 157; refine (rdig_any _ _ _ hd).mono ?_; rintro e w1 ⟨rfl, rfl⟩)
          go_ret
          exact ⟨rfl, rfl⟩
    · have hlB : decide ((k : Int) < (s.size : Int)) = false := decide_eq_false (by omega)
      have hL := (lead_at s 1 k hg.out hgk hk hq.out (fun h => absurd h hlt)).symm.trans hn.out
      clear hq hn
      by_cases hkg : k = 1
      · rw [if_pos hkg] at hL
        subst hL
        have e1 : ((k : Int) == 1) = true := by simp; omega
        clear hkg
        go_wp2
        go_ret
        exact ⟨rfl, rfl⟩
      · rw [if_neg hkg] at hL
        subst hL
        have e1 : ((k : Int) == 1) = false := by simp; omega
        go_wp2
        go_ret
        exact ⟨rfl, rfl⟩
set_option maxHeartbeats 1000000 in
theorem rlead_D (s : ByteArray) (w : World) (hs : s.size ≤ 1048576) (h0 : 0 < s.size) (h1 : (s[0]).toNat = 45) (n : Nat) (hn : Hid (Val.lead s.data.toList = n)) :
    Calls Tryz.prog 121 #[.string s] w fun e w' => e = .returned (.int .i64 (n : Int)) ∧ w = w' := by
  have hg : Val.sgn s.data.toList = 1 := by rw [sgn_byte s h0, if_pos (by omega)]
  have b0 : decide ((0 : Int) < (s.size : Int)) = true := decide_eq_true (by omega)
  have b0' : decide ((s.size : Int) > 0) = true := decide_eq_true (by omega)
  have b1 : (((s[0]).toNat : Int) == 43) = false := by simp; omega
  have b2 : (((s[0]).toNat : Int) == 45) = true := by simp; omega
  clear h1
  replace hg := Lib.hid hg
  go_enter Tryz.func121, Tryz.ntmps121
  go_wp2
  go_loop [4] (fun i => ∃ k : Nat, i = .int .i64 (k : Int) ∧ 1 ≤ k ∧ k ≤ s.size ∧ Hid (∀ c ∈ (s.data.toList.drop 1).take (k - 1), Val.isDigit c = true)) (fun i => s.size - (intOf i).toNat)
  case atStart => exact ⟨1, by go_num, by omega, by omega, Lib.hid (by simp)⟩
  case round =>
    obtain ⟨k, rfl, hgk, hk, hq⟩ := hrel
    by_cases hlt : k < s.size
    · have hlB : decide ((k : Int) < (s.size : Int)) = true := decide_eq_true (by omega)
      have c8 := (s[k]).toNat_lt
      by_cases hc : 48 ≤ (s[k]).toNat ∧ (s[k]).toNat ≤ 57
      · have hst := digs_step s 1 k hgk hlt hc hq.out
        replace hst := Lib.hid hst
        clear hq
        have hd : Hid (Val.isDigit s[k] = true) := Lib.hid (by simp [Val.isDigit]; omega)
        clear hc
        go_wp2_with (go_at_call 157; refine (rdig_any _ _ _ hd).mono ?_; rintro e w1 ⟨rfl, rfl⟩)
        go_round
        case rel => exact ⟨k + 1, by go_num, by omega, by omega, hst⟩
        case measure => simp [intOf]; omega
      · have hL := (lead_at s 1 k hg.out hgk hk hq.out (fun _ => hc)).symm.trans hn.out
        clear hq hn
        have hd : Hid (Val.isDigit s[k] = false) := Lib.hid (by simp [Val.isDigit]; omega)
        clear hc
        by_cases hkg : k = 1
        · rw [if_pos hkg] at hL
          subst hL
          have e1 : ((k : Int) == 1) = true := by simp; omega
          clear hkg
          go_wp2_with (go_at_call 157; refine (rdig_any _ _ _ hd).mono ?_; rintro e w1 ⟨rfl, rfl⟩)
          go_ret
          exact ⟨rfl, rfl⟩
        · rw [if_neg hkg] at hL
          subst hL
          have e1 : ((k : Int) == 1) = false := by simp; omega
          go_wp2_with (go_at_call 157; refine (rdig_any _ _ _ hd).mono ?_; rintro e w1 ⟨rfl, rfl⟩)
          go_ret
          exact ⟨rfl, rfl⟩
    · have hlB : decide ((k : Int) < (s.size : Int)) = false := decide_eq_false (by omega)
      have hL := (lead_at s 1 k hg.out hgk hk hq.out (fun h => absurd h hlt)).symm.trans hn.out
      clear hq hn
      by_cases hkg : k = 1
      · rw [if_pos hkg] at hL
        subst hL
        have e1 : ((k : Int) == 1) = true := by simp; omega
        clear hkg
        go_wp2
        go_ret
        exact ⟨rfl, rfl⟩
      · rw [if_neg hkg] at hL
        subst hL
        have e1 : ((k : Int) == 1) = false := by simp; omega
        go_wp2
        go_ret
        exact ⟨rfl, rfl⟩
theorem rlead_is (s : ByteArray) (w : World) (hs : s.size ≤ 1048576) (n : Nat) (hn : Hid (Val.lead s.data.toList = n)) :
    Calls Tryz.prog 121 #[.string s] w fun e w' => e = .returned (.int .i64 (n : Int)) ∧ w = w' := by
  by_cases h0 : s.size = 0
  · exact rlead_A s w hs h0 n hn
  · have h0' : 0 < s.size := by omega
    by_cases h1 : (s[0]).toNat = 43
    · exact rlead_B s w hs h0' h1 n hn
    · by_cases h2 : (s[0]).toNat = 45
      · exact rlead_D s w hs h0' h2 n hn
      · exact rlead_C s w hs h0' h1 h2 n hn

end Go.Proofs.YtmkgalcojoeniaaGreatDoor
