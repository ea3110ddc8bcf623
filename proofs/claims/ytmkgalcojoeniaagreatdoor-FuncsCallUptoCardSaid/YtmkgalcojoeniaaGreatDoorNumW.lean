/- Walks: Number of the reference. -/
import Derived.Test.YtmkgalcojoeniaaGreatDoorPlain
import Derived.Test.YtmkgalcojoeniaaGreatDoorValW
import Derived.Test.YtmkgalcojoeniaaGreatDoorCmpA
set_option maxRecDepth 100000
set_option linter.unusedVariables false
set_option linter.unusedSimpArgs false
namespace Go.Proofs.YtmkgalcojoeniaaGreatDoor
open Go.RowKit

/-- what Number answers -/
def NumP (R : Option Int) (w : World) (e : Ending) (w' : World) : Prop :=
  e = .returned (match R with | some n => .tuple #[.int .i64 n, .bool true] | none => .tuple #[.int .i64 0, .bool false]) ∧ w = w'
theorem tdiv_pos (c : Int) (h : 48 ≤ c) (h2 : c ≤ 57) : Int.tdiv (9223372036854775807 - (c - 48)) 10 = (9223372036854775807 - (c - 48)) / 10 := Int.tdiv_eq_ediv_of_nonneg (by omega)
theorem tdiv_neg' (c : Int) (h : 48 ≤ c) (h2 : c ≤ 57) : Int.tdiv (-9223372036854775808 + (c - 48)) 10 = -((9223372036854775808 - (c - 48)) / 10) := by
  have e : -9223372036854775808 + (c - 48) = -(9223372036854775808 - (c - 48)) := by omega
  rw [e, Int.neg_tdiv, Int.tdiv_eq_ediv_of_nonneg (by omega)]

set_option maxHeartbeats 2000000 in
theorem rnum_pos (s : ByteArray) (w : World) (hs : s.size ≤ 1000) (hp : 0 < s.size) (h45 : (s[0]).toNat ≠ 45) (h48 : ¬ ((s[0]).toNat = 48 ∧ 1 < s.size)) (R : Option Int) (hR : Hid (Val.numFrom false 0 (s.data.toList.drop 0) = R)) :
    Calls Tryz.prog 158 #[.string s] w (NumP R w) := by
  have b0 : decide ((s.size : Int) > 0) = true := decide_eq_true (by omega)
  have b1 : (((s[0]).toNat : Int) == 45) = false := by simp; omega
  have b2 : ((0 : Int) == (s.size : Int)) = false := by simp; omega
  have hcase : (((s[0]).toNat : Int) == 48) = false ∨ ((((s[0]).toNat : Int) == 48) = true ∧ decide ((s.size : Int) > 1) = false) := by
    by_cases h : (s[0]).toNat = 48
    · right
      exact ⟨by simp; omega, decide_eq_false (by omega)⟩
    · left; simp; omega
  clear h45 h48
  go_enter Tryz.func158, Tryz.ntmps158
  rcases hcase with b3 | ⟨b3, b4⟩
  all_goals (
    go_wp2
    go_loop [4, 5] (fun av iv => ∃ (a : Int) (k : Nat), av = .int .i64 a ∧ iv = .int .i64 (k : Int) ∧ k ≤ s.size ∧ 0 ≤ a ∧ a ≤ 9223372036854775807 ∧ Hid (Val.numFrom false a (s.data.toList.drop k) = R)) (fun _ iv => s.size - (intOf iv).toNat)
    case atStart => exact ⟨0, 0, rfl, by go_num, by omega, by omega, by omega, hR⟩
    case round =>
      obtain ⟨a, k, rfl, rfl, hk, ha0, ha1, hq⟩ := hrel
      by_cases hlt : k < s.size
      · have hlB : decide ((k : Int) < (s.size : Int)) = true := by simp; omega
        have hdr := dropc s k hlt
        rw [hdr] at hq
        have c8 := (s[k]).toNat_lt
        by_cases hc : 48 ≤ (s[k]).toNat ∧ (s[k]).toNat ≤ 57
        · have e1 : decide (((s[k]).toNat : Int) < 48) = false := by simp; omega
          have e2 : decide (((s[k]).toNat : Int) > 57) = false := by simp; omega
          have e3 : (48 : Int) ≤ ((s[k]).toNat : Int) := by omega
          have e4 : ((s[k]).toNat : Int) ≤ 57 := by omega
          by_cases ho : a > Int.tdiv (9223372036854775807 - (((s[k]).toNat : Int) - 48)) 10
          · have hn := (Val.numFrom_none (s.data.toList.drop (k + 1)) (show Val.stepN false a s[k] = none by rw [Val.stepN, if_pos hc, if_neg (by decide), if_pos ho])).symm.trans hq.out
            have hoB : decide (a > Int.tdiv (9223372036854775807 - (((s[k]).toNat : Int) - 48)) 10) = true := decide_eq_true ho
            have g1 : ¬ a ≤ (9223372036854775807 - (((s[k]).toNat : Int) - 48)) / 10 := by rw [tdiv_pos _ e3 e4] at ho; omega
            subst hn
            clear hdr hq hR hc
            go_wp2
            go_ret2
            exact ⟨rfl, rfl⟩
          · have hn := (Val.numFrom_some (s.data.toList.drop (k + 1)) (show Val.stepN false a s[k] = some (a * 10 + (((s[k]).toNat : Int) - 48)) by rw [Val.stepN, if_pos hc, if_neg (by decide), if_neg ho])).symm.trans hq.out
            have hoB : decide (a > Int.tdiv (9223372036854775807 - (((s[k]).toNat : Int) - 48)) 10) = false := decide_eq_false ho
            have g1 : a ≤ (9223372036854775807 - (((s[k]).toNat : Int) - 48)) / 10 := by rw [tdiv_pos _ e3 e4] at ho; omega
            have m1 : -9223372036854775808 ≤ a * 10 := by omega
            have m2 : a * 10 ≤ 9223372036854775807 := by omega
            have m3 : -9223372036854775808 ≤ (a * 10 + (((s[k]).toNat : Int) - 48)) := by omega
            have m4 : (a * 10 + (((s[k]).toNat : Int) - 48)) ≤ 9223372036854775807 := by omega
            replace hn := Lib.hid hn
            clear hdr hq hR hc
            go_wp2
            go_round
            case rel => exact ⟨(a * 10 + (((s[k]).toNat : Int) - 48)), k + 1, by first | rfl | go_num, by go_num, by omega, by omega, by omega, hn⟩
            case measure => simp [intOf]; omega
        · have hn := (Val.numFrom_none (s.data.toList.drop (k + 1)) (show Val.stepN false a s[k] = none by rw [Val.stepN, if_neg hc])).symm.trans hq.out
          subst hn
          by_cases hlo : (s[k]).toNat < 48
          · have e1 : decide (((s[k]).toNat : Int) < 48) = true := by simp; omega
            clear hdr hq hR hc
            go_wp2
            go_ret2
            exact ⟨rfl, rfl⟩
          · have e1 : decide (((s[k]).toNat : Int) < 48) = false := by simp; omega
            have e2 : decide (((s[k]).toNat : Int) > 57) = true := by simp; omega
            clear hdr hq hR hc
            go_wp2
            go_ret2
            exact ⟨rfl, rfl⟩
      · have hlB : decide ((k : Int) < (s.size : Int)) = false := by simp; omega
        have hn : some a = R := by
          rw [← hq.out, List.drop_of_length_le (Nat.le_of_not_lt hlt), Val.numFrom_nil]
        subst hn
        clear hq hR
        go_wp2
        go_ret2
        exact ⟨rfl, rfl⟩)

set_option maxHeartbeats 2000000 in
theorem rnum_neg (s : ByteArray) (w : World) (hs : s.size ≤ 1000) (hp : 1 < s.size) (h45 : (s[0]).toNat = 45) (h48 : (s[1]).toNat ≠ 48) (R : Option Int) (hR : Hid (Val.numFrom true 0 (s.data.toList.drop 1) = R)) :
    Calls Tryz.prog 158 #[.string s] w (NumP R w) := by
  have hp0 : 0 < s.size := by omega
  have b0 : decide ((s.size : Int) > 0) = true := decide_eq_true (by omega)
  have b1 : (((s[0]).toNat : Int) == 45) = true := by simp; omega
  have b2 : ((1 : Int) == (s.size : Int)) = false := by simp; omega
  have b3 : (((s[1]).toNat : Int) == 48) = false := by simp; omega
  clear h45 h48
  go_enter Tryz.func158, Tryz.ntmps158
  all_goals (
    go_wp2
    go_loop [4, 5] (fun av iv => ∃ (a : Int) (k : Nat), av = .int .i64 a ∧ iv = .int .i64 (k : Int) ∧ k ≤ s.size ∧ -9223372036854775808 ≤ a ∧ a ≤ 0 ∧ Hid (Val.numFrom true a (s.data.toList.drop k) = R)) (fun _ iv => s.size - (intOf iv).toNat)
    case atStart => exact ⟨0, 1, rfl, by go_num, by omega, by omega, by omega, hR⟩
    case round =>
      obtain ⟨a, k, rfl, rfl, hk, ha0, ha1, hq⟩ := hrel
      by_cases hlt : k < s.size
      · have hlB : decide ((k : Int) < (s.size : Int)) = true := by simp; omega
        have hdr := dropc s k hlt
        rw [hdr] at hq
        have c8 := (s[k]).toNat_lt
        by_cases hc : 48 ≤ (s[k]).toNat ∧ (s[k]).toNat ≤ 57
        · have e1 : decide (((s[k]).toNat : Int) < 48) = false := by simp; omega
          have e2 : decide (((s[k]).toNat : Int) > 57) = false := by simp; omega
          have e3 : (48 : Int) ≤ ((s[k]).toNat : Int) := by omega
          have e4 : ((s[k]).toNat : Int) ≤ 57 := by omega
          by_cases ho : a < Int.tdiv (-9223372036854775808 + (((s[k]).toNat : Int) - 48)) 10
          · have hn := (Val.numFrom_none (s.data.toList.drop (k + 1)) (show Val.stepN true a s[k] = none by rw [Val.stepN, if_pos hc, if_pos rfl, if_pos ho])).symm.trans hq.out
            have hoB : decide (a < Int.tdiv (-9223372036854775808 + (((s[k]).toNat : Int) - 48)) 10) = true := decide_eq_true ho
            have g1 : ¬ -((9223372036854775808 - (((s[k]).toNat : Int) - 48)) / 10) ≤ a := by rw [tdiv_neg' _ e3 e4] at ho; omega
            subst hn
            clear hdr hq hR hc
            go_wp2
            go_ret2
            exact ⟨rfl, rfl⟩
          · have hn := (Val.numFrom_some (s.data.toList.drop (k + 1)) (show Val.stepN true a s[k] = some (a * 10 - (((s[k]).toNat : Int) - 48)) by rw [Val.stepN, if_pos hc, if_pos rfl, if_neg ho])).symm.trans hq.out
            have hoB : decide (a < Int.tdiv (-9223372036854775808 + (((s[k]).toNat : Int) - 48)) 10) = false := decide_eq_false ho
            have g1 : -((9223372036854775808 - (((s[k]).toNat : Int) - 48)) / 10) ≤ a := by rw [tdiv_neg' _ e3 e4] at ho; omega
            have m1 : -9223372036854775808 ≤ a * 10 := by omega
            have m2 : a * 10 ≤ 9223372036854775807 := by omega
            have m3 : -9223372036854775808 ≤ (a * 10 - (((s[k]).toNat : Int) - 48)) := by omega
            have m4 : (a * 10 - (((s[k]).toNat : Int) - 48)) ≤ 9223372036854775807 := by omega
            replace hn := Lib.hid hn
            clear hdr hq hR hc
            go_wp2
            go_round
            case rel => exact ⟨(a * 10 - (((s[k]).toNat : Int) - 48)), k + 1, by first | rfl | go_num, by go_num, by omega, by omega, by omega, hn⟩
            case measure => simp [intOf]; omega
        · have hn := (Val.numFrom_none (s.data.toList.drop (k + 1)) (show Val.stepN true a s[k] = none by rw [Val.stepN, if_neg hc])).symm.trans hq.out
          subst hn
          by_cases hlo : (s[k]).toNat < 48
          · have e1 : decide (((s[k]).toNat : Int) < 48) = true := by simp; omega
            clear hdr hq hR hc
            go_wp2
            go_ret2
            exact ⟨rfl, rfl⟩
          · have e1 : decide (((s[k]).toNat : Int) < 48) = false := by simp; omega
            have e2 : decide (((s[k]).toNat : Int) > 57) = true := by simp; omega
            clear hdr hq hR hc
            go_wp2
            go_ret2
            exact ⟨rfl, rfl⟩
      · have hlB : decide ((k : Int) < (s.size : Int)) = false := by simp; omega
        have hn : some a = R := by
          rw [← hq.out, List.drop_of_length_le (Nat.le_of_not_lt hlt), Val.numFrom_nil]
        subst hn
        clear hq hR
        go_wp2
        go_ret2
        exact ⟨rfl, rfl⟩)

end Go.Proofs.YtmkgalcojoeniaaGreatDoor
