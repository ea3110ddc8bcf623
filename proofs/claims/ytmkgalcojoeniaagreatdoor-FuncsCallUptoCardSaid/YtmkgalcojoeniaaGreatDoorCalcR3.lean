/- Walks: the arithmetic, the logic, the comparing of the reference of layer 3. -/
import Derived.Test.YtmkgalcojoeniaaGreatDoorCalcRa
import Derived.Test.YtmkgalcojoeniaaGreatDoorPlain
set_option maxRecDepth 100000
set_option linter.unusedVariables false
set_option linter.unusedSimpArgs false
namespace Go.Proofs.YtmkgalcojoeniaaGreatDoor
open Go.RowKit

theorem mk_zero {k n : Int} (h : Val.zero = ⟨k, n, []⟩) : k = 0 ∧ n = 0 := by simp only [Val.zero, Val.V.mk.injEq, and_true] at h; exact ⟨h.1.symm, h.2.symm⟩
theorem mk_one {k n m : Int} (h : (⟨1, m, []⟩ : Val.V) = ⟨k, n, []⟩) : k = 1 ∧ n = m := by simp only [Val.V.mk.injEq, and_true] at h; exact ⟨h.1.symm, h.2.symm⟩
set_option maxHeartbeats 1000000 in
theorem rsum_is (x y : Int) (w : World) (hx : Val.inr x) (hy : Val.inr y) (k n : Int) (hv : Hid (Val.fit (x + y) = ⟨k, n, []⟩)) : Calls Tryz.prog 125 #[.int .i64 x, .int .i64 y] w (VRet k n ⟨#[]⟩ w) := by
  have hS := start1 w (.int .i64 0) (.int .i64 0) (.string ⟨#[]⟩) 25
  have x1 := hx.1
  have x2 := hx.2
  have y1 := hy.1
  have y2 := hy.2
  by_cases hi : Val.inr (x + y)
  · obtain ⟨rfl, rfl⟩ := mk_one ((Val.fit_in hi).symm.trans hv.out)
    have s1 := hi.1
    have s2 := hi.2
    clear hi hx hy hv
    rcases Int.lt_trichotomy y 0 with h | h | h
    · have b1 : decide (y > 0) = false := decide_eq_false (by omega)
      have b2 : decide (y < 0) = true := decide_eq_true h
      have b3 : decide (x < -9223372036854775808 - y) = false := decide_eq_false (by omega)
      go_enter Tryz.func125, Tryz.ntmps125
      go_wp2_with (go_at_call 20; refine (rint_any _ _).mono ?_; rintro e w1 ⟨rfl, hb⟩; have hS1 := keep1 hS hb; obtain ⟨ca0, ca1, ca2, ca3, ca4, ca5, hz, hB⟩ := id hS1)
      exact bodyPost_ret (v := .agg #[.int .i64 1, .int .i64 (x + y), .string ⟨#[]⟩]) (by simp only [results, Tryz.results125]; go_simp) rfl ⟨rfl, below_setg hB (Nat.le_refl _)⟩
    · have b1 : decide (y > 0) = false := decide_eq_false (by omega)
      have b2 : decide (y < 0) = false := decide_eq_false (by omega)
      clear h
      go_enter Tryz.func125, Tryz.ntmps125
      go_wp2_with (go_at_call 20; refine (rint_any _ _).mono ?_; rintro e w1 ⟨rfl, hb⟩; have hS1 := keep1 hS hb; obtain ⟨ca0, ca1, ca2, ca3, ca4, ca5, hz, hB⟩ := id hS1)
      exact bodyPost_ret (v := .agg #[.int .i64 1, .int .i64 (x + y), .string ⟨#[]⟩]) (by simp only [results, Tryz.results125]; go_simp) rfl ⟨rfl, below_setg hB (Nat.le_refl _)⟩
    · have b1 : decide (y > 0) = true := decide_eq_true h
      have b2 : decide (y < 0) = false := decide_eq_false (by omega)
      have b3 : decide (x > 9223372036854775807 - y) = false := decide_eq_false (by omega)
      go_enter Tryz.func125, Tryz.ntmps125
      go_wp2_with (go_at_call 20; refine (rint_any _ _).mono ?_; rintro e w1 ⟨rfl, hb⟩; have hS1 := keep1 hS hb; obtain ⟨ca0, ca1, ca2, ca3, ca4, ca5, hz, hB⟩ := id hS1)
      exact bodyPost_ret (v := .agg #[.int .i64 1, .int .i64 (x + y), .string ⟨#[]⟩]) (by simp only [results, Tryz.results125]; go_simp) rfl ⟨rfl, below_setg hB (Nat.le_refl _)⟩
  · obtain ⟨rfl, rfl⟩ := mk_zero ((Val.fit_out hi).symm.trans hv.out)
    have hc : (0 < y ∧ x > 9223372036854775807 - y) ∨ (y < 0 ∧ x < -9223372036854775808 - y) := by unfold Val.inr at *; omega
    clear hi hx hy hv
    rcases hc with ⟨h, hh⟩ | ⟨h, hh⟩
    · have b1 : decide (y > 0) = true := decide_eq_true h
      have b2 : decide (y < 0) = false := decide_eq_false (by omega)
      have b3 : decide (x > 9223372036854775807 - y) = true := decide_eq_true hh
      go_enter Tryz.func125, Tryz.ntmps125
      go_wp2_with (go_at_call 108; refine (rnull_any _).mono ?_; rintro e w1 ⟨rfl, hb⟩; have hS1 := keep1 hS hb; obtain ⟨ca0, ca1, ca2, ca3, ca4, ca5, hz, hB⟩ := id hS1)
      exact bodyPost_ret (v := .agg #[.int .i64 0, .int .i64 0, .string ⟨#[]⟩]) (by simp only [results, Tryz.results125]; go_simp) rfl ⟨rfl, below_setg hB (Nat.le_refl _)⟩
    · have b1 : decide (y > 0) = false := decide_eq_false (by omega)
      have b2 : decide (y < 0) = true := decide_eq_true h
      have b3 : decide (x < -9223372036854775808 - y) = true := decide_eq_true hh
      go_enter Tryz.func125, Tryz.ntmps125
      go_wp2_with (go_at_call 108; refine (rnull_any _).mono ?_; rintro e w1 ⟨rfl, hb⟩; have hS1 := keep1 hS hb; obtain ⟨ca0, ca1, ca2, ca3, ca4, ca5, hz, hB⟩ := id hS1)
      exact bodyPost_ret (v := .agg #[.int .i64 0, .int .i64 0, .string ⟨#[]⟩]) (by simp only [results, Tryz.results125]; go_simp) rfl ⟨rfl, below_setg hB (Nat.le_refl _)⟩

set_option maxHeartbeats 1000000 in
theorem rdiff_is (x y : Int) (w : World) (hx : Val.inr x) (hy : Val.inr y) (k n : Int) (hv : Hid (Val.fit (x - y) = ⟨k, n, []⟩)) : Calls Tryz.prog 64 #[.int .i64 x, .int .i64 y] w (VRet k n ⟨#[]⟩ w) := by
  have hS := start1 w (.int .i64 0) (.int .i64 0) (.string ⟨#[]⟩) 25
  have x1 := hx.1
  have x2 := hx.2
  have y1 := hy.1
  have y2 := hy.2
  by_cases hi : Val.inr (x - y)
  · obtain ⟨rfl, rfl⟩ := mk_one ((Val.fit_in hi).symm.trans hv.out)
    have s1 := hi.1
    have s2 := hi.2
    clear hi hx hy hv
    rcases Int.lt_trichotomy y 0 with h | h | h
    · have b1 : decide (y > 0) = false := decide_eq_false (by omega)
      have b2 : decide (y < 0) = true := decide_eq_true h
      have b3 : decide (x > 9223372036854775807 + y) = false := decide_eq_false (by omega)
      go_enter Tryz.func64, Tryz.ntmps64
      go_wp2_with (go_at_call 20; refine (rint_any _ _).mono ?_; rintro e w1 ⟨rfl, hb⟩; have hS1 := keep1 hS hb; obtain ⟨ca0, ca1, ca2, ca3, ca4, ca5, hz, hB⟩ := id hS1)
      exact bodyPost_ret (v := .agg #[.int .i64 1, .int .i64 (x - y), .string ⟨#[]⟩]) (by simp only [results, Tryz.results64]; go_simp) rfl ⟨rfl, below_setg hB (Nat.le_refl _)⟩
    · have b1 : decide (y > 0) = false := decide_eq_false (by omega)
      have b2 : decide (y < 0) = false := decide_eq_false (by omega)
      clear h
      go_enter Tryz.func64, Tryz.ntmps64
      go_wp2_with (go_at_call 20; refine (rint_any _ _).mono ?_; rintro e w1 ⟨rfl, hb⟩; have hS1 := keep1 hS hb; obtain ⟨ca0, ca1, ca2, ca3, ca4, ca5, hz, hB⟩ := id hS1)
      exact bodyPost_ret (v := .agg #[.int .i64 1, .int .i64 (x - y), .string ⟨#[]⟩]) (by simp only [results, Tryz.results64]; go_simp) rfl ⟨rfl, below_setg hB (Nat.le_refl _)⟩
    · have b1 : decide (y > 0) = true := decide_eq_true h
      have b2 : decide (y < 0) = false := decide_eq_false (by omega)
      have b3 : decide (x < -9223372036854775808 + y) = false := decide_eq_false (by omega)
      go_enter Tryz.func64, Tryz.ntmps64
      go_wp2_with (go_at_call 20; refine (rint_any _ _).mono ?_; rintro e w1 ⟨rfl, hb⟩; have hS1 := keep1 hS hb; obtain ⟨ca0, ca1, ca2, ca3, ca4, ca5, hz, hB⟩ := id hS1)
      exact bodyPost_ret (v := .agg #[.int .i64 1, .int .i64 (x - y), .string ⟨#[]⟩]) (by simp only [results, Tryz.results64]; go_simp) rfl ⟨rfl, below_setg hB (Nat.le_refl _)⟩
  · obtain ⟨rfl, rfl⟩ := mk_zero ((Val.fit_out hi).symm.trans hv.out)
    have hc : (0 < y ∧ x < -9223372036854775808 + y) ∨ (y < 0 ∧ x > 9223372036854775807 + y) := by unfold Val.inr at *; omega
    clear hi hx hy hv
    rcases hc with ⟨h, hh⟩ | ⟨h, hh⟩
    · have b1 : decide (y > 0) = true := decide_eq_true h
      have b2 : decide (y < 0) = false := decide_eq_false (by omega)
      have b3 : decide (x < -9223372036854775808 + y) = true := decide_eq_true hh
      go_enter Tryz.func64, Tryz.ntmps64
      go_wp2_with (go_at_call 108; refine (rnull_any _).mono ?_; rintro e w1 ⟨rfl, hb⟩; have hS1 := keep1 hS hb; obtain ⟨ca0, ca1, ca2, ca3, ca4, ca5, hz, hB⟩ := id hS1)
      exact bodyPost_ret (v := .agg #[.int .i64 0, .int .i64 0, .string ⟨#[]⟩]) (by simp only [results, Tryz.results64]; go_simp) rfl ⟨rfl, below_setg hB (Nat.le_refl _)⟩
    · have b1 : decide (y > 0) = false := decide_eq_false (by omega)
      have b2 : decide (y < 0) = true := decide_eq_true h
      have b3 : decide (x > 9223372036854775807 + y) = true := decide_eq_true hh
      go_enter Tryz.func64, Tryz.ntmps64
      go_wp2_with (go_at_call 108; refine (rnull_any _).mono ?_; rintro e w1 ⟨rfl, hb⟩; have hS1 := keep1 hS hb; obtain ⟨ca0, ca1, ca2, ca3, ca4, ca5, hz, hB⟩ := id hS1)
      exact bodyPost_ret (v := .agg #[.int .i64 0, .int .i64 0, .string ⟨#[]⟩]) (by simp only [results, Tryz.results64]; go_simp) rfl ⟨rfl, below_setg hB (Nat.le_refl _)⟩

theorem rcompare_is (op n : Int) (w : World) (ho : 13 ≤ op ∧ op ≤ 20) (b : Bool) (hb : Hid (Val.compare op n = b)) : Calls Tryz.prog 118 #[.int .i64 op, .int .i64 n] w fun e w' => e = .returned (.bool b) ∧ w = w' := by
  have hb' := hb.out
  clear hb
  rcases (show op = 13 ∨ op = 14 ∨ op = 15 ∨ op = 16 ∨ op = 17 ∨ op = 18 ∨ op = 19 ∨ op = 20 by omega) with rfl | rfl | rfl | rfl | rfl | rfl | rfl | rfl
  all_goals (
    simp (config := { decide := true }) only [Val.compare, if_true, if_false, true_or, or_true, false_or, or_false] at hb'
    subst hb'
    go_enter Tryz.func118, Tryz.ntmps118
    go_wp2
    go_ret
    refine ⟨ret_bool ?_, rfl⟩
    first | rfl | (rw [Bool.eq_iff_iff]; simp; done) | (rw [Bool.eq_iff_iff]; simp; omega))

end Go.Proofs.YtmkgalcojoeniaaGreatDoor
