/- Walks: the arithmetic, the logic, the comparing of the reference of layer 3. -/
import Derived.Test.YthdpgekjbkpomaaGreatDoorCalcR2
import Derived.Test.YthdpgekjbkpomaaGreatDoorPlain
set_option maxRecDepth 100000
set_option linter.unusedVariables false
set_option linter.unusedSimpArgs false
namespace Go.Proofs.YthdpgekjbkpomaaGreatDoor
open Go.RowKit

theorem mk_zero {k n : Int} (h : Val.zero = ⟨k, n, []⟩) : k = 0 ∧ n = 0 := by simp only [Val.zero, Val.V.mk.injEq, and_true] at h; exact ⟨h.1.symm, h.2.symm⟩
theorem mk_one {k n m : Int} (h : (⟨1, m, []⟩ : Val.V) = ⟨k, n, []⟩) : k = 1 ∧ n = m := by simp only [Val.V.mk.injEq, and_true] at h; exact ⟨h.1.symm, h.2.symm⟩
set_option maxHeartbeats 1000000 in
theorem rsum_is (x y : Int) (w : World) (hx : Val.inr x) (hy : Val.inr y) (k n : Int) (hv : Hid (Val.fit (x + y) = ⟨k, n, []⟩)) : Calls Tryz.prog 96 #[.int .i64 x, .int .i64 y] w (VRet k n ⟨#[]⟩ w) := by
  have hS := start1 w (.int .i64 0) (.int .i64 0) (.string ⟨#[]⟩) 24
  have x1 := hx.1
  have x2 := hx.2
  have y1 := hy.1
  have y2 := hy.2
  by_cases hi : Val.inr (x + y)
  · obtain ⟨rfl, rfl⟩ := mk_one ((Val.fit_in hi).symm.trans hv.out)
    have s1 := hi.1
    have s2 := hi.2
    clear hi hx hy hv
    rcases Int.lt_trichotomy y 0 with h | h | h
    · have b1 : decide (y > 0) = false := decide_eq_false (by omega)
      have b2 : decide (y < 0) = true := decide_eq_true h
      have b3 : decide (x < -9223372036854775808 - y) = false := decide_eq_false (by omega)
      go_enter Tryz.func96, Tryz.ntmps96
      go_wp2_with (go_at_call 36; refine (rint_any _ _).mono ?_; rintro e w1 ⟨rfl, hb⟩; have hS1 := keep1 hS hb; obtain ⟨ca0, ca1, ca2, ca3, ca4, ca5, hz, hB⟩ := id hS1)
      exact bodyPost_ret (v := .agg #[.int .i64 1, .int .i64 (x + y), .string ⟨#[]⟩]) (by simp only [results, Tryz.results96]; go_simp) rfl ⟨rfl, below_setg hB (Nat.le_refl _)⟩
    · have b1 : decide (y > 0) = false := decide_eq_false (by omega)
      have b2 : decide (y < 0) = false := decide_eq_false (by omega)
      clear h
      go_enter Tryz.func96, Tryz.ntmps96
      go_wp2_with (go_at_call 36; refine (rint_any _ _).mono ?_; rintro e w1 ⟨rfl, hb⟩; have hS1 := keep1 hS hb; obtain ⟨ca0, ca1, ca2, ca3, ca4, ca5, hz, hB⟩ := id hS1)
      exact bodyPost_ret (v := .agg #[.int .i64 1, .int .i64 (x + y), .string ⟨#[]⟩]) (by simp only [results, Tryz.results96]; go_simp) rfl ⟨rfl, below_setg hB (Nat.le_refl _)⟩
    · have b1 : decide (y > 0) = true := decide_eq_true h
      have b2 : decide (y < 0) = false := decide_eq_false (by omega)
      have b3 : decide (x > 9223372036854775807 - y) = false := decide_eq_false (by omega)
      go_enter Tryz.func96, Tryz.ntmps96
      go_wp2_with (go_at_call 36; refine (rint_any _ _).mono ?_; rintro e w1 ⟨rfl, hb⟩; have hS1 := keep1 hS hb; obtain ⟨ca0, ca1, ca2, ca3, ca4, ca5, hz, hB⟩ := id hS1)
      exact bodyPost_ret (v := .agg #[.int .i64 1, .int .i64 (x + y), .string ⟨#[]⟩]) (by simp only [results, Tryz.results96]; go_simp) rfl ⟨rfl, below_setg hB (Nat.le_refl _)⟩
  · obtain ⟨rfl, rfl⟩ := mk_zero ((Val.fit_out hi).symm.trans hv.out)
    have hc : (0 < y ∧ x > 9223372036854775807 - y) ∨ (y < 0 ∧ x < -9223372036854775808 - y) := by unfold Val.inr at *; omega
    clear hi hx hy hv
    rcases hc with ⟨h, hh⟩ | ⟨h, hh⟩
    · have b1 : decide (y > 0) = true := decide_eq_true h
      have b2 : decide (y < 0) = false := decide_eq_false (by omega)
      have b3 : decide (x > 9223372036854775807 - y) = true := decide_eq_true hh
      go_enter Tryz.func96, Tryz.ntmps96
      go_wp2_with (go_at_call 43; refine (rnull_any _).mono ?_; rintro e w1 ⟨rfl, hb⟩; have hS1 := keep1 hS hb; obtain ⟨ca0, ca1, ca2, ca3, ca4, ca5, hz, hB⟩ := id hS1)
      exact bodyPost_ret (v := .agg #[.int .i64 0, .int .i64 0, .string ⟨#[]⟩]) (by simp only [results, Tryz.results96]; go_simp) rfl ⟨rfl, below_setg hB (Nat.le_refl _)⟩
    · have b1 : decide (y > 0) = false := decide_eq_false (by omega)
      have b2 : decide (y < 0) = true := decide_eq_true h
      have b3 : decide (x < -9223372036854775808 - y) = true := decide_eq_true hh
      go_enter Tryz.func96, Tryz.ntmps96
      go_wp2_with (go_at_call 43; refine (rnull_any _).mono ?_; rintro e w1 ⟨rfl, hb⟩; have hS1 := keep1 hS hb; obtain ⟨ca0, ca1, ca2, ca3, ca4, ca5, hz, hB⟩ := id hS1)
      exact bodyPost_ret (v := .agg #[.int .i64 0, .int .i64 0, .string ⟨#[]⟩]) (by simp only [results, Tryz.results96]; go_simp) rfl ⟨rfl, below_setg hB (Nat.le_refl _)⟩

set_option maxHeartbeats 1000000 in
theorem rdiff_is (x y : Int) (w : World) (hx : Val.inr x) (hy : Val.inr y) (k n : Int) (hv : Hid (Val.fit (x - y) = ⟨k, n, []⟩)) : Calls Tryz.prog 97 #[.int .i64 x, .int .i64 y] w (VRet k n ⟨#[]⟩ w) := by
  have hS := start1 w (.int .i64 0) (.int .i64 0) (.string ⟨#[]⟩) 24
  have x1 := hx.1
  have x2 := hx.2
  have y1 := hy.1
  have y2 := hy.2
  by_cases hi : Val.inr (x - y)
  · obtain ⟨rfl, rfl⟩ := mk_one ((Val.fit_in hi).symm.trans hv.out)
    have s1 := hi.1
    have s2 := hi.2
    clear hi hx hy hv
    rcases Int.lt_trichotomy y 0 with h | h | h
    · have b1 : decide (y > 0) = false := decide_eq_false (by omega)
      have b2 : decide (y < 0) = true := decide_eq_true h
      have b3 : decide (x > 9223372036854775807 + y) = false := decide_eq_false (by omega)
      go_enter Tryz.func97, Tryz.ntmps97
      go_wp2_with (go_at_call 36; refine (rint_any _ _).mono ?_; rintro e w1 ⟨rfl, hb⟩; have hS1 := keep1 hS hb; obtain ⟨ca0, ca1, ca2, ca3, ca4, ca5, hz, hB⟩ := id hS1)
      exact bodyPost_ret (v := .agg #[.int .i64 1, .int .i64 (x - y), .string ⟨#[]⟩]) (by simp only [results, Tryz.results97]; go_simp) rfl ⟨rfl, below_setg hB (Nat.le_refl _)⟩
    · have b1 : decide (y > 0) = false := decide_eq_false (by omega)
      have b2 : decide (y < 0) = false := decide_eq_false (by omega)
      clear h
      go_enter Tryz.func97, Tryz.ntmps97
      go_wp2_with (go_at_call 36; refine (rint_any _ _).mono ?_; rintro e w1 ⟨rfl, hb⟩; have hS1 := keep1 hS hb; obtain ⟨ca0, ca1, ca2, ca3, ca4, ca5, hz, hB⟩ := id hS1)
      exact bodyPost_ret (v := .agg #[.int .i64 1, .int .i64 (x - y), .string ⟨#[]⟩]) (by simp only [results, Tryz.results97]; go_simp) rfl ⟨rfl, below_setg hB (Nat.le_refl _)⟩
    · have b1 : decide (y > 0) = true := decide_eq_true h
      have b2 : decide (y < 0) = false := decide_eq_false (by omega)
      have b3 : decide (x < -9223372036854775808 + y) = false := decide_eq_false (by omega)
      go_enter Tryz.func97, Tryz.ntmps97
      go_wp2_with (go_at_call 36; refine (rint_any _ _).mono ?_; rintro e w1 ⟨rfl, hb⟩; have hS1 := keep1 hS hb; obtain ⟨ca0, ca1, ca2, ca3, ca4, ca5, hz, hB⟩ := id hS1)
      exact bodyPost_ret (v := .agg #[.int .i64 1, .int .i64 (x - y), .string ⟨#[]⟩]) (by simp only [results, Tryz.results97]; go_simp) rfl ⟨rfl, below_setg hB (Nat.le_refl _)⟩
  · obtain ⟨rfl, rfl⟩ := mk_zero ((Val.fit_out hi).symm.trans hv.out)
    have hc : (0 < y ∧ x < -9223372036854775808 + y) ∨ (y < 0 ∧ x > 9223372036854775807 + y) := by unfold Val.inr at *; omega
    clear hi hx hy hv
    rcases hc with ⟨h, hh⟩ | ⟨h, hh⟩
    · have b1 : decide (y > 0) = true := decide_eq_true h
      have b2 : decide (y < 0) = false := decide_eq_false (by omega)
      have b3 : decide (x < -9223372036854775808 + y) = true := decide_eq_true hh
      go_enter Tryz.func97, Tryz.ntmps97
      go_wp2_with (go_at_call 43; refine (rnull_any _).mono ?_; rintro e w1 ⟨rfl, hb⟩; have hS1 := keep1 hS hb; obtain ⟨ca0, ca1, ca2, ca3, ca4, ca5, hz, hB⟩ := id hS1)
      exact bodyPost_ret (v := .agg #[.int .i64 0, .int .i64 0, .string ⟨#[]⟩]) (by simp only [results, Tryz.results97]; go_simp) rfl ⟨rfl, below_setg hB (Nat.le_refl _)⟩
    · have b1 : decide (y > 0) = false := decide_eq_false (by omega)
      have b2 : decide (y < 0) = true := decide_eq_true h
      have b3 : decide (x > 9223372036854775807 + y) = true := decide_eq_true hh
      go_enter Tryz.func97, Tryz.ntmps97
      go_wp2_with (go_at_call 43; refine (rnull_any _).mono ?_; rintro e w1 ⟨rfl, hb⟩; have hS1 := keep1 hS hb; obtain ⟨ca0, ca1, ca2, ca3, ca4, ca5, hz, hB⟩ := id hS1)
      exact bodyPost_ret (v := .agg #[.int .i64 0, .int .i64 0, .string ⟨#[]⟩]) (by simp only [results, Tryz.results97]; go_simp) rfl ⟨rfl, below_setg hB (Nat.le_refl _)⟩

set_option maxHeartbeats 2000000 in
theorem rprod_is (x y : Int) (w : World) (hx : Val.inr x) (hy : Val.inr y) (k n : Int) (hv : Hid (Val.fit (x * y) = ⟨k, n, []⟩)) : Calls Tryz.prog 98 #[.int .i64 x, .int .i64 y] w (VRet k n ⟨#[]⟩ w) := by
  have hS := start1 w (.int .i64 0) (.int .i64 0) (.string ⟨#[]⟩) 24
  by_cases x0 : x = 0
  · subst x0
    rw [Int.zero_mul] at hv
    obtain ⟨rfl, rfl⟩ := mk_one hv.out
    clear hv hx hy
    go_enter Tryz.func98, Tryz.ntmps98
    go_wp2_with (go_at_call 36; refine (rint_any _ _).mono ?_; rintro e w1 ⟨rfl, hb⟩; have hS1 := keep1 hS hb; obtain ⟨ca0, ca1, ca2, ca3, ca4, ca5, hz, hB⟩ := id hS1)
    exact bodyPost_ret (v := .agg #[.int .i64 1, .int .i64 0, .string ⟨#[]⟩]) (by simp only [results, Tryz.results98]; go_simp) rfl ⟨rfl, below_setg hB (Nat.le_refl _)⟩
  have b0 : (x == 0) = false := by simp [x0]
  by_cases y0 : y = 0
  · subst y0
    rw [Int.mul_zero] at hv
    obtain ⟨rfl, rfl⟩ := mk_one hv.out
    clear hv hx hy x0
    go_enter Tryz.func98, Tryz.ntmps98
    go_wp2_with (go_at_call 36; refine (rint_any _ _).mono ?_; rintro e w1 ⟨rfl, hb⟩; have hS1 := keep1 hS hb; obtain ⟨ca0, ca1, ca2, ca3, ca4, ca5, hz, hB⟩ := id hS1)
    exact bodyPost_ret (v := .agg #[.int .i64 1, .int .i64 0, .string ⟨#[]⟩]) (by simp only [results, Tryz.results98]; go_simp) rfl ⟨rfl, below_setg hB (Nat.le_refl _)⟩
  have b1 : (y == 0) = false := by simp [y0]
  by_cases xm : x = -9223372036854775808
  · subst xm
    by_cases h1 : y = 1
    · subst h1
      obtain ⟨rfl, rfl⟩ := mk_one ((show Val.fit (-9223372036854775808 * 1) = ⟨1, -9223372036854775808, []⟩ by decide).symm.trans hv.out)
      clear hv hx hy x0 y0
      go_enter Tryz.func98, Tryz.ntmps98
      go_wp2_with (go_at_call 36; refine (rint_any _ _).mono ?_; rintro e w1 ⟨rfl, hb⟩; have hS1 := keep1 hS hb; obtain ⟨ca0, ca1, ca2, ca3, ca4, ca5, hz, hB⟩ := id hS1)
      exact bodyPost_ret (v := .agg #[.int .i64 1, .int .i64 (-9223372036854775808), .string ⟨#[]⟩]) (by simp only [results, Tryz.results98]; go_simp) rfl ⟨rfl, below_setg hB (Nat.le_refl _)⟩
    · have hn : ¬ Val.inr (-9223372036854775808 * y) := by unfold Val.inr at *; omega
      obtain ⟨rfl, rfl⟩ := mk_zero ((Val.fit_out hn).symm.trans hv.out)
      have b2 : (y == 1) = false := by simp [h1]
      clear hv hx hy x0 y0 h1 hn
      go_enter Tryz.func98, Tryz.ntmps98
      go_wp2_with (go_at_call 43; refine (rnull_any _).mono ?_; rintro e w1 ⟨rfl, hb⟩; have hS1 := keep1 hS hb; obtain ⟨ca0, ca1, ca2, ca3, ca4, ca5, hz, hB⟩ := id hS1)
      exact bodyPost_ret (v := .agg #[.int .i64 0, .int .i64 0, .string ⟨#[]⟩]) (by simp only [results, Tryz.results98]; go_simp) rfl ⟨rfl, below_setg hB (Nat.le_refl _)⟩
  have b2 : (x == -9223372036854775808) = false := by simp [xm]
  by_cases ym : y = -9223372036854775808
  · subst ym
    by_cases h1 : x = 1
    · subst h1
      obtain ⟨rfl, rfl⟩ := mk_one ((show Val.fit (1 * -9223372036854775808) = ⟨1, -9223372036854775808, []⟩ by decide).symm.trans hv.out)
      clear hv hx hy x0 y0 xm
      go_enter Tryz.func98, Tryz.ntmps98
      go_wp2_with (go_at_call 36; refine (rint_any _ _).mono ?_; rintro e w1 ⟨rfl, hb⟩; have hS1 := keep1 hS hb; obtain ⟨ca0, ca1, ca2, ca3, ca4, ca5, hz, hB⟩ := id hS1)
      exact bodyPost_ret (v := .agg #[.int .i64 1, .int .i64 (-9223372036854775808), .string ⟨#[]⟩]) (by simp only [results, Tryz.results98]; go_simp) rfl ⟨rfl, below_setg hB (Nat.le_refl _)⟩
    · have hn : ¬ Val.inr (x * -9223372036854775808) := by unfold Val.inr at *; omega
      obtain ⟨rfl, rfl⟩ := mk_zero ((Val.fit_out hn).symm.trans hv.out)
      have b3 : (x == 1) = false := by simp [h1]
      clear hv hx hy x0 y0 h1 hn xm
      go_enter Tryz.func98, Tryz.ntmps98
      go_wp2_with (go_at_call 43; refine (rnull_any _).mono ?_; rintro e w1 ⟨rfl, hb⟩; have hS1 := keep1 hS hb; obtain ⟨ca0, ca1, ca2, ca3, ca4, ca5, hz, hB⟩ := id hS1)
      exact bodyPost_ret (v := .agg #[.int .i64 0, .int .i64 0, .string ⟨#[]⟩]) (by simp only [results, Tryz.results98]; go_simp) rfl ⟨rfl, below_setg hB (Nat.le_refl _)⟩
  have b3 : (y == -9223372036854775808) = false := by simp [ym]
  have hP : Val.inr (wrap64 (x * y)) := by unfold Val.inr wrap64; omega
  have hnm : ¬ (wrap64 (x * y) = -9223372036854775808 ∧ y = -1) := by
    rintro ⟨h, rfl⟩
    have : x * -1 = -x := by omega
    rw [this] at h
    unfold wrap64 at h; unfold Val.inr at hx; omega
  have hd := Val.tdiv_in hP hnm
  have hback := Val.mul_back (x := x) y0 hy
  by_cases hi : Val.inr (x * y)
  · obtain ⟨rfl, rfl⟩ := mk_one ((Val.fit_in hi).symm.trans hv.out)
    have hq := hback.2 hi
    have hwq := Val.wrap_in hi
    have s1 := hi.1
    have s2 := hi.2
    rw [hwq] at hq
    have c1 : (Int.tdiv (x * y) y != x) = false := by rw [hq]; simp
    have x1 := hx.1
    have x2 := hx.2
    have c0 : (wrap64 x != x) = false := by rw [Val.wrap_in hx]; simp
    have c00 : wrap64 x = x := Val.wrap_in hx
    have d1 : -9223372036854775808 ≤ Int.tdiv (x * y) y := by rw [hq]; exact hx.1
    have d2 : Int.tdiv (x * y) y ≤ 9223372036854775807 := by rw [hq]; exact hx.2
    have hw : IntKind.i64.wrap (Int.tdiv (x * y) y) = Int.tdiv (x * y) y := IntWalk.i64_in _ ⟨d1, d2⟩
    by_cases hm : x * y = -9223372036854775808
    · have c2 : (x * y == -9223372036854775808) = true := by simp [hm]
      have c3 : (decide (x < 0) == decide (y < 0)) = false := by
        rcases Val.mul_sign x y with ⟨h1, h2⟩ | ⟨h1, h2⟩
        · rw [hm] at h2; omega
        · simp only [beq_eq_false_iff_ne]; exact h1
      clear hv hx hy x0 xm ym hP hnm hd hback hq hwq hi hm
      go_enter Tryz.func98, Tryz.ntmps98
      go_wp2_with (go_at_call 36; refine (rint_any _ _).mono ?_; rintro e w1 ⟨rfl, hb⟩; have hS1 := keep1 hS hb; obtain ⟨ca0, ca1, ca2, ca3, ca4, ca5, hz, hB⟩ := id hS1)
      exact bodyPost_ret (v := .agg #[.int .i64 1, .int .i64 (x * y), .string ⟨#[]⟩]) (by simp only [results, Tryz.results98]; go_simp) rfl ⟨rfl, below_setg hB (Nat.le_refl _)⟩
    · have c2 : (x * y == -9223372036854775808) = false := by simp [hm]
      clear hv hx hy x0 xm ym hP hnm hd hback hq hwq hi hm
      go_enter Tryz.func98, Tryz.ntmps98
      go_wp2_with (go_at_call 36; refine (rint_any _ _).mono ?_; rintro e w1 ⟨rfl, hb⟩; have hS1 := keep1 hS hb; obtain ⟨ca0, ca1, ca2, ca3, ca4, ca5, hz, hB⟩ := id hS1)
      exact bodyPost_ret (v := .agg #[.int .i64 1, .int .i64 (x * y), .string ⟨#[]⟩]) (by simp only [results, Tryz.results98]; go_simp) rfl ⟨rfl, below_setg hB (Nat.le_refl _)⟩
  · obtain ⟨rfl, rfl⟩ := mk_zero ((Val.fit_out hi).symm.trans hv.out)
    have hq : Int.tdiv (wrap64 (x * y)) y ≠ x := fun h => hi (hback.1 h)
    have c1 : (Int.tdiv (wrap64 (x * y)) y != x) = true := by simp [hq]
    have d1 := hd.1
    have d2 := hd.2
    have hw : IntKind.i64.wrap (Int.tdiv (wrap64 (x * y)) y) = Int.tdiv (wrap64 (x * y)) y := IntWalk.i64_in _ hd
    clear hv hx hy x0 xm ym hP hnm hd hback hq hi
    go_enter Tryz.func98, Tryz.ntmps98
    go_wp2_with (go_at_call 43; refine (rnull_any _).mono ?_; rintro e w1 ⟨rfl, hb⟩; have hS1 := keep1 hS hb; obtain ⟨ca0, ca1, ca2, ca3, ca4, ca5, hz, hB⟩ := id hS1)
    exact bodyPost_ret (v := .agg #[.int .i64 0, .int .i64 0, .string ⟨#[]⟩]) (by simp only [results, Tryz.results98]; go_simp) rfl ⟨rfl, below_setg hB (Nat.le_refl _)⟩

set_option maxHeartbeats 2000000 in
theorem rarith_is (op x y : Int) (w : World) (ho : 7 ≤ op ∧ op ≤ 11) (hx : Val.inr x) (hy : Val.inr y) (k n : Int) (hv : Hid (Val.arith op x y = ⟨k, n, []⟩)) : Calls Tryz.prog 57 #[.int .i64 op, .int .i64 x, .int .i64 y] w (VRet k n ⟨#[]⟩ w) := by
  have hS := start1 w (.int .i64 0) (.int .i64 0) (.string ⟨#[]⟩) 24
  have hv' := hv.out
  rw [Val.arith] at hv'
  have hxh := Lib.hid hx
  have hyh := Lib.hid hy
  rcases (show op = 7 ∨ op = 8 ∨ op = 9 ∨ op = 10 ∨ op = 11 by omega) with rfl | rfl | rfl | rfl | rfl
  · rw [if_pos rfl] at hv'
    replace hv' := Lib.hid hv'
    clear hv hx hy ho
    go_enter Tryz.func57, Tryz.ntmps57
    go_wp2_with (go_at_call 96; refine (rsum_is _ _ _ hxh.out hyh.out _ _ hv').mono ?_; rintro e w1 ⟨rfl, hb⟩; have hS1 := keep1 hS hb; obtain ⟨ca0, ca1, ca2, ca3, ca4, ca5, hz, hB⟩ := id hS1)
    exact bodyPost_ret (v := .agg #[.int .i64 k, .int .i64 n, .string ⟨#[]⟩]) (by simp only [results, Tryz.results57]; go_simp) rfl ⟨rfl, below_setg hB (Nat.le_refl _)⟩
  · rw [if_neg (by decide), if_pos rfl] at hv'
    replace hv' := Lib.hid hv'
    clear hv hx hy ho
    go_enter Tryz.func57, Tryz.ntmps57
    go_wp2_with (go_at_call 97; refine (rdiff_is _ _ _ hxh.out hyh.out _ _ hv').mono ?_; rintro e w1 ⟨rfl, hb⟩; have hS1 := keep1 hS hb; obtain ⟨ca0, ca1, ca2, ca3, ca4, ca5, hz, hB⟩ := id hS1)
    exact bodyPost_ret (v := .agg #[.int .i64 k, .int .i64 n, .string ⟨#[]⟩]) (by simp only [results, Tryz.results57]; go_simp) rfl ⟨rfl, below_setg hB (Nat.le_refl _)⟩
  · rw [if_neg (by decide), if_neg (by decide), if_pos rfl] at hv'
    replace hv' := Lib.hid hv'
    clear hv hx hy ho
    go_enter Tryz.func57, Tryz.ntmps57
    go_wp2_with (go_at_call 98; refine (rprod_is _ _ _ hxh.out hyh.out _ _ hv').mono ?_; rintro e w1 ⟨rfl, hb⟩; have hS1 := keep1 hS hb; obtain ⟨ca0, ca1, ca2, ca3, ca4, ca5, hz, hB⟩ := id hS1)
    exact bodyPost_ret (v := .agg #[.int .i64 k, .int .i64 n, .string ⟨#[]⟩]) (by simp only [results, Tryz.results57]; go_simp) rfl ⟨rfl, below_setg hB (Nat.le_refl _)⟩
  · rw [if_neg (by decide), if_neg (by decide), if_neg (by decide)] at hv'
    by_cases h0 : y = 0
    · rw [if_pos h0] at hv'
      obtain ⟨rfl, rfl⟩ := mk_zero hv'
      have b0 : (y == 0) = true := by simp [h0]
      clear hv hv' hx hy ho h0
      go_enter Tryz.func57, Tryz.ntmps57
      go_wp2_with (go_at_call 43; refine (rnull_any _).mono ?_; rintro e w1 ⟨rfl, hb⟩; have hS1 := keep1 hS hb; obtain ⟨ca0, ca1, ca2, ca3, ca4, ca5, hz, hB⟩ := id hS1)
      exact bodyPost_ret (v := .agg #[.int .i64 0, .int .i64 0, .string ⟨#[]⟩]) (by simp only [results, Tryz.results57]; go_simp) rfl ⟨rfl, below_setg hB (Nat.le_refl _)⟩
    · have b0 : (y == 0) = false := by simp [h0]
      rw [if_neg h0, if_pos rfl] at hv'
      by_cases h1 : y = -1
      · have b1 : (y == -1) = true := by simp [h1]
        rw [h1, Val.tdiv_mone] at hv'
        replace hv' := Lib.hid hv'
        have z0 : Hid (Val.inr 0) := Lib.hid (by decide)
        clear hv hx hy ho h0 h1
        go_enter Tryz.func57, Tryz.ntmps57
        go_wp2_with (go_at_call 97; refine (rdiff_is _ _ _ z0.out hxh.out _ _ hv').mono ?_; rintro e w1 ⟨rfl, hb⟩; have hS1 := keep1 hS hb; obtain ⟨ca0, ca1, ca2, ca3, ca4, ca5, hz, hB⟩ := id hS1)
        exact bodyPost_ret (v := .agg #[.int .i64 k, .int .i64 n, .string ⟨#[]⟩]) (by simp only [results, Tryz.results57]; go_simp) rfl ⟨rfl, below_setg hB (Nat.le_refl _)⟩
      · have b1 : (y == -1) = false := by simp [h1]
        have hd := Val.tdiv_in (x := x) (y := y) hx (fun h => h1 h.2)
        rw [Val.fit_in hd] at hv'
        obtain ⟨rfl, rfl⟩ := mk_one hv'
        have d1 := hd.1
        have d2 := hd.2
        have hw : IntKind.i64.wrap (Int.tdiv x y) = Int.tdiv x y := IntWalk.i64_in _ hd
        clear hv hv' hx hy ho h1 hd
        go_enter Tryz.func57, Tryz.ntmps57
        go_wp2_with (go_at_call 36; refine (rint_any _ _).mono ?_; rintro e w1 ⟨rfl, hb⟩; have hS1 := keep1 hS hb; obtain ⟨ca0, ca1, ca2, ca3, ca4, ca5, hz, hB⟩ := id hS1)
        exact bodyPost_ret (v := .agg #[.int .i64 1, .int .i64 (Int.tdiv x y), .string ⟨#[]⟩]) (by simp only [results, Tryz.results57]; go_simp) rfl ⟨rfl, below_setg hB (Nat.le_refl _)⟩
  · rw [if_neg (by decide), if_neg (by decide), if_neg (by decide)] at hv'
    by_cases h0 : y = 0
    · rw [if_pos h0] at hv'
      obtain ⟨rfl, rfl⟩ := mk_zero hv'
      have b0 : (y == 0) = true := by simp [h0]
      clear hv hv' hx hy ho h0
      go_enter Tryz.func57, Tryz.ntmps57
      go_wp2_with (go_at_call 43; refine (rnull_any _).mono ?_; rintro e w1 ⟨rfl, hb⟩; have hS1 := keep1 hS hb; obtain ⟨ca0, ca1, ca2, ca3, ca4, ca5, hz, hB⟩ := id hS1)
      exact bodyPost_ret (v := .agg #[.int .i64 0, .int .i64 0, .string ⟨#[]⟩]) (by simp only [results, Tryz.results57]; go_simp) rfl ⟨rfl, below_setg hB (Nat.le_refl _)⟩
    · have b0 : (y == 0) = false := by simp [h0]
      rw [if_neg h0, if_neg (by decide)] at hv'
      by_cases h1 : y = -1
      · have b1 : (y == -1) = true := by simp [h1]
        rw [h1, Val.tmod_mone] at hv'
        obtain ⟨rfl, rfl⟩ := mk_one hv'
        clear hv hv' hx hy ho h0 h1
        go_enter Tryz.func57, Tryz.ntmps57
        go_wp2_with (go_at_call 36; refine (rint_any _ _).mono ?_; rintro e w1 ⟨rfl, hb⟩; have hS1 := keep1 hS hb; obtain ⟨ca0, ca1, ca2, ca3, ca4, ca5, hz, hB⟩ := id hS1)
        exact bodyPost_ret (v := .agg #[.int .i64 1, .int .i64 0, .string ⟨#[]⟩]) (by simp only [results, Tryz.results57]; go_simp) rfl ⟨rfl, below_setg hB (Nat.le_refl _)⟩
      · have b1 : (y == -1) = false := by simp [h1]
        have hd := Val.tmod_in (x := x) hy h0
        obtain ⟨rfl, rfl⟩ := mk_one hv'
        have d1 := hd.1
        have d2 := hd.2
        have hw : IntKind.i64.wrap (Int.tmod x y) = Int.tmod x y := IntWalk.i64_in _ hd
        clear hv hv' hx hy ho h1 hd
        go_enter Tryz.func57, Tryz.ntmps57
        go_wp2_with (go_at_call 36; refine (rint_any _ _).mono ?_; rintro e w1 ⟨rfl, hb⟩; have hS1 := keep1 hS hb; obtain ⟨ca0, ca1, ca2, ca3, ca4, ca5, hz, hB⟩ := id hS1)
        exact bodyPost_ret (v := .agg #[.int .i64 1, .int .i64 (Int.tmod x y), .string ⟨#[]⟩]) (by simp only [results, Tryz.results57]; go_simp) rfl ⟨rfl, below_setg hB (Nat.le_refl _)⟩

set_option maxHeartbeats 2000000 in
theorem rlogic_is (op stop x y : Int) (w : World) (ho : op = 21 ∧ stop = 0 ∨ op = 22 ∧ stop = 1) (hx : x = -1 ∨ x = 0 ∨ x = 1) (hy : y = -1 ∨ y = 0 ∨ y = 1) (k n : Int) (hv : Hid (Val.logic stop x y = ⟨k, n, []⟩)) : Calls Tryz.prog 58 #[.int .i64 op, .int .i64 x, .int .i64 y] w (VRet k n ⟨#[]⟩ w) := by
  have hS := start1 w (.int .i64 0) (.int .i64 0) (.string ⟨#[]⟩) 24
  have hv' := hv.out
  clear hv
  rcases ho with ⟨rfl, rfl⟩ | ⟨rfl, rfl⟩ <;> rcases hx with rfl | rfl | rfl <;> rcases hy with rfl | rfl | rfl
  all_goals (
    simp (config := { decide := true }) only [Val.logic, Val.three, Val.zero, Val.V.mk.injEq, and_true, if_true, if_false] at hv'
    obtain ⟨rfl, rfl⟩ := hv'
    go_enter Tryz.func58, Tryz.ntmps58
    go_wp2_with (first
      | (go_at_call 55; refine (rthree_yes _ _ (by decide)).mono ?_; rintro e w1 ⟨rfl, hb⟩; have hS1 := keep1 hS hb; obtain ⟨ca0, ca1, ca2, ca3, ca4, ca5, hz, hB⟩ := id hS1)
      | (go_at_call 43; refine (rnull_any _).mono ?_; rintro e w1 ⟨rfl, hb⟩; have hS1 := keep1 hS hb; obtain ⟨ca0, ca1, ca2, ca3, ca4, ca5, hz, hB⟩ := id hS1))
    first
      | exact bodyPost_ret (v := .agg #[.int .i64 0, .int .i64 0, .string ⟨#[]⟩]) (by simp only [results, Tryz.results58]; go_simp) rfl ⟨rfl, below_setg hB (Nat.le_refl _)⟩
      | exact bodyPost_ret (v := .agg #[.int .i64 1, .int .i64 0, .string ⟨#[]⟩]) (by simp only [results, Tryz.results58]; go_simp) rfl ⟨rfl, below_setg hB (Nat.le_refl _)⟩
      | exact bodyPost_ret (v := .agg #[.int .i64 1, .int .i64 1, .string ⟨#[]⟩]) (by simp only [results, Tryz.results58]; go_simp) rfl ⟨rfl, below_setg hB (Nat.le_refl _)⟩)

theorem rcompare_is (op n : Int) (w : World) (ho : 13 ≤ op ∧ op ≤ 20) (b : Bool) (hb : Hid (Val.compare op n = b)) : Calls Tryz.prog 60 #[.int .i64 op, .int .i64 n] w fun e w' => e = .returned (.bool b) ∧ w = w' := by
  have hb' := hb.out
  clear hb
  rcases (show op = 13 ∨ op = 14 ∨ op = 15 ∨ op = 16 ∨ op = 17 ∨ op = 18 ∨ op = 19 ∨ op = 20 by omega) with rfl | rfl | rfl | rfl | rfl | rfl | rfl | rfl
  all_goals (
    simp (config := { decide := true }) only [Val.compare, if_true, if_false, true_or, or_true, false_or, or_false] at hb'
    subst hb'
    go_enter Tryz.func60, Tryz.ntmps60
    go_wp2
    go_ret
    refine ⟨ret_bool ?_, rfl⟩
    first | rfl | (rw [Bool.eq_iff_iff]; simp; done) | (rw [Bool.eq_iff_iff]; simp; omega))

end Go.Proofs.YthdpgekjbkpomaaGreatDoor
