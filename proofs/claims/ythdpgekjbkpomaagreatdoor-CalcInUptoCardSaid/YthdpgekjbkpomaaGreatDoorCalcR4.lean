/- Walks: an operator of one value, of two values: of the reference. -/
import Derived.Test.YthdpgekjbkpomaaGreatDoorCalcR3
import Derived.Test.YthdpgekjbkpomaaGreatDoorCalcM
set_option maxRecDepth 100000
set_option linter.unusedVariables false
set_option linter.unusedSimpArgs false
namespace Go.Proofs.YthdpgekjbkpomaaGreatDoor
open Go.RowKit

theorem runary_none (op k n : Int) (t : ByteArray) (w : World) (h : ¬ (op = 4 ∨ op = 5 ∨ op = 6)) :
    Calls Tryz.prog 19 #[.int .i64 op, .agg #[.int .i64 k, .int .i64 n, .string t]] w (VRet2 0 0 ⟨#[]⟩ 130 w) := by
  have hS := start2 w (.int .i64 k) (.int .i64 n) (.string t) (.int .i64 0) (.int .i64 0) (.string ⟨#[]⟩) 24 24
  have b4 : (op != 4) = true := by simp; omega
  have b5 : (op != 5) = true := by simp; omega
  have b6 : (op != 6) = true := by simp; omega
  clear h
  go_enter Tryz.func19, Tryz.ntmps19
  go_wp2_with (go_at_call 43; refine (rnull_any _).mono ?_; rintro e w9 ⟨rfl, hb9⟩; have hS9 := keep2 hS hb9; obtain ⟨cz0, cz1, cz2, cz3, cz4, cz5, cz6, cz7, cz8, cz9, cz10, cz11, hz9, hB9⟩ := id hS9)
  exact bodyPost_ret (v := .tuple #[.agg #[.int .i64 0, .int .i64 0, .string ⟨#[]⟩], .int .i64 130]) (by simp only [results, Tryz.results19]; go_simp) rfl ⟨rfl, below_setg hB9 (by omega)⟩
theorem runary_bad4 (k n : Int) (t : ByteArray) (w : World) (hm : Val.may ⟨k, n, t.data.toList⟩ = false) :
    Calls Tryz.prog 19 #[.int .i64 4, .agg #[.int .i64 k, .int .i64 n, .string t]] w (VRet2 0 0 ⟨#[]⟩ 2 w) := by
  have hS := start2 w (.int .i64 k) (.int .i64 n) (.string t) (.int .i64 0) (.int .i64 0) (.string ⟨#[]⟩) 24 24
  replace hm := Lib.hid hm
  go_enter Tryz.func19, Tryz.ntmps19
  go_wp2_with (first
    | (go_at_call 25; refine (rmay_is _ _ _ _ hm).mono ?_; rintro e w1 ⟨rfl, hb1⟩; have hS1 := keep2 hS hb1)
    | (go_at_call 43; refine (rnull_any _).mono ?_; rintro e w9 ⟨rfl, hb9⟩; have hS9 := keep2 hS1 hb9; obtain ⟨cz0, cz1, cz2, cz3, cz4, cz5, cz6, cz7, cz8, cz9, cz10, cz11, hz9, hB9⟩ := id hS9))
  exact bodyPost_ret (v := .tuple #[.agg #[.int .i64 0, .int .i64 0, .string ⟨#[]⟩], .int .i64 2]) (by simp only [results, Tryz.results19]; go_simp) rfl ⟨rfl, below_setg hB9 (by omega)⟩
theorem runary_bad5 (k n : Int) (t : ByteArray) (w : World) (hm : Val.may ⟨k, n, t.data.toList⟩ = false) :
    Calls Tryz.prog 19 #[.int .i64 5, .agg #[.int .i64 k, .int .i64 n, .string t]] w (VRet2 0 0 ⟨#[]⟩ 2 w) := by
  have hS := start2 w (.int .i64 k) (.int .i64 n) (.string t) (.int .i64 0) (.int .i64 0) (.string ⟨#[]⟩) 24 24
  replace hm := Lib.hid hm
  go_enter Tryz.func19, Tryz.ntmps19
  go_wp2_with (first
    | (go_at_call 25; refine (rmay_is _ _ _ _ hm).mono ?_; rintro e w1 ⟨rfl, hb1⟩; have hS1 := keep2 hS hb1)
    | (go_at_call 43; refine (rnull_any _).mono ?_; rintro e w9 ⟨rfl, hb9⟩; have hS9 := keep2 hS1 hb9; obtain ⟨cz0, cz1, cz2, cz3, cz4, cz5, cz6, cz7, cz8, cz9, cz10, cz11, hz9, hB9⟩ := id hS9))
  exact bodyPost_ret (v := .tuple #[.agg #[.int .i64 0, .int .i64 0, .string ⟨#[]⟩], .int .i64 2]) (by simp only [results, Tryz.results19]; go_simp) rfl ⟨rfl, below_setg hB9 (by omega)⟩
theorem runary_bad6 (k n : Int) (t : ByteArray) (w : World) (hm : Val.may ⟨k, n, t.data.toList⟩ = false) :
    Calls Tryz.prog 19 #[.int .i64 6, .agg #[.int .i64 k, .int .i64 n, .string t]] w (VRet2 0 0 ⟨#[]⟩ 2 w) := by
  have hS := start2 w (.int .i64 k) (.int .i64 n) (.string t) (.int .i64 0) (.int .i64 0) (.string ⟨#[]⟩) 24 24
  replace hm := Lib.hid hm
  go_enter Tryz.func19, Tryz.ntmps19
  go_wp2_with (first
    | (go_at_call 25; refine (rmay_is _ _ _ _ hm).mono ?_; rintro e w1 ⟨rfl, hb1⟩; have hS1 := keep2 hS hb1)
    | (go_at_call 43; refine (rnull_any _).mono ?_; rintro e w9 ⟨rfl, hb9⟩; have hS9 := keep2 hS1 hb9; obtain ⟨cz0, cz1, cz2, cz3, cz4, cz5, cz6, cz7, cz8, cz9, cz10, cz11, hz9, hB9⟩ := id hS9))
  exact bodyPost_ret (v := .tuple #[.agg #[.int .i64 0, .int .i64 0, .string ⟨#[]⟩], .int .i64 2]) (by simp only [results, Tryz.results19]; go_simp) rfl ⟨rfl, below_setg hB9 (by omega)⟩
theorem runary_plus (k n : Int) (t : ByteArray) (w : World) (hm : Val.may ⟨k, n, t.data.toList⟩ = true) :
    Calls Tryz.prog 19 #[.int .i64 5, .agg #[.int .i64 k, .int .i64 n, .string t]] w (VRet2 k n t 0 w) := by
  have hS := start2 w (.int .i64 k) (.int .i64 n) (.string t) (.int .i64 0) (.int .i64 0) (.string ⟨#[]⟩) 24 24
  replace hm := Lib.hid hm
  go_enter Tryz.func19, Tryz.ntmps19
  go_wp2_with (go_at_call 25; refine (rmay_is _ _ _ _ hm).mono ?_; rintro e w1 ⟨rfl, hb1⟩; have hS1 := keep2 hS hb1; obtain ⟨ca0, ca1, ca2, ca3, ca4, ca5, ca6, ca7, ca8, ca9, ca10, ca11, hz, hB⟩ := id hS1)
  exact bodyPost_ret (v := .tuple #[.agg #[.int .i64 k, .int .i64 n, .string t], .int .i64 0]) (by simp only [results, Tryz.results19]; go_simp) rfl ⟨rfl, below_setg hB (by omega)⟩
theorem runary_not_m (k n : Int) (t : ByteArray) (w : World) (hL : Lits w) (ha : Val.inr n) (hm : Val.may ⟨k, n, t.data.toList⟩ = true) (hr : Hid (Val.tru ⟨k, n, t.data.toList⟩ = -1)) :
    Calls Tryz.prog 19 #[.int .i64 6, .agg #[.int .i64 k, .int .i64 n, .string t]] w (VRet2 0 0 ⟨#[]⟩ 0 w) := by
  have hS := start2 w (.int .i64 k) (.int .i64 n) (.string t) (.int .i64 0) (.int .i64 0) (.string ⟨#[]⟩) 24 24
  have hL0 : Lits ((w.alloc (.cells #[.int .i64 k, .int .i64 n, .string t] 24)).alloc (.cells #[.int .i64 0, .int .i64 0, .string ⟨#[]⟩] 24)) := (hL.alloc _).alloc _
  replace hm := Lib.hid hm
  go_enter Tryz.func19, Tryz.ntmps19
  go_wp2_with (first
    | (go_at_call 25; refine (rmay_is _ _ _ _ hm).mono ?_; rintro e w1 ⟨rfl, hb1⟩; have hS1 := keep2 hS hb1; obtain ⟨ca0, ca1, ca2, ca3, ca4, ca5, ca6, ca7, ca8, ca9, ca10, ca11, hz, hB⟩ := id hS1; have hL1 := hL0.below hb1)
    | (go_at_call 12; refine (rtru_is k n t _ ha.1 ha.2 hL1 _ hr).mono ?_; rintro e w2 ⟨rfl, hb2⟩; have hS2 := keep2 hS1 hb2)
    | (go_at_call 55; refine (rthree_no _ _ (by decide)).mono ?_; rintro e w3 ⟨rfl, hb3⟩; have hS3 := keep2 hS2 hb3; obtain ⟨cb0, cb1, cb2, cb3, cb4, cb5, cb6, cb7, cb8, cb9, cb10, cb11, hz3, hB3⟩ := id hS3))
  exact bodyPost_ret (v := .tuple #[.agg #[.int .i64 0, .int .i64 0, .string ⟨#[]⟩], .int .i64 0]) (by simp only [results, Tryz.results19]; go_simp) rfl ⟨rfl, below_setg hB3 (by omega)⟩
theorem runary_not_z (k n : Int) (t : ByteArray) (w : World) (hL : Lits w) (ha : Val.inr n) (hm : Val.may ⟨k, n, t.data.toList⟩ = true) (hr : Hid (Val.tru ⟨k, n, t.data.toList⟩ = 0)) :
    Calls Tryz.prog 19 #[.int .i64 6, .agg #[.int .i64 k, .int .i64 n, .string t]] w (VRet2 1 1 ⟨#[]⟩ 0 w) := by
  have hS := start2 w (.int .i64 k) (.int .i64 n) (.string t) (.int .i64 0) (.int .i64 0) (.string ⟨#[]⟩) 24 24
  have hL0 : Lits ((w.alloc (.cells #[.int .i64 k, .int .i64 n, .string t] 24)).alloc (.cells #[.int .i64 0, .int .i64 0, .string ⟨#[]⟩] 24)) := (hL.alloc _).alloc _
  replace hm := Lib.hid hm
  go_enter Tryz.func19, Tryz.ntmps19
  go_wp2_with (first
    | (go_at_call 25; refine (rmay_is _ _ _ _ hm).mono ?_; rintro e w1 ⟨rfl, hb1⟩; have hS1 := keep2 hS hb1; obtain ⟨ca0, ca1, ca2, ca3, ca4, ca5, ca6, ca7, ca8, ca9, ca10, ca11, hz, hB⟩ := id hS1; have hL1 := hL0.below hb1)
    | (go_at_call 12; refine (rtru_is k n t _ ha.1 ha.2 hL1 _ hr).mono ?_; rintro e w2 ⟨rfl, hb2⟩; have hS2 := keep2 hS1 hb2)
    | (go_at_call 55; refine (rthree_yes _ _ (by decide)).mono ?_; rintro e w3 ⟨rfl, hb3⟩; have hS3 := keep2 hS2 hb3; obtain ⟨cb0, cb1, cb2, cb3, cb4, cb5, cb6, cb7, cb8, cb9, cb10, cb11, hz3, hB3⟩ := id hS3))
  exact bodyPost_ret (v := .tuple #[.agg #[.int .i64 1, .int .i64 1, .string ⟨#[]⟩], .int .i64 0]) (by simp only [results, Tryz.results19]; go_simp) rfl ⟨rfl, below_setg hB3 (by omega)⟩
theorem runary_not_o (k n : Int) (t : ByteArray) (w : World) (hL : Lits w) (ha : Val.inr n) (hm : Val.may ⟨k, n, t.data.toList⟩ = true) (hr : Hid (Val.tru ⟨k, n, t.data.toList⟩ = 1)) :
    Calls Tryz.prog 19 #[.int .i64 6, .agg #[.int .i64 k, .int .i64 n, .string t]] w (VRet2 1 0 ⟨#[]⟩ 0 w) := by
  have hS := start2 w (.int .i64 k) (.int .i64 n) (.string t) (.int .i64 0) (.int .i64 0) (.string ⟨#[]⟩) 24 24
  have hL0 : Lits ((w.alloc (.cells #[.int .i64 k, .int .i64 n, .string t] 24)).alloc (.cells #[.int .i64 0, .int .i64 0, .string ⟨#[]⟩] 24)) := (hL.alloc _).alloc _
  replace hm := Lib.hid hm
  go_enter Tryz.func19, Tryz.ntmps19
  go_wp2_with (first
    | (go_at_call 25; refine (rmay_is _ _ _ _ hm).mono ?_; rintro e w1 ⟨rfl, hb1⟩; have hS1 := keep2 hS hb1; obtain ⟨ca0, ca1, ca2, ca3, ca4, ca5, ca6, ca7, ca8, ca9, ca10, ca11, hz, hB⟩ := id hS1; have hL1 := hL0.below hb1)
    | (go_at_call 12; refine (rtru_is k n t _ ha.1 ha.2 hL1 _ hr).mono ?_; rintro e w2 ⟨rfl, hb2⟩; have hS2 := keep2 hS1 hb2)
    | (go_at_call 55; refine (rthree_yes _ _ (by decide)).mono ?_; rintro e w3 ⟨rfl, hb3⟩; have hS3 := keep2 hS2 hb3; obtain ⟨cb0, cb1, cb2, cb3, cb4, cb5, cb6, cb7, cb8, cb9, cb10, cb11, hz3, hB3⟩ := id hS3))
  exact bodyPost_ret (v := .tuple #[.agg #[.int .i64 1, .int .i64 0, .string ⟨#[]⟩], .int .i64 0]) (by simp only [results, Tryz.results19]; go_simp) rfl ⟨rfl, below_setg hB3 (by omega)⟩
set_option maxHeartbeats 1000000 in
theorem runary_neg_null (k n : Int) (t : ByteArray) (w : World) (hL : Lits w) (hm : Val.may ⟨k, n, t.data.toList⟩ = true) (k' n' : Int) (hnum : Hid (Val.num ⟨k, n, t.data.toList⟩ = ⟨k', n', []⟩)) (hn' : Val.inr n') (h1 : k' = 0) :
    Calls Tryz.prog 19 #[.int .i64 4, .agg #[.int .i64 k, .int .i64 n, .string t]] w (VRet2 0 0 ⟨#[]⟩ 0 w) := by
  have hS := start2 w (.int .i64 k) (.int .i64 n) (.string t) (.int .i64 0) (.int .i64 0) (.string ⟨#[]⟩) 24 24
  have hL0 : Lits ((w.alloc (.cells #[.int .i64 k, .int .i64 n, .string t] 24)).alloc (.cells #[.int .i64 0, .int .i64 0, .string ⟨#[]⟩] 24)) := (hL.alloc _).alloc _
  have b1 : (k' == 0) = true := by simp [h1]
  replace hm := Lib.hid hm
  clear h1 hn'
  go_enter Tryz.func19, Tryz.ntmps19
  go_wp2_with (first
    | (go_at_call 25; refine (rmay_is _ _ _ _ hm).mono ?_; rintro e w1 ⟨rfl, hb1⟩; have hS1 := keep2 hS hb1; obtain ⟨ca0, ca1, ca2, ca3, ca4, ca5, ca6, ca7, ca8, ca9, ca10, ca11, hz, hB⟩ := id hS1; have hL1 := hL0.below hb1)
    | (go_at_call 15; refine (rnum03_is _ _ _ _ hL1 _ _ hnum).mono ?_; rintro e w2 ⟨rfl, hb2⟩; have hS2 := keep2 (keep2 hS1 hb2) (below_new w2 (.cells #[.int .i64 k', .int .i64 n', .string ⟨#[]⟩] 24)); obtain ⟨cb0, cb1, cb2, cb3, cb4, cb5, cb6, cb7, cb8, cb9, cb10, cb11, hz2, hB2⟩ := id hS2)
    | (go_at_call 43; refine (rnull_any _).mono ?_; rintro e w9 ⟨rfl, hb9⟩; have hS9 := keep2 hS2 hb9; obtain ⟨cz0, cz1, cz2, cz3, cz4, cz5, cz6, cz7, cz8, cz9, cz10, cz11, hz9, hB9⟩ := id hS9))
  exact bodyPost_ret (v := .tuple #[.agg #[.int .i64 0, .int .i64 0, .string ⟨#[]⟩], .int .i64 0]) (by simp only [results, Tryz.results19]; go_simp) rfl ⟨rfl, below_setg hB9 (by omega)⟩
set_option maxHeartbeats 1000000 in
theorem runary_neg_min (k n : Int) (t : ByteArray) (w : World) (hL : Lits w) (hm : Val.may ⟨k, n, t.data.toList⟩ = true) (k' n' : Int) (hnum : Hid (Val.num ⟨k, n, t.data.toList⟩ = ⟨k', n', []⟩)) (hn' : Val.inr n') (h1 : k' ≠ 0) (h2 : n' = -9223372036854775808) :
    Calls Tryz.prog 19 #[.int .i64 4, .agg #[.int .i64 k, .int .i64 n, .string t]] w (VRet2 0 0 ⟨#[]⟩ 0 w) := by
  have hS := start2 w (.int .i64 k) (.int .i64 n) (.string t) (.int .i64 0) (.int .i64 0) (.string ⟨#[]⟩) 24 24
  have hL0 : Lits ((w.alloc (.cells #[.int .i64 k, .int .i64 n, .string t] 24)).alloc (.cells #[.int .i64 0, .int .i64 0, .string ⟨#[]⟩] 24)) := (hL.alloc _).alloc _
  have b1 : (k' == 0) = false := by simp [h1]
  have b2 : (n' == -9223372036854775808) = true := by simp [h2]
  replace hm := Lib.hid hm
  clear h1 h2 hn'
  go_enter Tryz.func19, Tryz.ntmps19
  go_wp2_with (first
    | (go_at_call 25; refine (rmay_is _ _ _ _ hm).mono ?_; rintro e w1 ⟨rfl, hb1⟩; have hS1 := keep2 hS hb1; obtain ⟨ca0, ca1, ca2, ca3, ca4, ca5, ca6, ca7, ca8, ca9, ca10, ca11, hz, hB⟩ := id hS1; have hL1 := hL0.below hb1)
    | (go_at_call 15; refine (rnum03_is _ _ _ _ hL1 _ _ hnum).mono ?_; rintro e w2 ⟨rfl, hb2⟩; have hS2 := keep2 (keep2 hS1 hb2) (below_new w2 (.cells #[.int .i64 k', .int .i64 n', .string ⟨#[]⟩] 24)); obtain ⟨cb0, cb1, cb2, cb3, cb4, cb5, cb6, cb7, cb8, cb9, cb10, cb11, hz2, hB2⟩ := id hS2)
    | (go_at_call 43; refine (rnull_any _).mono ?_; rintro e w9 ⟨rfl, hb9⟩; have hS9 := keep2 hS2 hb9; obtain ⟨cz0, cz1, cz2, cz3, cz4, cz5, cz6, cz7, cz8, cz9, cz10, cz11, hz9, hB9⟩ := id hS9))
  exact bodyPost_ret (v := .tuple #[.agg #[.int .i64 0, .int .i64 0, .string ⟨#[]⟩], .int .i64 0]) (by simp only [results, Tryz.results19]; go_simp) rfl ⟨rfl, below_setg hB9 (by omega)⟩
set_option maxHeartbeats 1000000 in
theorem runary_neg_ok (k n : Int) (t : ByteArray) (w : World) (hL : Lits w) (hm : Val.may ⟨k, n, t.data.toList⟩ = true) (k' n' : Int) (hnum : Hid (Val.num ⟨k, n, t.data.toList⟩ = ⟨k', n', []⟩)) (hn' : Val.inr n') (h1 : k' ≠ 0) (h2 : n' ≠ -9223372036854775808) :
    Calls Tryz.prog 19 #[.int .i64 4, .agg #[.int .i64 k, .int .i64 n, .string t]] w (VRet2 1 (-n') ⟨#[]⟩ 0 w) := by
  have hS := start2 w (.int .i64 k) (.int .i64 n) (.string t) (.int .i64 0) (.int .i64 0) (.string ⟨#[]⟩) 24 24
  have hL0 : Lits ((w.alloc (.cells #[.int .i64 k, .int .i64 n, .string t] 24)).alloc (.cells #[.int .i64 0, .int .i64 0, .string ⟨#[]⟩] 24)) := (hL.alloc _).alloc _
  have b1 : (k' == 0) = false := by simp [h1]
  have b2 : (n' == -9223372036854775808) = false := by simp [h2]
  have b3 : IntKind.i64.wrap (-n') = -n' := IntWalk.i64_in _ ⟨by have := hn'.2; omega, by have := hn'.1; omega⟩
  replace hm := Lib.hid hm
  clear h1 h2 hn'
  go_enter Tryz.func19, Tryz.ntmps19
  go_wp2_with (first
    | (go_at_call 25; refine (rmay_is _ _ _ _ hm).mono ?_; rintro e w1 ⟨rfl, hb1⟩; have hS1 := keep2 hS hb1; obtain ⟨ca0, ca1, ca2, ca3, ca4, ca5, ca6, ca7, ca8, ca9, ca10, ca11, hz, hB⟩ := id hS1; have hL1 := hL0.below hb1)
    | (go_at_call 15; refine (rnum03_is _ _ _ _ hL1 _ _ hnum).mono ?_; rintro e w2 ⟨rfl, hb2⟩; have hS2 := keep2 (keep2 hS1 hb2) (below_new w2 (.cells #[.int .i64 k', .int .i64 n', .string ⟨#[]⟩] 24)); obtain ⟨cb0, cb1, cb2, cb3, cb4, cb5, cb6, cb7, cb8, cb9, cb10, cb11, hz2, hB2⟩ := id hS2)
    | (go_at_call 36; refine (rint_any _ _).mono ?_; rintro e w9 ⟨rfl, hb9⟩; have hS9 := keep2 hS2 hb9; obtain ⟨cz0, cz1, cz2, cz3, cz4, cz5, cz6, cz7, cz8, cz9, cz10, cz11, hz9, hB9⟩ := id hS9))
  exact bodyPost_ret (v := .tuple #[.agg #[.int .i64 1, .int .i64 (-n'), .string ⟨#[]⟩], .int .i64 0]) (by simp only [results, Tryz.results19]; go_simp) rfl ⟨rfl, below_setg hB9 (by omega)⟩
/-- WHAT the reference's Unary ANSWERS -/
theorem runary_is (op k n : Int) (t : ByteArray) (w : World) (hL : Lits w) (ha : Val.inr n) (k2 n2 : Int) (t2 : ByteArray) (E : Int) (hv : Hid (Val.unary op ⟨k, n, t.data.toList⟩ = (⟨k2, n2, t2.data.toList⟩, E))) :
    Calls Tryz.prog 19 #[.int .i64 op, .agg #[.int .i64 k, .int .i64 n, .string t]] w (VRet2 k2 n2 t2 E w) := by
  have hv' := hv.out
  rw [Val.unary] at hv'
  by_cases ho : op = 4 ∨ op = 5 ∨ op = 6
  · rw [if_pos ho] at hv'
    cases hm : Val.may ⟨k, n, t.data.toList⟩ with
    | false =>
      rw [if_neg (by rw [hm]; decide), Prod.mk.injEq] at hv'
      obtain ⟨h1, rfl⟩ := hv'
      obtain ⟨rfl, rfl, rfl⟩ := zero_form h1
      rcases ho with rfl | rfl | rfl
      · exact runary_bad4 k n t w hm
      · exact runary_bad5 k n t w hm
      · exact runary_bad6 k n t w hm
    | true =>
      rw [if_pos hm] at hv'
      rcases ho with rfl | rfl | rfl
      · rw [if_pos rfl, Prod.mk.injEq] at hv'
        obtain ⟨h1, rfl⟩ := hv'
        obtain ⟨k', n', hnum, hn', hk, _⟩ := num_form (k := k) (t := t) ha
        rw [hnum] at h1
        simp only at h1
        by_cases hk0 : k' = 0
        · rw [if_pos hk0] at h1
          obtain ⟨rfl, rfl, rfl⟩ := zero_form h1
          exact runary_neg_null k n t w hL hm k' n' (Lib.hid hnum) hn' hk0
        · rw [if_neg hk0, Val.fit] at h1
          by_cases hmin : n' = -9223372036854775808
          · rw [if_neg (by omega)] at h1
            obtain ⟨rfl, rfl, rfl⟩ := zero_form h1
            exact runary_neg_min k n t w hL hm k' n' (Lib.hid hnum) hn' hk0 hmin
          · rw [if_pos (by have := hn'.1; have := hn'.2; omega)] at h1
            simp only [Val.V.mk.injEq] at h1
            obtain ⟨rfl, hn2, ht⟩ := h1
            have := text_nil ht.symm
            subst this
            have e2 : n2 = -n' := by omega
            subst e2
            exact runary_neg_ok k n t w hL hm k' n' (Lib.hid hnum) hn' hk0 hmin
      · rw [if_neg (by decide), if_pos rfl, Prod.mk.injEq] at hv'
        obtain ⟨h1, rfl⟩ := hv'
        simp only [Val.V.mk.injEq] at h1
        obtain ⟨rfl, rfl, ht⟩ := h1
        have := bytes_inj' ht
        subst this
        exact runary_plus k n t w hm
      · rw [if_neg (by decide), if_neg (by decide), Prod.mk.injEq] at hv'
        obtain ⟨h1, rfl⟩ := hv'
        rcases Val.tru_cases ⟨k, n, t.data.toList⟩ with h | h | h
        all_goals (
          rw [h] at h1
          simp only [Val.three, Val.zero, Val.V.mk.injEq] at h1
          simp at h1
          obtain ⟨rfl, rfl, ht⟩ := h1)
        · have := text_nil (t := t2) (by simpa using ht.symm)
          subst this
          exact runary_not_m k n t w hL ha hm (Lib.hid h)
        · have := text_nil (t := t2) (by simpa using ht.symm)
          subst this
          exact runary_not_z k n t w hL ha hm (Lib.hid h)
        · have := text_nil (t := t2) (by simpa using ht.symm)
          subst this
          exact runary_not_o k n t w hL ha hm (Lib.hid h)
  · rw [if_neg ho, Prod.mk.injEq] at hv'
    obtain ⟨h1, rfl⟩ := hv'
    obtain ⟨rfl, rfl, rfl⟩ := zero_form h1
    exact runary_none op k n t w ho

theorem rbinary_lo (op : Int) (ka na : Int) (ta : ByteArray) (kb nb : Int) (tb : ByteArray) (c : Int) (w : World) (h : op < 7) : Calls Tryz.prog 21 #[.int .i64 op, .agg #[.int .i64 ka, .int .i64 na, .string ta], .agg #[.int .i64 kb, .int .i64 nb, .string tb], .int .i64 c] w (VRet2 0 0 ⟨#[]⟩ 130 w) := by
  have hS := start3 w (.int .i64 ka) (.int .i64 na) (.string ta) (.int .i64 kb) (.int .i64 nb) (.string tb) (.int .i64 0) (.int .i64 0) (.string ⟨#[]⟩) 24 24 24
  have b1 : decide (op < 7) = true := decide_eq_true h
  clear h
  go_enter Tryz.func21, Tryz.ntmps21
  go_wp2_with (go_at_call 43; refine (rnull_any _).mono ?_; rintro e w9 ⟨rfl, hb9⟩; have hS9 := keep3 hS hb9; obtain ⟨cz0, cz1, cz2, cz3, cz4, cz5, cz6, cz7, cz8, cz9, cz10, cz11, cz12, cz13, cz14, cz15, cz16, cz17, hz9, hB9⟩ := id hS9)
  exact bodyPost_ret (v := .tuple #[.agg #[.int .i64 0, .int .i64 0, .string ⟨#[]⟩], .int .i64 130]) (by simp only [results, Tryz.results21]; go_simp) rfl ⟨rfl, below_setg hB9 (by omega)⟩
theorem rbinary_hi (op : Int) (ka na : Int) (ta : ByteArray) (kb nb : Int) (tb : ByteArray) (c : Int) (w : World) (h : 22 < op) : Calls Tryz.prog 21 #[.int .i64 op, .agg #[.int .i64 ka, .int .i64 na, .string ta], .agg #[.int .i64 kb, .int .i64 nb, .string tb], .int .i64 c] w (VRet2 0 0 ⟨#[]⟩ 130 w) := by
  have hS := start3 w (.int .i64 ka) (.int .i64 na) (.string ta) (.int .i64 kb) (.int .i64 nb) (.string tb) (.int .i64 0) (.int .i64 0) (.string ⟨#[]⟩) 24 24 24
  have b1 : decide (op < 7) = false := decide_eq_false (by omega)
  have b2 : decide (op > 22) = true := decide_eq_true h
  clear h
  go_enter Tryz.func21, Tryz.ntmps21
  go_wp2_with (go_at_call 43; refine (rnull_any _).mono ?_; rintro e w9 ⟨rfl, hb9⟩; have hS9 := keep3 hS hb9; obtain ⟨cz0, cz1, cz2, cz3, cz4, cz5, cz6, cz7, cz8, cz9, cz10, cz11, cz12, cz13, cz14, cz15, cz16, cz17, hz9, hB9⟩ := id hS9)
  exact bodyPost_ret (v := .tuple #[.agg #[.int .i64 0, .int .i64 0, .string ⟨#[]⟩], .int .i64 130]) (by simp only [results, Tryz.results21]; go_simp) rfl ⟨rfl, below_setg hB9 (by omega)⟩
theorem rbinary_bad1 (op : Int) (ka na : Int) (ta : ByteArray) (kb nb : Int) (tb : ByteArray) (c : Int) (w : World) (h : 7 ≤ op ∧ op ≤ 22) (hm1 : Val.may ⟨ka, na, ta.data.toList⟩ = false) : Calls Tryz.prog 21 #[.int .i64 op, .agg #[.int .i64 ka, .int .i64 na, .string ta], .agg #[.int .i64 kb, .int .i64 nb, .string tb], .int .i64 c] w (VRet2 0 0 ⟨#[]⟩ 2 w) := by
  have hS := start3 w (.int .i64 ka) (.int .i64 na) (.string ta) (.int .i64 kb) (.int .i64 nb) (.string tb) (.int .i64 0) (.int .i64 0) (.string ⟨#[]⟩) 24 24 24
  have b1 : decide (op < 7) = false := decide_eq_false (by omega)
  have b2 : decide (op > 22) = false := decide_eq_false (by omega)
  clear h
  replace hm1 := Lib.hid hm1
  go_enter Tryz.func21, Tryz.ntmps21
  go_wp2_with (first
    | (go_at_call 25; (refine (rmay_is _ _ _ _ hm1).mono ?_; rintro e w1 ⟨rfl, hb1⟩; have hS1 := keep3 hS hb1; obtain ⟨ca0, ca1, ca2, ca3, ca4, ca5, ca6, ca7, ca8, ca9, ca10, ca11, ca12, ca13, ca14, ca15, ca16, ca17, hz, hB⟩ := id hS1))
    | (go_at_call 43; refine (rnull_any _).mono ?_; rintro e w9 ⟨rfl, hb9⟩; have hS9 := keep3 hS1 hb9; obtain ⟨cz0, cz1, cz2, cz3, cz4, cz5, cz6, cz7, cz8, cz9, cz10, cz11, cz12, cz13, cz14, cz15, cz16, cz17, hz9, hB9⟩ := id hS9))
  exact bodyPost_ret (v := .tuple #[.agg #[.int .i64 0, .int .i64 0, .string ⟨#[]⟩], .int .i64 2]) (by simp only [results, Tryz.results21]; go_simp) rfl ⟨rfl, below_setg hB9 (by omega)⟩
theorem rbinary_bad2 (op : Int) (ka na : Int) (ta : ByteArray) (kb nb : Int) (tb : ByteArray) (c : Int) (w : World) (h : 7 ≤ op ∧ op ≤ 22) (hm1 : Val.may ⟨ka, na, ta.data.toList⟩ = true) (hm2 : Val.may ⟨kb, nb, tb.data.toList⟩ = false) : Calls Tryz.prog 21 #[.int .i64 op, .agg #[.int .i64 ka, .int .i64 na, .string ta], .agg #[.int .i64 kb, .int .i64 nb, .string tb], .int .i64 c] w (VRet2 0 0 ⟨#[]⟩ 2 w) := by
  have hS := start3 w (.int .i64 ka) (.int .i64 na) (.string ta) (.int .i64 kb) (.int .i64 nb) (.string tb) (.int .i64 0) (.int .i64 0) (.string ⟨#[]⟩) 24 24 24
  have b1 : decide (op < 7) = false := decide_eq_false (by omega)
  have b2 : decide (op > 22) = false := decide_eq_false (by omega)
  clear h
  replace hm1 := Lib.hid hm1
  replace hm2 := Lib.hid hm2
  go_enter Tryz.func21, Tryz.ntmps21
  go_wp2_with (first
    | (go_at_call 25; first | (have hq := hS1; refine (rmay_is _ _ _ _ hm2).mono ?_; rintro e w2 ⟨rfl, hb2⟩; have hS2 := keep3 hS1 hb2; obtain ⟨cb0, cb1, cb2, cb3, cb4, cb5, cb6, cb7, cb8, cb9, cb10, cb11, cb12, cb13, cb14, cb15, cb16, cb17, hz2, hB2⟩ := id hS2) | (refine (rmay_is _ _ _ _ hm1).mono ?_; rintro e w1 ⟨rfl, hb1⟩; have hS1 := keep3 hS hb1; obtain ⟨ca0, ca1, ca2, ca3, ca4, ca5, ca6, ca7, ca8, ca9, ca10, ca11, ca12, ca13, ca14, ca15, ca16, ca17, hz, hB⟩ := id hS1))
    | (go_at_call 43; refine (rnull_any _).mono ?_; rintro e w9 ⟨rfl, hb9⟩; have hS9 := keep3 hS2 hb9; obtain ⟨cz0, cz1, cz2, cz3, cz4, cz5, cz6, cz7, cz8, cz9, cz10, cz11, cz12, cz13, cz14, cz15, cz16, cz17, hz9, hB9⟩ := id hS9))
  exact bodyPost_ret (v := .tuple #[.agg #[.int .i64 0, .int .i64 0, .string ⟨#[]⟩], .int .i64 2]) (by simp only [results, Tryz.results21]; go_simp) rfl ⟨rfl, below_setg hB9 (by omega)⟩
set_option maxHeartbeats 2000000 in
theorem rbinary_arith_null1 (op : Int) (ka na : Int) (ta : ByteArray) (kb nb : Int) (tb : ByteArray) (c : Int) (w : World) (hL : Lits w) (h : 7 ≤ op ∧ op ≤ 11) (hm1 : Val.may ⟨ka, na, ta.data.toList⟩ = true) (hm2 : Val.may ⟨kb, nb, tb.data.toList⟩ = true) (k1 n1 k2 n2 : Int) (hv1 : Hid (Val.num ⟨ka, na, ta.data.toList⟩ = ⟨k1, n1, []⟩)) (hv2 : Hid (Val.num ⟨kb, nb, tb.data.toList⟩ = ⟨k2, n2, []⟩)) (h1 : k1 = 0) : Calls Tryz.prog 21 #[.int .i64 op, .agg #[.int .i64 ka, .int .i64 na, .string ta], .agg #[.int .i64 kb, .int .i64 nb, .string tb], .int .i64 c] w (VRet2 0 0 ⟨#[]⟩ 0 w) := by
  have hS := start3 w (.int .i64 ka) (.int .i64 na) (.string ta) (.int .i64 kb) (.int .i64 nb) (.string tb) (.int .i64 0) (.int .i64 0) (.string ⟨#[]⟩) 24 24 24
  have hL0 : Lits (((w.alloc (.cells #[.int .i64 ka, .int .i64 na, .string ta] 24)).alloc (.cells #[.int .i64 kb, .int .i64 nb, .string tb] 24)).alloc (.cells #[.int .i64 0, .int .i64 0, .string ⟨#[]⟩] 24)) := ((hL.alloc _).alloc _).alloc _
  have b1 : decide (op < 7) = false := decide_eq_false (by omega)
  have b2 : decide (op > 22) = false := decide_eq_false (by omega)
  have b3 : decide (op ≤ 11) = true := decide_eq_true h.2
  have b4 : (k1 == 0) = true := by simp [h1]
  replace hm1 := Lib.hid hm1
  replace hm2 := Lib.hid hm2
  clear h1
  go_enter Tryz.func21, Tryz.ntmps21
  go_wp2_with (first
    | (go_at_call 25; first | (have hq := hS1; refine (rmay_is _ _ _ _ hm2).mono ?_; rintro e w2 ⟨rfl, hb2⟩; have hS2 := keep3 hS1 hb2; have hL2 := (hL0.below hb1).below hb2; obtain ⟨cb0, cb1, cb2, cb3, cb4, cb5, cb6, cb7, cb8, cb9, cb10, cb11, cb12, cb13, cb14, cb15, cb16, cb17, hz2, hB2⟩ := id hS2) | (refine (rmay_is _ _ _ _ hm1).mono ?_; rintro e w1 ⟨rfl, hb1⟩; have hS1 := keep3 hS hb1; obtain ⟨ca0, ca1, ca2, ca3, ca4, ca5, ca6, ca7, ca8, ca9, ca10, ca11, ca12, ca13, ca14, ca15, ca16, ca17, hz, hB⟩ := id hS1))
    | (go_at_call 15; first | (refine (rnum03_is _ _ _ _ hL3 _ _ hv2).mono ?_; rintro e w4 ⟨rfl, hb4⟩; have hS4 := keep3 (keep3 hS3 hb4) (below_new w4 (.cells #[.int .i64 k2, .int .i64 n2, .string ⟨#[]⟩] 24)); obtain ⟨cd0, cd1, cd2, cd3, cd4, cd5, cd6, cd7, cd8, cd9, cd10, cd11, cd12, cd13, cd14, cd15, cd16, cd17, hz4, hB4⟩ := id hS4; obtain ⟨x0, x1, x2, x3, x4, x5⟩ := cells3 (hb4.trans ((below_new w4 (.cells #[.int .i64 k2, .int .i64 n2, .string ⟨#[]⟩] 24)).mono hb4.size)) (by simp) (heap_new w3 (.cells #[.int .i64 k1, .int .i64 n1, .string ⟨#[]⟩] 24))) | (refine (rnum03_is _ _ _ _ hL2 _ _ hv1).mono ?_; rintro e w3 ⟨rfl, hb3⟩; have hS3 := keep3 (keep3 hS2 hb3) (below_new w3 (.cells #[.int .i64 k1, .int .i64 n1, .string ⟨#[]⟩] 24)); obtain ⟨cc0, cc1, cc2, cc3, cc4, cc5, cc6, cc7, cc8, cc9, cc10, cc11, cc12, cc13, cc14, cc15, cc16, cc17, hz3, hB3⟩ := id hS3; have hL3 := (hL2.below hb3).alloc (.cells #[.int .i64 k1, .int .i64 n1, .string ⟨#[]⟩] 24)))
    | (go_at_call 43; refine (rnull_any _).mono ?_; rintro e w9 ⟨rfl, hb9⟩; have hS9 := keep3 hS4 hb9; obtain ⟨cz0, cz1, cz2, cz3, cz4, cz5, cz6, cz7, cz8, cz9, cz10, cz11, cz12, cz13, cz14, cz15, cz16, cz17, hz9, hB9⟩ := id hS9))
  exact bodyPost_ret (v := .tuple #[.agg #[.int .i64 0, .int .i64 0, .string ⟨#[]⟩], .int .i64 0]) (by simp only [results, Tryz.results21]; go_simp) rfl ⟨rfl, below_setg hB9 (by omega)⟩
set_option maxHeartbeats 2000000 in
theorem rbinary_arith_null2 (op : Int) (ka na : Int) (ta : ByteArray) (kb nb : Int) (tb : ByteArray) (c : Int) (w : World) (hL : Lits w) (h : 7 ≤ op ∧ op ≤ 11) (hm1 : Val.may ⟨ka, na, ta.data.toList⟩ = true) (hm2 : Val.may ⟨kb, nb, tb.data.toList⟩ = true) (k1 n1 k2 n2 : Int) (hv1 : Hid (Val.num ⟨ka, na, ta.data.toList⟩ = ⟨k1, n1, []⟩)) (hv2 : Hid (Val.num ⟨kb, nb, tb.data.toList⟩ = ⟨k2, n2, []⟩)) (h1 : k1 ≠ 0) (h2 : k2 = 0) : Calls Tryz.prog 21 #[.int .i64 op, .agg #[.int .i64 ka, .int .i64 na, .string ta], .agg #[.int .i64 kb, .int .i64 nb, .string tb], .int .i64 c] w (VRet2 0 0 ⟨#[]⟩ 0 w) := by
  have hS := start3 w (.int .i64 ka) (.int .i64 na) (.string ta) (.int .i64 kb) (.int .i64 nb) (.string tb) (.int .i64 0) (.int .i64 0) (.string ⟨#[]⟩) 24 24 24
  have hL0 : Lits (((w.alloc (.cells #[.int .i64 ka, .int .i64 na, .string ta] 24)).alloc (.cells #[.int .i64 kb, .int .i64 nb, .string tb] 24)).alloc (.cells #[.int .i64 0, .int .i64 0, .string ⟨#[]⟩] 24)) := ((hL.alloc _).alloc _).alloc _
  have b1 : decide (op < 7) = false := decide_eq_false (by omega)
  have b2 : decide (op > 22) = false := decide_eq_false (by omega)
  have b3 : decide (op ≤ 11) = true := decide_eq_true h.2
  have b4 : (k1 == 0) = false := by simp [h1]
  have b5 : (k2 == 0) = true := by simp [h2]
  replace hm1 := Lib.hid hm1
  replace hm2 := Lib.hid hm2
  clear h1 h2
  go_enter Tryz.func21, Tryz.ntmps21
  go_wp2_with (first
    | (go_at_call 25; first | (have hq := hS1; refine (rmay_is _ _ _ _ hm2).mono ?_; rintro e w2 ⟨rfl, hb2⟩; have hS2 := keep3 hS1 hb2; have hL2 := (hL0.below hb1).below hb2; obtain ⟨cb0, cb1, cb2, cb3, cb4, cb5, cb6, cb7, cb8, cb9, cb10, cb11, cb12, cb13, cb14, cb15, cb16, cb17, hz2, hB2⟩ := id hS2) | (refine (rmay_is _ _ _ _ hm1).mono ?_; rintro e w1 ⟨rfl, hb1⟩; have hS1 := keep3 hS hb1; obtain ⟨ca0, ca1, ca2, ca3, ca4, ca5, ca6, ca7, ca8, ca9, ca10, ca11, ca12, ca13, ca14, ca15, ca16, ca17, hz, hB⟩ := id hS1))
    | (go_at_call 15; first | (refine (rnum03_is _ _ _ _ hL3 _ _ hv2).mono ?_; rintro e w4 ⟨rfl, hb4⟩; have hS4 := keep3 (keep3 hS3 hb4) (below_new w4 (.cells #[.int .i64 k2, .int .i64 n2, .string ⟨#[]⟩] 24)); obtain ⟨cd0, cd1, cd2, cd3, cd4, cd5, cd6, cd7, cd8, cd9, cd10, cd11, cd12, cd13, cd14, cd15, cd16, cd17, hz4, hB4⟩ := id hS4; obtain ⟨x0, x1, x2, x3, x4, x5⟩ := cells3 (hb4.trans ((below_new w4 (.cells #[.int .i64 k2, .int .i64 n2, .string ⟨#[]⟩] 24)).mono hb4.size)) (by simp) (heap_new w3 (.cells #[.int .i64 k1, .int .i64 n1, .string ⟨#[]⟩] 24))) | (refine (rnum03_is _ _ _ _ hL2 _ _ hv1).mono ?_; rintro e w3 ⟨rfl, hb3⟩; have hS3 := keep3 (keep3 hS2 hb3) (below_new w3 (.cells #[.int .i64 k1, .int .i64 n1, .string ⟨#[]⟩] 24)); obtain ⟨cc0, cc1, cc2, cc3, cc4, cc5, cc6, cc7, cc8, cc9, cc10, cc11, cc12, cc13, cc14, cc15, cc16, cc17, hz3, hB3⟩ := id hS3; have hL3 := (hL2.below hb3).alloc (.cells #[.int .i64 k1, .int .i64 n1, .string ⟨#[]⟩] 24)))
    | (go_at_call 43; refine (rnull_any _).mono ?_; rintro e w9 ⟨rfl, hb9⟩; have hS9 := keep3 hS4 hb9; obtain ⟨cz0, cz1, cz2, cz3, cz4, cz5, cz6, cz7, cz8, cz9, cz10, cz11, cz12, cz13, cz14, cz15, cz16, cz17, hz9, hB9⟩ := id hS9))
  exact bodyPost_ret (v := .tuple #[.agg #[.int .i64 0, .int .i64 0, .string ⟨#[]⟩], .int .i64 0]) (by simp only [results, Tryz.results21]; go_simp) rfl ⟨rfl, below_setg hB9 (by omega)⟩
set_option maxHeartbeats 2000000 in
theorem rbinary_arith_ok (op : Int) (ka na : Int) (ta : ByteArray) (kb nb : Int) (tb : ByteArray) (c : Int) (w : World) (hL : Lits w) (h : 7 ≤ op ∧ op ≤ 11) (hm1 : Val.may ⟨ka, na, ta.data.toList⟩ = true) (hm2 : Val.may ⟨kb, nb, tb.data.toList⟩ = true) (k1 n1 k2 n2 : Int) (hv1 : Hid (Val.num ⟨ka, na, ta.data.toList⟩ = ⟨k1, n1, []⟩)) (hv2 : Hid (Val.num ⟨kb, nb, tb.data.toList⟩ = ⟨k2, n2, []⟩)) (h1 : k1 ≠ 0) (h2 : k2 ≠ 0) (i1 : Val.inr n1) (i2 : Val.inr n2) (k n : Int) (hv : Hid (Val.arith op n1 n2 = ⟨k, n, []⟩)) : Calls Tryz.prog 21 #[.int .i64 op, .agg #[.int .i64 ka, .int .i64 na, .string ta], .agg #[.int .i64 kb, .int .i64 nb, .string tb], .int .i64 c] w (VRet2 k n ⟨#[]⟩ 0 w) := by
  have hS := start3 w (.int .i64 ka) (.int .i64 na) (.string ta) (.int .i64 kb) (.int .i64 nb) (.string tb) (.int .i64 0) (.int .i64 0) (.string ⟨#[]⟩) 24 24 24
  have hL0 : Lits (((w.alloc (.cells #[.int .i64 ka, .int .i64 na, .string ta] 24)).alloc (.cells #[.int .i64 kb, .int .i64 nb, .string tb] 24)).alloc (.cells #[.int .i64 0, .int .i64 0, .string ⟨#[]⟩] 24)) := ((hL.alloc _).alloc _).alloc _
  have b1 : decide (op < 7) = false := decide_eq_false (by omega)
  have b2 : decide (op > 22) = false := decide_eq_false (by omega)
  have b3 : decide (op ≤ 11) = true := decide_eq_true h.2
  have b4 : (k1 == 0) = false := by simp [h1]
  have b5 : (k2 == 0) = false := by simp [h2]
  replace hm1 := Lib.hid hm1
  replace hm2 := Lib.hid hm2
  have hh := h
  have i1h := Lib.hid i1
  have i2h := Lib.hid i2
  clear i1 i2
  clear h1 h2
  go_enter Tryz.func21, Tryz.ntmps21
  go_wp2_with (first
    | (go_at_call 25; first | (have hq := hS1; refine (rmay_is _ _ _ _ hm2).mono ?_; rintro e w2 ⟨rfl, hb2⟩; have hS2 := keep3 hS1 hb2; have hL2 := (hL0.below hb1).below hb2; obtain ⟨cb0, cb1, cb2, cb3, cb4, cb5, cb6, cb7, cb8, cb9, cb10, cb11, cb12, cb13, cb14, cb15, cb16, cb17, hz2, hB2⟩ := id hS2) | (refine (rmay_is _ _ _ _ hm1).mono ?_; rintro e w1 ⟨rfl, hb1⟩; have hS1 := keep3 hS hb1; obtain ⟨ca0, ca1, ca2, ca3, ca4, ca5, ca6, ca7, ca8, ca9, ca10, ca11, ca12, ca13, ca14, ca15, ca16, ca17, hz, hB⟩ := id hS1))
    | (go_at_call 15; first | (refine (rnum03_is _ _ _ _ hL3 _ _ hv2).mono ?_; rintro e w4 ⟨rfl, hb4⟩; have hS4 := keep3 (keep3 hS3 hb4) (below_new w4 (.cells #[.int .i64 k2, .int .i64 n2, .string ⟨#[]⟩] 24)); obtain ⟨cd0, cd1, cd2, cd3, cd4, cd5, cd6, cd7, cd8, cd9, cd10, cd11, cd12, cd13, cd14, cd15, cd16, cd17, hz4, hB4⟩ := id hS4; obtain ⟨x0, x1, x2, x3, x4, x5⟩ := cells3 (hb4.trans ((below_new w4 (.cells #[.int .i64 k2, .int .i64 n2, .string ⟨#[]⟩] 24)).mono hb4.size)) (by simp) (heap_new w3 (.cells #[.int .i64 k1, .int .i64 n1, .string ⟨#[]⟩] 24))) | (refine (rnum03_is _ _ _ _ hL2 _ _ hv1).mono ?_; rintro e w3 ⟨rfl, hb3⟩; have hS3 := keep3 (keep3 hS2 hb3) (below_new w3 (.cells #[.int .i64 k1, .int .i64 n1, .string ⟨#[]⟩] 24)); obtain ⟨cc0, cc1, cc2, cc3, cc4, cc5, cc6, cc7, cc8, cc9, cc10, cc11, cc12, cc13, cc14, cc15, cc16, cc17, hz3, hB3⟩ := id hS3; have hL3 := (hL2.below hb3).alloc (.cells #[.int .i64 k1, .int .i64 n1, .string ⟨#[]⟩] 24)))
    | (go_at_call 57; refine (rarith_is _ _ _ _ hh i1h.out i2h.out _ _ hv).mono ?_; rintro e w9 ⟨rfl, hb9⟩; have hS9 := keep3 hS4 hb9; obtain ⟨cz0, cz1, cz2, cz3, cz4, cz5, cz6, cz7, cz8, cz9, cz10, cz11, cz12, cz13, cz14, cz15, cz16, cz17, hz9, hB9⟩ := id hS9))
  exact bodyPost_ret (v := .tuple #[.agg #[.int .i64 k, .int .i64 n, .string ⟨#[]⟩], .int .i64 0]) (by simp only [results, Tryz.results21]; go_simp) rfl ⟨rfl, below_setg hB9 (by omega)⟩
set_option maxHeartbeats 2000000 in
theorem rbinary_concat_null1 (ka na : Int) (ta : ByteArray) (kb nb : Int) (tb : ByteArray) (c : Int) (w : World) (hL : Lits w) (ha : Val.inr na) (hb : Val.inr nb) (hm1 : Val.may ⟨ka, na, ta.data.toList⟩ = true) (hm2 : Val.may ⟨kb, nb, tb.data.toList⟩ = true) (k1 k2 : Int) (s1 s2 : ByteArray) (hv1 : Hid (Val.pshow ⟨ka, na, ta.data.toList⟩ = ⟨k1, 0, s1.data.toList⟩)) (hv2 : Hid (Val.pshow ⟨kb, nb, tb.data.toList⟩ = ⟨k2, 0, s2.data.toList⟩)) (h1 : k1 = 0) : Calls Tryz.prog 21 #[.int .i64 12, .agg #[.int .i64 ka, .int .i64 na, .string ta], .agg #[.int .i64 kb, .int .i64 nb, .string tb], .int .i64 c] w (VRet2 0 0 ⟨#[]⟩ 0 w) := by
  have hS := start3 w (.int .i64 ka) (.int .i64 na) (.string ta) (.int .i64 kb) (.int .i64 nb) (.string tb) (.int .i64 0) (.int .i64 0) (.string ⟨#[]⟩) 24 24 24
  have hL0 : Lits (((w.alloc (.cells #[.int .i64 ka, .int .i64 na, .string ta] 24)).alloc (.cells #[.int .i64 kb, .int .i64 nb, .string tb] 24)).alloc (.cells #[.int .i64 0, .int .i64 0, .string ⟨#[]⟩] 24)) := ((hL.alloc _).alloc _).alloc _
  have b4 : (k1 == 0) = true := by simp [h1]
  replace hm1 := Lib.hid hm1
  replace hm2 := Lib.hid hm2
  have ah := Lib.hid ha
  have bh := Lib.hid hb
  clear ha hb h1
  go_enter Tryz.func21, Tryz.ntmps21
  go_wp2_with (first
    | (go_at_call 25; first | (have hq := hS1; refine (rmay_is _ _ _ _ hm2).mono ?_; rintro e w2 ⟨rfl, hb2⟩; have hS2 := keep3 hS1 hb2; have hL2 := (hL0.below hb1).below hb2; obtain ⟨cb0, cb1, cb2, cb3, cb4, cb5, cb6, cb7, cb8, cb9, cb10, cb11, cb12, cb13, cb14, cb15, cb16, cb17, hz2, hB2⟩ := id hS2) | (refine (rmay_is _ _ _ _ hm1).mono ?_; rintro e w1 ⟨rfl, hb1⟩; have hS1 := keep3 hS hb1; obtain ⟨ca0, ca1, ca2, ca3, ca4, ca5, ca6, ca7, ca8, ca9, ca10, ca11, ca12, ca13, ca14, ca15, ca16, ca17, hz, hB⟩ := id hS1))
    | (go_at_call 17; first | (refine (rshow_is _ _ _ _ bh.out.1 bh.out.2 hL3 _ _ hv2).mono ?_; rintro e w4 ⟨rfl, hb4⟩; have hS4 := keep3 (keep3 hS3 hb4) (below_new w4 (.cells #[.int .i64 k2, .int .i64 0, .string s2] 24)); obtain ⟨cd0, cd1, cd2, cd3, cd4, cd5, cd6, cd7, cd8, cd9, cd10, cd11, cd12, cd13, cd14, cd15, cd16, cd17, hz4, hB4⟩ := id hS4; obtain ⟨x0, x1, x2, x3, x4, x5⟩ := cells3 (hb4.trans ((below_new w4 (.cells #[.int .i64 k2, .int .i64 0, .string s2] 24)).mono hb4.size)) (by simp) (heap_new w3 (.cells #[.int .i64 k1, .int .i64 0, .string s1] 24))) | (refine (rshow_is _ _ _ _ ah.out.1 ah.out.2 hL2 _ _ hv1).mono ?_; rintro e w3 ⟨rfl, hb3⟩; have hS3 := keep3 (keep3 hS2 hb3) (below_new w3 (.cells #[.int .i64 k1, .int .i64 0, .string s1] 24)); obtain ⟨cc0, cc1, cc2, cc3, cc4, cc5, cc6, cc7, cc8, cc9, cc10, cc11, cc12, cc13, cc14, cc15, cc16, cc17, hz3, hB3⟩ := id hS3; have hL3 := (hL2.below hb3).alloc (.cells #[.int .i64 k1, .int .i64 0, .string s1] 24)))
    | (go_at_call 43; refine (rnull_any _).mono ?_; rintro e w9 ⟨rfl, hb9⟩; have hS9 := keep3 hS4 hb9; obtain ⟨cz0, cz1, cz2, cz3, cz4, cz5, cz6, cz7, cz8, cz9, cz10, cz11, cz12, cz13, cz14, cz15, cz16, cz17, hz9, hB9⟩ := id hS9))
  exact bodyPost_ret (v := .tuple #[.agg #[.int .i64 0, .int .i64 0, .string ⟨#[]⟩], .int .i64 0]) (by simp only [results, Tryz.results21]; go_simp) rfl ⟨rfl, below_setg hB9 (by omega)⟩
set_option maxHeartbeats 2000000 in
theorem rbinary_concat_null2 (ka na : Int) (ta : ByteArray) (kb nb : Int) (tb : ByteArray) (c : Int) (w : World) (hL : Lits w) (ha : Val.inr na) (hb : Val.inr nb) (hm1 : Val.may ⟨ka, na, ta.data.toList⟩ = true) (hm2 : Val.may ⟨kb, nb, tb.data.toList⟩ = true) (k1 k2 : Int) (s1 s2 : ByteArray) (hv1 : Hid (Val.pshow ⟨ka, na, ta.data.toList⟩ = ⟨k1, 0, s1.data.toList⟩)) (hv2 : Hid (Val.pshow ⟨kb, nb, tb.data.toList⟩ = ⟨k2, 0, s2.data.toList⟩)) (h1 : k1 ≠ 0) (h2 : k2 = 0) : Calls Tryz.prog 21 #[.int .i64 12, .agg #[.int .i64 ka, .int .i64 na, .string ta], .agg #[.int .i64 kb, .int .i64 nb, .string tb], .int .i64 c] w (VRet2 0 0 ⟨#[]⟩ 0 w) := by
  have hS := start3 w (.int .i64 ka) (.int .i64 na) (.string ta) (.int .i64 kb) (.int .i64 nb) (.string tb) (.int .i64 0) (.int .i64 0) (.string ⟨#[]⟩) 24 24 24
  have hL0 : Lits (((w.alloc (.cells #[.int .i64 ka, .int .i64 na, .string ta] 24)).alloc (.cells #[.int .i64 kb, .int .i64 nb, .string tb] 24)).alloc (.cells #[.int .i64 0, .int .i64 0, .string ⟨#[]⟩] 24)) := ((hL.alloc _).alloc _).alloc _
  have b4 : (k1 == 0) = false := by simp [h1]
  have b5 : (k2 == 0) = true := by simp [h2]
  replace hm1 := Lib.hid hm1
  replace hm2 := Lib.hid hm2
  have ah := Lib.hid ha
  have bh := Lib.hid hb
  clear ha hb h1 h2
  go_enter Tryz.func21, Tryz.ntmps21
  go_wp2_with (first
    | (go_at_call 25; first | (have hq := hS1; refine (rmay_is _ _ _ _ hm2).mono ?_; rintro e w2 ⟨rfl, hb2⟩; have hS2 := keep3 hS1 hb2; have hL2 := (hL0.below hb1).below hb2; obtain ⟨cb0, cb1, cb2, cb3, cb4, cb5, cb6, cb7, cb8, cb9, cb10, cb11, cb12, cb13, cb14, cb15, cb16, cb17, hz2, hB2⟩ := id hS2) | (refine (rmay_is _ _ _ _ hm1).mono ?_; rintro e w1 ⟨rfl, hb1⟩; have hS1 := keep3 hS hb1; obtain ⟨ca0, ca1, ca2, ca3, ca4, ca5, ca6, ca7, ca8, ca9, ca10, ca11, ca12, ca13, ca14, ca15, ca16, ca17, hz, hB⟩ := id hS1))
    | (go_at_call 17; first | (refine (rshow_is _ _ _ _ bh.out.1 bh.out.2 hL3 _ _ hv2).mono ?_; rintro e w4 ⟨rfl, hb4⟩; have hS4 := keep3 (keep3 hS3 hb4) (below_new w4 (.cells #[.int .i64 k2, .int .i64 0, .string s2] 24)); obtain ⟨cd0, cd1, cd2, cd3, cd4, cd5, cd6, cd7, cd8, cd9, cd10, cd11, cd12, cd13, cd14, cd15, cd16, cd17, hz4, hB4⟩ := id hS4; obtain ⟨x0, x1, x2, x3, x4, x5⟩ := cells3 (hb4.trans ((below_new w4 (.cells #[.int .i64 k2, .int .i64 0, .string s2] 24)).mono hb4.size)) (by simp) (heap_new w3 (.cells #[.int .i64 k1, .int .i64 0, .string s1] 24))) | (refine (rshow_is _ _ _ _ ah.out.1 ah.out.2 hL2 _ _ hv1).mono ?_; rintro e w3 ⟨rfl, hb3⟩; have hS3 := keep3 (keep3 hS2 hb3) (below_new w3 (.cells #[.int .i64 k1, .int .i64 0, .string s1] 24)); obtain ⟨cc0, cc1, cc2, cc3, cc4, cc5, cc6, cc7, cc8, cc9, cc10, cc11, cc12, cc13, cc14, cc15, cc16, cc17, hz3, hB3⟩ := id hS3; have hL3 := (hL2.below hb3).alloc (.cells #[.int .i64 k1, .int .i64 0, .string s1] 24)))
    | (go_at_call 43; refine (rnull_any _).mono ?_; rintro e w9 ⟨rfl, hb9⟩; have hS9 := keep3 hS4 hb9; obtain ⟨cz0, cz1, cz2, cz3, cz4, cz5, cz6, cz7, cz8, cz9, cz10, cz11, cz12, cz13, cz14, cz15, cz16, cz17, hz9, hB9⟩ := id hS9))
  exact bodyPost_ret (v := .tuple #[.agg #[.int .i64 0, .int .i64 0, .string ⟨#[]⟩], .int .i64 0]) (by simp only [results, Tryz.results21]; go_simp) rfl ⟨rfl, below_setg hB9 (by omega)⟩
set_option maxHeartbeats 2000000 in
theorem rbinary_concat_ok (ka na : Int) (ta : ByteArray) (kb nb : Int) (tb : ByteArray) (c : Int) (w : World) (hL : Lits w) (ha : Val.inr na) (hb : Val.inr nb) (hm1 : Val.may ⟨ka, na, ta.data.toList⟩ = true) (hm2 : Val.may ⟨kb, nb, tb.data.toList⟩ = true) (k1 k2 : Int) (s1 s2 : ByteArray) (hv1 : Hid (Val.pshow ⟨ka, na, ta.data.toList⟩ = ⟨k1, 0, s1.data.toList⟩)) (hv2 : Hid (Val.pshow ⟨kb, nb, tb.data.toList⟩ = ⟨k2, 0, s2.data.toList⟩)) (h1 : k1 ≠ 0) (h2 : k2 ≠ 0) (hz4 : s1.size + s2.size ≤ 400) : Calls Tryz.prog 21 #[.int .i64 12, .agg #[.int .i64 ka, .int .i64 na, .string ta], .agg #[.int .i64 kb, .int .i64 nb, .string tb], .int .i64 c] w (VRet2 2 0 (s1 ++ s2) 0 w) := by
  have hS := start3 w (.int .i64 ka) (.int .i64 na) (.string ta) (.int .i64 kb) (.int .i64 nb) (.string tb) (.int .i64 0) (.int .i64 0) (.string ⟨#[]⟩) 24 24 24
  have hL0 : Lits (((w.alloc (.cells #[.int .i64 ka, .int .i64 na, .string ta] 24)).alloc (.cells #[.int .i64 kb, .int .i64 nb, .string tb] 24)).alloc (.cells #[.int .i64 0, .int .i64 0, .string ⟨#[]⟩] 24)) := ((hL.alloc _).alloc _).alloc _
  have b4 : (k1 == 0) = false := by simp [h1]
  have b5 : (k2 == 0) = false := by simp [h2]
  have hzz : (s1 ++ s2).size ≤ 400 := by rw [ByteArray.size_append]; exact hz4
  have zz : ¬ 9223372036854775807 < s1.size + s2.size := by omega
  replace hm1 := Lib.hid hm1
  replace hm2 := Lib.hid hm2
  have ah := Lib.hid ha
  have bh := Lib.hid hb
  clear ha hb h1 h2
  go_enter Tryz.func21, Tryz.ntmps21
  go_wp2_with (first
    | (go_at_call 25; first | (have hq := hS1; refine (rmay_is _ _ _ _ hm2).mono ?_; rintro e w2 ⟨rfl, hb2⟩; have hS2 := keep3 hS1 hb2; have hL2 := (hL0.below hb1).below hb2; obtain ⟨cb0, cb1, cb2, cb3, cb4, cb5, cb6, cb7, cb8, cb9, cb10, cb11, cb12, cb13, cb14, cb15, cb16, cb17, hz2, hB2⟩ := id hS2) | (refine (rmay_is _ _ _ _ hm1).mono ?_; rintro e w1 ⟨rfl, hb1⟩; have hS1 := keep3 hS hb1; obtain ⟨ca0, ca1, ca2, ca3, ca4, ca5, ca6, ca7, ca8, ca9, ca10, ca11, ca12, ca13, ca14, ca15, ca16, ca17, hz, hB⟩ := id hS1))
    | (go_at_call 17; first | (refine (rshow_is _ _ _ _ bh.out.1 bh.out.2 hL3 _ _ hv2).mono ?_; rintro e w4 ⟨rfl, hb4⟩; have hS4 := keep3 (keep3 hS3 hb4) (below_new w4 (.cells #[.int .i64 k2, .int .i64 0, .string s2] 24)); obtain ⟨cd0, cd1, cd2, cd3, cd4, cd5, cd6, cd7, cd8, cd9, cd10, cd11, cd12, cd13, cd14, cd15, cd16, cd17, hz4, hB4⟩ := id hS4; obtain ⟨x0, x1, x2, x3, x4, x5⟩ := cells3 (hb4.trans ((below_new w4 (.cells #[.int .i64 k2, .int .i64 0, .string s2] 24)).mono hb4.size)) (by simp) (heap_new w3 (.cells #[.int .i64 k1, .int .i64 0, .string s1] 24))) | (refine (rshow_is _ _ _ _ ah.out.1 ah.out.2 hL2 _ _ hv1).mono ?_; rintro e w3 ⟨rfl, hb3⟩; have hS3 := keep3 (keep3 hS2 hb3) (below_new w3 (.cells #[.int .i64 k1, .int .i64 0, .string s1] 24)); obtain ⟨cc0, cc1, cc2, cc3, cc4, cc5, cc6, cc7, cc8, cc9, cc10, cc11, cc12, cc13, cc14, cc15, cc16, cc17, hz3, hB3⟩ := id hS3; have hL3 := (hL2.below hb3).alloc (.cells #[.int .i64 k1, .int .i64 0, .string s1] 24)))
    | (go_at_call 49; refine (rtext_ok _ _ hzz).mono ?_; rintro e w9 ⟨rfl, hb9⟩; have hS9 := keep3 hS4 hb9; obtain ⟨cz0, cz1, cz2, cz3, cz4, cz5, cz6, cz7, cz8, cz9, cz10, cz11, cz12, cz13, cz14, cz15, cz16, cz17, hz9, hB9⟩ := id hS9))
  exact bodyPost_ret (v := .tuple #[.agg #[.int .i64 2, .int .i64 0, .string (s1 ++ s2)], .int .i64 0]) (by simp only [results, Tryz.results21]; go_simp) rfl ⟨rfl, below_setg hB9 (by omega)⟩
set_option maxHeartbeats 2000000 in
theorem rbinary_concat_long (ka na : Int) (ta : ByteArray) (kb nb : Int) (tb : ByteArray) (c : Int) (w : World) (hL : Lits w) (ha : Val.inr na) (hb : Val.inr nb) (hm1 : Val.may ⟨ka, na, ta.data.toList⟩ = true) (hm2 : Val.may ⟨kb, nb, tb.data.toList⟩ = true) (k1 k2 : Int) (s1 s2 : ByteArray) (hv1 : Hid (Val.pshow ⟨ka, na, ta.data.toList⟩ = ⟨k1, 0, s1.data.toList⟩)) (hv2 : Hid (Val.pshow ⟨kb, nb, tb.data.toList⟩ = ⟨k2, 0, s2.data.toList⟩)) (h1 : k1 ≠ 0) (h2 : k2 ≠ 0) (hz4 : 400 < s1.size + s2.size) (hz5 : s1.size + s2.size ≤ 1000) : Calls Tryz.prog 21 #[.int .i64 12, .agg #[.int .i64 ka, .int .i64 na, .string ta], .agg #[.int .i64 kb, .int .i64 nb, .string tb], .int .i64 c] w (VRet2 0 0 ⟨#[]⟩ 0 w) := by
  have hS := start3 w (.int .i64 ka) (.int .i64 na) (.string ta) (.int .i64 kb) (.int .i64 nb) (.string tb) (.int .i64 0) (.int .i64 0) (.string ⟨#[]⟩) 24 24 24
  have hL0 : Lits (((w.alloc (.cells #[.int .i64 ka, .int .i64 na, .string ta] 24)).alloc (.cells #[.int .i64 kb, .int .i64 nb, .string tb] 24)).alloc (.cells #[.int .i64 0, .int .i64 0, .string ⟨#[]⟩] 24)) := ((hL.alloc _).alloc _).alloc _
  have b4 : (k1 == 0) = false := by simp [h1]
  have b5 : (k2 == 0) = false := by simp [h2]
  have hzz : 400 < (s1 ++ s2).size := by rw [ByteArray.size_append]; exact hz4
  have zz : ¬ 9223372036854775807 < s1.size + s2.size := by omega
  replace hm1 := Lib.hid hm1
  replace hm2 := Lib.hid hm2
  have ah := Lib.hid ha
  have bh := Lib.hid hb
  clear ha hb h1 h2
  go_enter Tryz.func21, Tryz.ntmps21
  go_wp2_with (first
    | (go_at_call 25; first | (have hq := hS1; refine (rmay_is _ _ _ _ hm2).mono ?_; rintro e w2 ⟨rfl, hb2⟩; have hS2 := keep3 hS1 hb2; have hL2 := (hL0.below hb1).below hb2; obtain ⟨cb0, cb1, cb2, cb3, cb4, cb5, cb6, cb7, cb8, cb9, cb10, cb11, cb12, cb13, cb14, cb15, cb16, cb17, hz2, hB2⟩ := id hS2) | (refine (rmay_is _ _ _ _ hm1).mono ?_; rintro e w1 ⟨rfl, hb1⟩; have hS1 := keep3 hS hb1; obtain ⟨ca0, ca1, ca2, ca3, ca4, ca5, ca6, ca7, ca8, ca9, ca10, ca11, ca12, ca13, ca14, ca15, ca16, ca17, hz, hB⟩ := id hS1))
    | (go_at_call 17; first | (refine (rshow_is _ _ _ _ bh.out.1 bh.out.2 hL3 _ _ hv2).mono ?_; rintro e w4 ⟨rfl, hb4⟩; have hS4 := keep3 (keep3 hS3 hb4) (below_new w4 (.cells #[.int .i64 k2, .int .i64 0, .string s2] 24)); obtain ⟨cd0, cd1, cd2, cd3, cd4, cd5, cd6, cd7, cd8, cd9, cd10, cd11, cd12, cd13, cd14, cd15, cd16, cd17, hz4, hB4⟩ := id hS4; obtain ⟨x0, x1, x2, x3, x4, x5⟩ := cells3 (hb4.trans ((below_new w4 (.cells #[.int .i64 k2, .int .i64 0, .string s2] 24)).mono hb4.size)) (by simp) (heap_new w3 (.cells #[.int .i64 k1, .int .i64 0, .string s1] 24))) | (refine (rshow_is _ _ _ _ ah.out.1 ah.out.2 hL2 _ _ hv1).mono ?_; rintro e w3 ⟨rfl, hb3⟩; have hS3 := keep3 (keep3 hS2 hb3) (below_new w3 (.cells #[.int .i64 k1, .int .i64 0, .string s1] 24)); obtain ⟨cc0, cc1, cc2, cc3, cc4, cc5, cc6, cc7, cc8, cc9, cc10, cc11, cc12, cc13, cc14, cc15, cc16, cc17, hz3, hB3⟩ := id hS3; have hL3 := (hL2.below hb3).alloc (.cells #[.int .i64 k1, .int .i64 0, .string s1] 24)))
    | (go_at_call 49; refine (rtext_long _ _ hzz).mono ?_; rintro e w9 ⟨rfl, hb9⟩; have hS9 := keep3 hS4 hb9; obtain ⟨cz0, cz1, cz2, cz3, cz4, cz5, cz6, cz7, cz8, cz9, cz10, cz11, cz12, cz13, cz14, cz15, cz16, cz17, hz9, hB9⟩ := id hS9))
  exact bodyPost_ret (v := .tuple #[.agg #[.int .i64 0, .int .i64 0, .string ⟨#[]⟩], .int .i64 0]) (by simp only [results, Tryz.results21]; go_simp) rfl ⟨rfl, below_setg hB9 (by omega)⟩
set_option maxHeartbeats 2000000 in
theorem rbinary_21 (ka na : Int) (ta : ByteArray) (kb nb : Int) (tb : ByteArray) (c : Int) (w : World) (hL : Lits w) (ha : Val.inr na) (hb : Val.inr nb) (hm1 : Val.may ⟨ka, na, ta.data.toList⟩ = true) (hm2 : Val.may ⟨kb, nb, tb.data.toList⟩ = true) (x y : Int) (hx : Hid (Val.tru ⟨ka, na, ta.data.toList⟩ = x)) (hy : Hid (Val.tru ⟨kb, nb, tb.data.toList⟩ = y)) (k n : Int) (hv : Hid (Val.logic 0 x y = ⟨k, n, []⟩)) : Calls Tryz.prog 21 #[.int .i64 21, .agg #[.int .i64 ka, .int .i64 na, .string ta], .agg #[.int .i64 kb, .int .i64 nb, .string tb], .int .i64 c] w (VRet2 k n ⟨#[]⟩ 0 w) := by
  have hS := start3 w (.int .i64 ka) (.int .i64 na) (.string ta) (.int .i64 kb) (.int .i64 nb) (.string tb) (.int .i64 0) (.int .i64 0) (.string ⟨#[]⟩) 24 24 24
  have hL0 : Lits (((w.alloc (.cells #[.int .i64 ka, .int .i64 na, .string ta] 24)).alloc (.cells #[.int .i64 kb, .int .i64 nb, .string tb] 24)).alloc (.cells #[.int .i64 0, .int .i64 0, .string ⟨#[]⟩] 24)) := ((hL.alloc _).alloc _).alloc _
  replace hm1 := Lib.hid hm1
  replace hm2 := Lib.hid hm2
  have ah := Lib.hid ha
  have bh := Lib.hid hb
  have cx := Val.tru_cases ⟨ka, na, ta.data.toList⟩
  have cy := Val.tru_cases ⟨kb, nb, tb.data.toList⟩
  rw [hx.out] at cx
  rw [hy.out] at cy
  replace cx := Lib.hid cx
  replace cy := Lib.hid cy
  clear ha hb
  go_enter Tryz.func21, Tryz.ntmps21
  go_wp2_with (first
    | (go_at_call 25; first | (have hq := hS1; refine (rmay_is _ _ _ _ hm2).mono ?_; rintro e w2 ⟨rfl, hb2⟩; have hS2 := keep3 hS1 hb2; have hL2 := (hL0.below hb1).below hb2; obtain ⟨cb0, cb1, cb2, cb3, cb4, cb5, cb6, cb7, cb8, cb9, cb10, cb11, cb12, cb13, cb14, cb15, cb16, cb17, hz2, hB2⟩ := id hS2) | (refine (rmay_is _ _ _ _ hm1).mono ?_; rintro e w1 ⟨rfl, hb1⟩; have hS1 := keep3 hS hb1; obtain ⟨ca0, ca1, ca2, ca3, ca4, ca5, ca6, ca7, ca8, ca9, ca10, ca11, ca12, ca13, ca14, ca15, ca16, ca17, hz, hB⟩ := id hS1))
    | (go_at_call 12; first
      | (refine (rtru_is kb nb tb _ bh.out.1 bh.out.2 hL3 _ hy).mono ?_; rintro e w4 ⟨rfl, hb4⟩; have hS4 := keep3 hS3 hb4)
      | (refine (rtru_is ka na ta _ ah.out.1 ah.out.2 hL2 _ hx).mono ?_; rintro e w3 ⟨rfl, hb3⟩; have hS3 := keep3 hS2 hb3; obtain ⟨cc0, cc1, cc2, cc3, cc4, cc5, cc6, cc7, cc8, cc9, cc10, cc11, cc12, cc13, cc14, cc15, cc16, cc17, hz3, hB3⟩ := id hS3; have hL3 := hL2.below hb3))
    | (go_at_call 58; refine (rlogic_is 21 0 _ _ _ (by decide) cx.out cy.out _ _ hv).mono ?_; rintro e w9 ⟨rfl, hb9⟩; have hS9 := keep3 hS4 hb9; obtain ⟨cz0, cz1, cz2, cz3, cz4, cz5, cz6, cz7, cz8, cz9, cz10, cz11, cz12, cz13, cz14, cz15, cz16, cz17, hz9, hB9⟩ := id hS9))
  exact bodyPost_ret (v := .tuple #[.agg #[.int .i64 k, .int .i64 n, .string ⟨#[]⟩], .int .i64 0]) (by simp only [results, Tryz.results21]; go_simp) rfl ⟨rfl, below_setg hB9 (by omega)⟩
set_option maxHeartbeats 2000000 in
theorem rbinary_22 (ka na : Int) (ta : ByteArray) (kb nb : Int) (tb : ByteArray) (c : Int) (w : World) (hL : Lits w) (ha : Val.inr na) (hb : Val.inr nb) (hm1 : Val.may ⟨ka, na, ta.data.toList⟩ = true) (hm2 : Val.may ⟨kb, nb, tb.data.toList⟩ = true) (x y : Int) (hx : Hid (Val.tru ⟨ka, na, ta.data.toList⟩ = x)) (hy : Hid (Val.tru ⟨kb, nb, tb.data.toList⟩ = y)) (k n : Int) (hv : Hid (Val.logic 1 x y = ⟨k, n, []⟩)) : Calls Tryz.prog 21 #[.int .i64 22, .agg #[.int .i64 ka, .int .i64 na, .string ta], .agg #[.int .i64 kb, .int .i64 nb, .string tb], .int .i64 c] w (VRet2 k n ⟨#[]⟩ 0 w) := by
  have hS := start3 w (.int .i64 ka) (.int .i64 na) (.string ta) (.int .i64 kb) (.int .i64 nb) (.string tb) (.int .i64 0) (.int .i64 0) (.string ⟨#[]⟩) 24 24 24
  have hL0 : Lits (((w.alloc (.cells #[.int .i64 ka, .int .i64 na, .string ta] 24)).alloc (.cells #[.int .i64 kb, .int .i64 nb, .string tb] 24)).alloc (.cells #[.int .i64 0, .int .i64 0, .string ⟨#[]⟩] 24)) := ((hL.alloc _).alloc _).alloc _
  replace hm1 := Lib.hid hm1
  replace hm2 := Lib.hid hm2
  have ah := Lib.hid ha
  have bh := Lib.hid hb
  have cx := Val.tru_cases ⟨ka, na, ta.data.toList⟩
  have cy := Val.tru_cases ⟨kb, nb, tb.data.toList⟩
  rw [hx.out] at cx
  rw [hy.out] at cy
  replace cx := Lib.hid cx
  replace cy := Lib.hid cy
  clear ha hb
  go_enter Tryz.func21, Tryz.ntmps21
  go_wp2_with (first
    | (go_at_call 25; first | (have hq := hS1; refine (rmay_is _ _ _ _ hm2).mono ?_; rintro e w2 ⟨rfl, hb2⟩; have hS2 := keep3 hS1 hb2; have hL2 := (hL0.below hb1).below hb2; obtain ⟨cb0, cb1, cb2, cb3, cb4, cb5, cb6, cb7, cb8, cb9, cb10, cb11, cb12, cb13, cb14, cb15, cb16, cb17, hz2, hB2⟩ := id hS2) | (refine (rmay_is _ _ _ _ hm1).mono ?_; rintro e w1 ⟨rfl, hb1⟩; have hS1 := keep3 hS hb1; obtain ⟨ca0, ca1, ca2, ca3, ca4, ca5, ca6, ca7, ca8, ca9, ca10, ca11, ca12, ca13, ca14, ca15, ca16, ca17, hz, hB⟩ := id hS1))
    | (go_at_call 12; first
      | (refine (rtru_is kb nb tb _ bh.out.1 bh.out.2 hL3 _ hy).mono ?_; rintro e w4 ⟨rfl, hb4⟩; have hS4 := keep3 hS3 hb4)
      | (refine (rtru_is ka na ta _ ah.out.1 ah.out.2 hL2 _ hx).mono ?_; rintro e w3 ⟨rfl, hb3⟩; have hS3 := keep3 hS2 hb3; obtain ⟨cc0, cc1, cc2, cc3, cc4, cc5, cc6, cc7, cc8, cc9, cc10, cc11, cc12, cc13, cc14, cc15, cc16, cc17, hz3, hB3⟩ := id hS3; have hL3 := hL2.below hb3))
    | (go_at_call 58; refine (rlogic_is 22 1 _ _ _ (by decide) cx.out cy.out _ _ hv).mono ?_; rintro e w9 ⟨rfl, hb9⟩; have hS9 := keep3 hS4 hb9; obtain ⟨cz0, cz1, cz2, cz3, cz4, cz5, cz6, cz7, cz8, cz9, cz10, cz11, cz12, cz13, cz14, cz15, cz16, cz17, hz9, hB9⟩ := id hS9))
  exact bodyPost_ret (v := .tuple #[.agg #[.int .i64 k, .int .i64 n, .string ⟨#[]⟩], .int .i64 0]) (by simp only [results, Tryz.results21]; go_simp) rfl ⟨rfl, below_setg hB9 (by omega)⟩
theorem rbool_is (b : Bool) (n : Int) (hn : Hid ((if b = true then (1 : Int) else 0) = n)) (w : World) : Calls Tryz.prog 59 #[.bool b] w (VRet 1 n ⟨#[]⟩ w) :=
  (rbool_any b w).mono fun _ _ ⟨h1, h2⟩ => ⟨by rw [h1, hn.out], h2⟩
set_option maxHeartbeats 2000000 in
theorem rbinary_cmp_null1 (op : Int) (ka na : Int) (ta : ByteArray) (kb nb : Int) (tb : ByteArray) (c : Int) (w : World) (hm1 : Val.may ⟨ka, na, ta.data.toList⟩ = true) (hm2 : Val.may ⟨kb, nb, tb.data.toList⟩ = true) (h : 13 ≤ op ∧ op ≤ 18) (h1 : ka = 0) : Calls Tryz.prog 21 #[.int .i64 op, .agg #[.int .i64 ka, .int .i64 na, .string ta], .agg #[.int .i64 kb, .int .i64 nb, .string tb], .int .i64 c] w (VRet2 0 0 ⟨#[]⟩ 0 w) := by
  have hS := start3 w (.int .i64 ka) (.int .i64 na) (.string ta) (.int .i64 kb) (.int .i64 nb) (.string tb) (.int .i64 0) (.int .i64 0) (.string ⟨#[]⟩) 24 24 24
  have s1 := may_len hm1
  have s2 := may_len hm2
  have b1 : decide (op < 7) = false := decide_eq_false (by omega)
  have b2 : decide (op > 22) = false := decide_eq_false (by omega)
  have b3 : decide (op ≤ 11) = false := decide_eq_false (by omega)
  have b6 : (op == 12) = false := by simp; omega
  have b7 : (op == 21) = false := by simp; omega
  have b8 : (op == 22) = false := by simp; omega
  have b9 : decide (op ≤ 18) = true := decide_eq_true h.2
  have b4 : (ka == 0) = true := by simp [h1]
  replace hm1 := Lib.hid hm1
  replace hm2 := Lib.hid hm2
  have hc : 13 ≤ op ∧ op ≤ 20 := by omega
  clear h h1
  go_enter Tryz.func21, Tryz.ntmps21
  go_wp2_with (first
    | (go_at_call 25; first | (have hq := hS1; refine (rmay_is _ _ _ _ hm2).mono ?_; rintro e w2 ⟨rfl, hb2⟩; have hS2 := keep3 hS1 hb2; obtain ⟨cb0, cb1, cb2, cb3, cb4, cb5, cb6, cb7, cb8, cb9, cb10, cb11, cb12, cb13, cb14, cb15, cb16, cb17, hz2, hB2⟩ := id hS2) | (refine (rmay_is _ _ _ _ hm1).mono ?_; rintro e w1 ⟨rfl, hb1⟩; have hS1 := keep3 hS hb1; obtain ⟨ca0, ca1, ca2, ca3, ca4, ca5, ca6, ca7, ca8, ca9, ca10, ca11, ca12, ca13, ca14, ca15, ca16, ca17, hz, hB⟩ := id hS1))
    | (go_at_call 43; refine (rnull_any _).mono ?_; rintro e w9 ⟨rfl, hb9⟩; have hS9 := keep3 hS2 hb9; obtain ⟨cz0, cz1, cz2, cz3, cz4, cz5, cz6, cz7, cz8, cz9, cz10, cz11, cz12, cz13, cz14, cz15, cz16, cz17, hz9, hB9⟩ := id hS9))
  exact bodyPost_ret (v := .tuple #[.agg #[.int .i64 0, .int .i64 0, .string ⟨#[]⟩], .int .i64 0]) (by simp only [results, Tryz.results21]; go_simp) rfl ⟨rfl, below_setg hB9 (by omega)⟩
set_option maxHeartbeats 2000000 in
theorem rbinary_cmp_null2 (op : Int) (ka na : Int) (ta : ByteArray) (kb nb : Int) (tb : ByteArray) (c : Int) (w : World) (hm1 : Val.may ⟨ka, na, ta.data.toList⟩ = true) (hm2 : Val.may ⟨kb, nb, tb.data.toList⟩ = true) (h : 13 ≤ op ∧ op ≤ 18) (h1 : ka ≠ 0) (h2 : kb = 0) : Calls Tryz.prog 21 #[.int .i64 op, .agg #[.int .i64 ka, .int .i64 na, .string ta], .agg #[.int .i64 kb, .int .i64 nb, .string tb], .int .i64 c] w (VRet2 0 0 ⟨#[]⟩ 0 w) := by
  have hS := start3 w (.int .i64 ka) (.int .i64 na) (.string ta) (.int .i64 kb) (.int .i64 nb) (.string tb) (.int .i64 0) (.int .i64 0) (.string ⟨#[]⟩) 24 24 24
  have s1 := may_len hm1
  have s2 := may_len hm2
  have b1 : decide (op < 7) = false := decide_eq_false (by omega)
  have b2 : decide (op > 22) = false := decide_eq_false (by omega)
  have b3 : decide (op ≤ 11) = false := decide_eq_false (by omega)
  have b6 : (op == 12) = false := by simp; omega
  have b7 : (op == 21) = false := by simp; omega
  have b8 : (op == 22) = false := by simp; omega
  have b9 : decide (op ≤ 18) = true := decide_eq_true h.2
  have b4 : (ka == 0) = false := by simp [h1]
  have b5 : (kb == 0) = true := by simp [h2]
  replace hm1 := Lib.hid hm1
  replace hm2 := Lib.hid hm2
  have hc : 13 ≤ op ∧ op ≤ 20 := by omega
  clear h h1 h2
  go_enter Tryz.func21, Tryz.ntmps21
  go_wp2_with (first
    | (go_at_call 25; first | (have hq := hS1; refine (rmay_is _ _ _ _ hm2).mono ?_; rintro e w2 ⟨rfl, hb2⟩; have hS2 := keep3 hS1 hb2; obtain ⟨cb0, cb1, cb2, cb3, cb4, cb5, cb6, cb7, cb8, cb9, cb10, cb11, cb12, cb13, cb14, cb15, cb16, cb17, hz2, hB2⟩ := id hS2) | (refine (rmay_is _ _ _ _ hm1).mono ?_; rintro e w1 ⟨rfl, hb1⟩; have hS1 := keep3 hS hb1; obtain ⟨ca0, ca1, ca2, ca3, ca4, ca5, ca6, ca7, ca8, ca9, ca10, ca11, ca12, ca13, ca14, ca15, ca16, ca17, hz, hB⟩ := id hS1))
    | (go_at_call 43; refine (rnull_any _).mono ?_; rintro e w9 ⟨rfl, hb9⟩; have hS9 := keep3 hS2 hb9; obtain ⟨cz0, cz1, cz2, cz3, cz4, cz5, cz6, cz7, cz8, cz9, cz10, cz11, cz12, cz13, cz14, cz15, cz16, cz17, hz9, hB9⟩ := id hS9))
  exact bodyPost_ret (v := .tuple #[.agg #[.int .i64 0, .int .i64 0, .string ⟨#[]⟩], .int .i64 0]) (by simp only [results, Tryz.results21]; go_simp) rfl ⟨rfl, below_setg hB9 (by omega)⟩
set_option maxHeartbeats 2000000 in
theorem rbinary_cmp_ok (op : Int) (ka na : Int) (ta : ByteArray) (kb nb : Int) (tb : ByteArray) (c : Int) (w : World) (hm1 : Val.may ⟨ka, na, ta.data.toList⟩ = true) (hm2 : Val.may ⟨kb, nb, tb.data.toList⟩ = true) (h : 13 ≤ op ∧ op ≤ 18) (h1 : ka ≠ 0) (h2 : kb ≠ 0) (r : Int) (hr : Hid (Val.cmp ⟨ka, na, ta.data.toList⟩ ⟨kb, nb, tb.data.toList⟩ c = r)) (bo : Bool) (hbo : Hid (Val.compare op r = bo)) (m : Int) (hm : Hid ((if bo = true then (1 : Int) else 0) = m)) : Calls Tryz.prog 21 #[.int .i64 op, .agg #[.int .i64 ka, .int .i64 na, .string ta], .agg #[.int .i64 kb, .int .i64 nb, .string tb], .int .i64 c] w (VRet2 1 m ⟨#[]⟩ 0 w) := by
  have hS := start3 w (.int .i64 ka) (.int .i64 na) (.string ta) (.int .i64 kb) (.int .i64 nb) (.string tb) (.int .i64 0) (.int .i64 0) (.string ⟨#[]⟩) 24 24 24
  have s1 := may_len hm1
  have s2 := may_len hm2
  have b1 : decide (op < 7) = false := decide_eq_false (by omega)
  have b2 : decide (op > 22) = false := decide_eq_false (by omega)
  have b3 : decide (op ≤ 11) = false := decide_eq_false (by omega)
  have b6 : (op == 12) = false := by simp; omega
  have b7 : (op == 21) = false := by simp; omega
  have b8 : (op == 22) = false := by simp; omega
  have b9 : decide (op ≤ 18) = true := decide_eq_true h.2
  have b4 : (ka == 0) = false := by simp [h1]
  have b5 : (kb == 0) = false := by simp [h2]
  replace hm1 := Lib.hid hm1
  replace hm2 := Lib.hid hm2
  have hc : 13 ≤ op ∧ op ≤ 20 := by omega
  clear h h1 h2
  go_enter Tryz.func21, Tryz.ntmps21
  go_wp2_with (first
    | (go_at_call 25; first | (have hq := hS1; refine (rmay_is _ _ _ _ hm2).mono ?_; rintro e w2 ⟨rfl, hb2⟩; have hS2 := keep3 hS1 hb2; obtain ⟨cb0, cb1, cb2, cb3, cb4, cb5, cb6, cb7, cb8, cb9, cb10, cb11, cb12, cb13, cb14, cb15, cb16, cb17, hz2, hB2⟩ := id hS2) | (refine (rmay_is _ _ _ _ hm1).mono ?_; rintro e w1 ⟨rfl, hb1⟩; have hS1 := keep3 hS hb1; obtain ⟨ca0, ca1, ca2, ca3, ca4, ca5, ca6, ca7, ca8, ca9, ca10, ca11, ca12, ca13, ca14, ca15, ca16, ca17, hz, hB⟩ := id hS1))
    | (go_at_call 61; refine (rcmp_is _ _ _ _ _ _ _ _ (by omega) (by omega) _ hr).mono ?_; rintro e w3 ⟨rfl, hb3⟩; have hS3 := keep3 hS2 hb3)
    | (go_at_call 60; refine (rcompare_is _ _ _ hc _ hbo).mono ?_; rintro e w4 ⟨rfl, rfl⟩)
    | (go_at_call 59; refine (rbool_is _ _ hm _).mono ?_; rintro e w9 ⟨rfl, hb9⟩; have hS9 := keep3 hS3 hb9; obtain ⟨cz0, cz1, cz2, cz3, cz4, cz5, cz6, cz7, cz8, cz9, cz10, cz11, cz12, cz13, cz14, cz15, cz16, cz17, hz9, hB9⟩ := id hS9))
  exact bodyPost_ret (v := .tuple #[.agg #[.int .i64 1, .int .i64 m, .string ⟨#[]⟩], .int .i64 0]) (by simp only [results, Tryz.results21]; go_simp) rfl ⟨rfl, below_setg hB9 (by omega)⟩
set_option maxHeartbeats 2000000 in
theorem rbinary_cmp_is (op : Int) (ka na : Int) (ta : ByteArray) (kb nb : Int) (tb : ByteArray) (c : Int) (w : World) (hm1 : Val.may ⟨ka, na, ta.data.toList⟩ = true) (hm2 : Val.may ⟨kb, nb, tb.data.toList⟩ = true) (h : 19 ≤ op ∧ op ≤ 20) (r : Int) (hr : Hid (Val.cmp ⟨ka, na, ta.data.toList⟩ ⟨kb, nb, tb.data.toList⟩ c = r)) (bo : Bool) (hbo : Hid (Val.compare op r = bo)) (m : Int) (hm : Hid ((if bo = true then (1 : Int) else 0) = m)) : Calls Tryz.prog 21 #[.int .i64 op, .agg #[.int .i64 ka, .int .i64 na, .string ta], .agg #[.int .i64 kb, .int .i64 nb, .string tb], .int .i64 c] w (VRet2 1 m ⟨#[]⟩ 0 w) := by
  have hS := start3 w (.int .i64 ka) (.int .i64 na) (.string ta) (.int .i64 kb) (.int .i64 nb) (.string tb) (.int .i64 0) (.int .i64 0) (.string ⟨#[]⟩) 24 24 24
  have s1 := may_len hm1
  have s2 := may_len hm2
  have b1 : decide (op < 7) = false := decide_eq_false (by omega)
  have b2 : decide (op > 22) = false := decide_eq_false (by omega)
  have b3 : decide (op ≤ 11) = false := decide_eq_false (by omega)
  have b6 : (op == 12) = false := by simp; omega
  have b7 : (op == 21) = false := by simp; omega
  have b8 : (op == 22) = false := by simp; omega
  have b9 : decide (op ≤ 18) = false := decide_eq_false (by omega)
  replace hm1 := Lib.hid hm1
  replace hm2 := Lib.hid hm2
  have hc : 13 ≤ op ∧ op ≤ 20 := by omega
  clear h
  go_enter Tryz.func21, Tryz.ntmps21
  go_wp2_with (first
    | (go_at_call 25; first | (have hq := hS1; refine (rmay_is _ _ _ _ hm2).mono ?_; rintro e w2 ⟨rfl, hb2⟩; have hS2 := keep3 hS1 hb2; obtain ⟨cb0, cb1, cb2, cb3, cb4, cb5, cb6, cb7, cb8, cb9, cb10, cb11, cb12, cb13, cb14, cb15, cb16, cb17, hz2, hB2⟩ := id hS2) | (refine (rmay_is _ _ _ _ hm1).mono ?_; rintro e w1 ⟨rfl, hb1⟩; have hS1 := keep3 hS hb1; obtain ⟨ca0, ca1, ca2, ca3, ca4, ca5, ca6, ca7, ca8, ca9, ca10, ca11, ca12, ca13, ca14, ca15, ca16, ca17, hz, hB⟩ := id hS1))
    | (go_at_call 61; refine (rcmp_is _ _ _ _ _ _ _ _ (by omega) (by omega) _ hr).mono ?_; rintro e w3 ⟨rfl, hb3⟩; have hS3 := keep3 hS2 hb3)
    | (go_at_call 60; refine (rcompare_is _ _ _ hc _ hbo).mono ?_; rintro e w4 ⟨rfl, rfl⟩)
    | (go_at_call 59; refine (rbool_is _ _ hm _).mono ?_; rintro e w9 ⟨rfl, hb9⟩; have hS9 := keep3 hS3 hb9; obtain ⟨cz0, cz1, cz2, cz3, cz4, cz5, cz6, cz7, cz8, cz9, cz10, cz11, cz12, cz13, cz14, cz15, cz16, cz17, hz9, hB9⟩ := id hS9))
  exact bodyPost_ret (v := .tuple #[.agg #[.int .i64 1, .int .i64 m, .string ⟨#[]⟩], .int .i64 0]) (by simp only [results, Tryz.results21]; go_simp) rfl ⟨rfl, below_setg hB9 (by omega)⟩
/-- WHAT the reference's Binary ANSWERS -/
theorem rbinary_is (op : Int) (ka na : Int) (ta : ByteArray) (kb nb : Int) (tb : ByteArray) (c : Int) (w : World) (hL : Lits w) (ha : Val.inr na) (hb : Val.inr nb) (k n : Int) (t : ByteArray) (E : Int) (hv : Hid (Val.binary op ⟨ka, na, ta.data.toList⟩ ⟨kb, nb, tb.data.toList⟩ c = (⟨k, n, t.data.toList⟩, E))) : Calls Tryz.prog 21 #[.int .i64 op, .agg #[.int .i64 ka, .int .i64 na, .string ta], .agg #[.int .i64 kb, .int .i64 nb, .string tb], .int .i64 c] w (VRet2 k n t E w) := by
  have hv' := hv.out
  rw [Val.binary] at hv'
  by_cases hop : 7 ≤ op ∧ op ≤ 22
  · rw [if_pos hop] at hv'
    cases hm1 : Val.may ⟨ka, na, ta.data.toList⟩ with
    | false =>
      rw [if_neg (by rw [hm1]; simp), Prod.mk.injEq] at hv'
      obtain ⟨h1, rfl⟩ := hv'
      obtain ⟨rfl, rfl, rfl⟩ := zero_form h1
      exact rbinary_bad1 op _ _ _ _ _ _ c w hop hm1
    | true =>
    cases hm2 : Val.may ⟨kb, nb, tb.data.toList⟩ with
    | false =>
      rw [if_neg (by rw [hm2]; simp), Prod.mk.injEq] at hv'
      obtain ⟨h1, rfl⟩ := hv'
      obtain ⟨rfl, rfl, rfl⟩ := zero_form h1
      exact rbinary_bad2 op _ _ _ _ _ _ c w hop hm1 hm2
    | true =>
    rw [if_pos ⟨hm1, hm2⟩, Prod.mk.injEq] at hv'
    obtain ⟨hv', hE⟩ := hv'
    subst hE
    by_cases h12 : op = 12
    · subst h12
      rw [Val.makes, if_neg (by decide), if_pos rfl] at hv'
      simp only at hv'
      by_cases h1 : ka = 0
      · rw [if_pos (.inl h1)] at hv'
        obtain ⟨rfl, rfl, rfl⟩ := zero_form hv'
        have e1 : Val.pshow ⟨ka, na, ta.data.toList⟩ = ⟨0, 0, (⟨#[]⟩ : ByteArray).data.toList⟩ := Val.pshow_not (.inr h1)
        by_cases h2 : kb = 0
        · have e2 : Val.pshow ⟨kb, nb, tb.data.toList⟩ = ⟨0, 0, (⟨#[]⟩ : ByteArray).data.toList⟩ := Val.pshow_not (.inr h2)
          exact rbinary_concat_null1 _ _ _ _ _ _ c w hL ha hb hm1 hm2 _ _ _ _ (Lib.hid e1) (Lib.hid e2) rfl
        · obtain ⟨s2, e2, _⟩ := pshow_may hm2 hb h2
          exact rbinary_concat_null1 _ _ _ _ _ _ c w hL ha hb hm1 hm2 _ _ _ _ (Lib.hid e1) (Lib.hid e2) rfl
      · obtain ⟨s1, e1, l1⟩ := pshow_may hm1 ha h1
        by_cases h2 : kb = 0
        · rw [if_pos (.inr h2)] at hv'
          obtain ⟨rfl, rfl, rfl⟩ := zero_form hv'
          have e2 : Val.pshow ⟨kb, nb, tb.data.toList⟩ = ⟨0, 0, (⟨#[]⟩ : ByteArray).data.toList⟩ := Val.pshow_not (.inr h2)
          exact rbinary_concat_null2 _ _ _ _ _ _ c w hL ha hb hm1 hm2 _ _ _ _ (Lib.hid e1) (Lib.hid e2) (by decide) rfl
        · obtain ⟨s2, e2, l2⟩ := pshow_may hm2 hb h2
          rw [if_neg (by rintro (h | h) <;> contradiction), e1, e2] at hv'
          simp only at hv'
          rw [← append_data, Val.ptext] at hv'
          have hsz : (s1 ++ s2).data.toList.length = s1.size + s2.size := by
            have : (s1 ++ s2).data.toList.length = (s1 ++ s2).size := rfl
            rw [this, ByteArray.size_append]
          rw [hsz] at hv'
          by_cases h4 : 400 < s1.size + s2.size
          · rw [if_pos h4] at hv'
            obtain ⟨rfl, rfl, rfl⟩ := zero_form hv'
            exact rbinary_concat_long _ _ _ _ _ _ c w hL ha hb hm1 hm2 _ _ s1 s2 (Lib.hid e1) (Lib.hid e2) (by decide) (by decide) h4 (by omega)
          · rw [if_neg h4] at hv'
            simp only [Val.V.mk.injEq] at hv'
            obtain ⟨rfl, rfl, ht⟩ := hv'
            have := bytes_inj' ht
            subst this
            exact rbinary_concat_ok _ _ _ _ _ _ c w hL ha hb hm1 hm2 _ _ s1 s2 (Lib.hid e1) (Lib.hid e2) (by decide) (by decide) (by omega)
    · have ht : t = ⟨#[]⟩ := text_nil (by
        have := makes_empty h12 ⟨ka, na, ta.data.toList⟩ ⟨kb, nb, tb.data.toList⟩ c ha hb
        rw [hv'] at this; exact this)
      subst ht
      have hv2 : Val.makes op ⟨ka, na, ta.data.toList⟩ ⟨kb, nb, tb.data.toList⟩ c = ⟨k, n, []⟩ := hv'
      by_cases h11 : op ≤ 11
      · rw [Val.makes, if_pos h11] at hv2
        obtain ⟨k1, n1, e1, i1, f1, _⟩ := num_form (k := ka) (t := ta) ha
        obtain ⟨k2, n2, e2, i2, f2, _⟩ := num_form (k := kb) (t := tb) hb
        rw [e1, e2] at hv2
        simp only at hv2
        by_cases h1 : k1 = 0
        · rw [if_pos (.inl h1)] at hv2
          obtain ⟨rfl, rfl⟩ := mk_zero hv2
          exact rbinary_arith_null1 op _ _ _ _ _ _ c w hL ⟨hop.1, h11⟩ hm1 hm2 _ _ _ _ (Lib.hid e1) (Lib.hid e2) h1
        · by_cases h2 : k2 = 0
          · rw [if_pos (.inr h2)] at hv2
            obtain ⟨rfl, rfl⟩ := mk_zero hv2
            exact rbinary_arith_null2 op _ _ _ _ _ _ c w hL ⟨hop.1, h11⟩ hm1 hm2 _ _ _ _ (Lib.hid e1) (Lib.hid e2) h1 h2
          · rw [if_neg (by rintro (h | h) <;> contradiction)] at hv2
            exact rbinary_arith_ok op _ _ _ _ _ _ c w hL ⟨hop.1, h11⟩ hm1 hm2 _ _ _ _ (Lib.hid e1) (Lib.hid e2) h1 h2 i1 i2 k n (Lib.hid hv2)
      · by_cases h18 : op ≤ 18
        · rw [makes_cmp ⟨by omega, h18⟩] at hv2
          simp only at hv2
          by_cases h1 : ka = 0
          · rw [if_pos (.inl h1)] at hv2
            obtain ⟨rfl, rfl⟩ := mk_zero hv2
            exact rbinary_cmp_null1 op _ _ _ _ _ _ c w hm1 hm2 ⟨by omega, h18⟩ h1
          · by_cases h2 : kb = 0
            · rw [if_pos (.inr h2)] at hv2
              obtain ⟨rfl, rfl⟩ := mk_zero hv2
              exact rbinary_cmp_null2 op _ _ _ _ _ _ c w hm1 hm2 ⟨by omega, h18⟩ h1 h2
            · rw [if_neg (by rintro (h | h) <;> contradiction)] at hv2
              simp only [Val.pbool, Val.V.mk.injEq, and_true] at hv2
              obtain ⟨rfl, hn⟩ := hv2
              exact rbinary_cmp_ok op _ _ _ _ _ _ c w hm1 hm2 ⟨by omega, h18⟩ h1 h2 _ (Lib.hid rfl) _ (Lib.hid rfl) _ (Lib.hid hn)
        · by_cases h20 : op ≤ 20
          · rw [makes_is (by omega)] at hv2
            simp only [Val.pbool, Val.V.mk.injEq, and_true] at hv2
            obtain ⟨rfl, hn⟩ := hv2
            exact rbinary_cmp_is op _ _ _ _ _ _ c w hm1 hm2 ⟨by omega, h20⟩ _ (Lib.hid rfl) _ (Lib.hid rfl) _ (Lib.hid hn)
          · rcases (show op = 21 ∨ op = 22 by omega) with rfl | rfl
            · rw [Val.makes, if_neg (by decide), if_neg (by decide), if_pos rfl] at hv2
              exact rbinary_21 _ _ _ _ _ _ c w hL ha hb hm1 hm2 _ _ (Lib.hid rfl) (Lib.hid rfl) k n (Lib.hid hv2)
            · rw [Val.makes, if_neg (by decide), if_neg (by decide), if_neg (by decide), if_pos rfl] at hv2
              exact rbinary_22 _ _ _ _ _ _ c w hL ha hb hm1 hm2 _ _ (Lib.hid rfl) (Lib.hid rfl) k n (Lib.hid hv2)
  · rw [if_neg hop, Prod.mk.injEq] at hv'
    obtain ⟨h1, rfl⟩ := hv'
    obtain ⟨rfl, rfl, rfl⟩ := zero_form h1
    by_cases h7 : op < 7
    · exact rbinary_lo op _ _ _ _ _ _ c w h7
    · exact rbinary_hi op _ _ _ _ _ _ c w (by omega)

end Go.Proofs.YthdpgekjbkpomaaGreatDoor
