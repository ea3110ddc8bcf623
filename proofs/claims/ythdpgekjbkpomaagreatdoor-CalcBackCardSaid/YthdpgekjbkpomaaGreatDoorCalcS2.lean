/- Walks: a value with an affinity. -/
import Derived.Test.YthdpgekjbkpomaaGreatDoorCalcM
import Derived.Test.YthdpgekjbkpomaaGreatDoorCalcR2
set_option maxRecDepth 100000
set_option linter.unusedVariables false
set_option linter.unusedSimpArgs false
namespace Go.Proofs.YthdpgekjbkpomaaGreatDoor
open Go.RowKit

theorem trim_is (t u : ByteArray) (w : World) (ht : t.size ≤ 400) (hu : Hid (bs (Val.etrim (Val.ltrim t.data.toList)) = u)) :
    Calls Tryz.prog 69 #[.string t, .string ⟨#[32, 9, 10, 13]⟩] w fun e w' => e = .returned (.string u) ∧ Below w.heap.size w w' :=
  (Any.strings_Trim_laid Tryz.lays160 (by kernel_rfl) t ⟨#[32, 9, 10, 13]⟩ w (by omega) (by decide) (ascii_of_all (by decide))).mono fun _ _ ⟨h1, h2⟩ => ⟨by rw [h1, ← hu.out, ← Val.trim_both]; rfl, h2⟩
theorem trim_len (t : ByteArray) : (Val.etrim (Val.ltrim t.data.toList)).length ≤ t.size := by
  have h1 : (Val.ltrim t.data.toList).length ≤ t.data.toList.length := (List.dropWhile_sublist _).length_le
  have h2 : (Val.etrim (Val.ltrim t.data.toList)).length ≤ (Val.ltrim t.data.toList).length := by
    unfold Val.etrim
    rw [List.length_reverse]
    have := (List.dropWhile_sublist Val.isBlank (l := (Val.ltrim t.data.toList).reverse)).length_le
    rwa [List.length_reverse] at this
  have h3 : t.data.toList.length = t.size := rfl
  omega
theorem capply_bad (f k n : Int) (t : ByteArray) (w : World) (hL : Lits w) (hm : Val.may ⟨k, n, t.data.toList⟩ = false) : Calls Tryz.prog 34 #[.int .i64 f, .agg #[.int .i64 k, .int .i64 n, .string t]] w (VRet k n t w) := by
  have hS := start2 w (.int .i64 k) (.int .i64 n) (.string t) (.int .i64 0) (.int .i64 0) (.string ⟨#[]⟩) 24 24
  have hL0 : Lits ((w.alloc (.cells #[.int .i64 k, .int .i64 n, .string t] 24)).alloc (.cells #[.int .i64 0, .int .i64 0, .string ⟨#[]⟩] 24)) := (hL.alloc _).alloc _
  replace hm := Lib.hid hm
  go_enter Tryz.func34, Tryz.ntmps34
  go_wp2_with (go_at_call 37; refine (may_is _ _ _ _ hm).mono ?_; rintro e w1 ⟨rfl, hb1⟩; have hS1 := keep2 hS hb1; obtain ⟨ca0, ca1, ca2, ca3, ca4, ca5, ca6, ca7, ca8, ca9, ca10, ca11, hz, hB⟩ := id hS1; have hL1 := hL0.below hb1)
  all_goals exact bodyPost_ret (v := .agg #[.int .i64 k, .int .i64 n, .string t]) (by simp only [results, Tryz.results34]; go_simp) rfl ⟨rfl, below_setg hB (by omega)⟩
theorem capply_show (k n : Int) (t : ByteArray) (w : World) (hL : Lits w) (ha : Val.inr n) (hm : Val.may ⟨k, n, t.data.toList⟩ = true) (h1 : k = 1) (k2 : Int) (t2 : ByteArray) (hq : Hid (Val.pshow ⟨k, n, t.data.toList⟩ = ⟨k2, 0, t2.data.toList⟩)) : Calls Tryz.prog 34 #[.int .i64 2, .agg #[.int .i64 k, .int .i64 n, .string t]] w (VRet k2 0 t2 w) := by
  have hS := start2 w (.int .i64 k) (.int .i64 n) (.string t) (.int .i64 0) (.int .i64 0) (.string ⟨#[]⟩) 24 24
  have hL0 : Lits ((w.alloc (.cells #[.int .i64 k, .int .i64 n, .string t] 24)).alloc (.cells #[.int .i64 0, .int .i64 0, .string ⟨#[]⟩] 24)) := (hL.alloc _).alloc _
  replace hm := Lib.hid hm
  have b1 : (k == 1) = true := by simp [h1]
  replace ha := Lib.hid ha
  clear h1
  go_enter Tryz.func34, Tryz.ntmps34
  go_wp2_with (first
    | (go_at_call 37; refine (may_is _ _ _ _ hm).mono ?_; rintro e w1 ⟨rfl, hb1⟩; have hS1 := keep2 hS hb1; obtain ⟨ca0, ca1, ca2, ca3, ca4, ca5, ca6, ca7, ca8, ca9, ca10, ca11, hz, hB⟩ := id hS1; have hL1 := hL0.below hb1)
    | (go_at_call 16; refine (cshow_is _ _ _ _ ha.out.1 ha.out.2 hL1 _ _ hq).mono ?_; rintro e w9 ⟨rfl, hb9⟩; have hS9 := keep2 hS1 hb9; obtain ⟨cz0, cz1, cz2, cz3, cz4, cz5, cz6, cz7, cz8, cz9, cz10, cz11, hz9, hB9⟩ := id hS9))
  all_goals exact bodyPost_ret (v := .agg #[.int .i64 k2, .int .i64 0, .string t2]) (by simp only [results, Tryz.results34]; go_simp) rfl ⟨rfl, below_setg hB9 (by omega)⟩
theorem capply_o1 (f k n : Int) (t : ByteArray) (w : World) (hL : Lits w) (hm : Val.may ⟨k, n, t.data.toList⟩ = true) (h1 : f ≠ 1) (h2 : f ≠ 2) : Calls Tryz.prog 34 #[.int .i64 f, .agg #[.int .i64 k, .int .i64 n, .string t]] w (VRet k n t w) := by
  have hS := start2 w (.int .i64 k) (.int .i64 n) (.string t) (.int .i64 0) (.int .i64 0) (.string ⟨#[]⟩) 24 24
  have hL0 : Lits ((w.alloc (.cells #[.int .i64 k, .int .i64 n, .string t] 24)).alloc (.cells #[.int .i64 0, .int .i64 0, .string ⟨#[]⟩] 24)) := (hL.alloc _).alloc _
  replace hm := Lib.hid hm
  have b1 : (f == 1) = false := by simp [h1]
  have b2 : (f == 2) = false := by simp [h2]
  have b3 : (f != 1) = true := by simp [h1]
  clear h1 h2
  go_enter Tryz.func34, Tryz.ntmps34
  go_wp2_with (go_at_call 37; refine (may_is _ _ _ _ hm).mono ?_; rintro e w1 ⟨rfl, hb1⟩; have hS1 := keep2 hS hb1; obtain ⟨ca0, ca1, ca2, ca3, ca4, ca5, ca6, ca7, ca8, ca9, ca10, ca11, hz, hB⟩ := id hS1; have hL1 := hL0.below hb1)
  all_goals exact bodyPost_ret (v := .agg #[.int .i64 k, .int .i64 n, .string t]) (by simp only [results, Tryz.results34]; go_simp) rfl ⟨rfl, below_setg hB (by omega)⟩
theorem capply_o2 (f k n : Int) (t : ByteArray) (w : World) (hL : Lits w) (hm : Val.may ⟨k, n, t.data.toList⟩ = true) (h1 : f = 1) (h2 : k ≠ 2) : Calls Tryz.prog 34 #[.int .i64 f, .agg #[.int .i64 k, .int .i64 n, .string t]] w (VRet k n t w) := by
  have hS := start2 w (.int .i64 k) (.int .i64 n) (.string t) (.int .i64 0) (.int .i64 0) (.string ⟨#[]⟩) 24 24
  have hL0 : Lits ((w.alloc (.cells #[.int .i64 k, .int .i64 n, .string t] 24)).alloc (.cells #[.int .i64 0, .int .i64 0, .string ⟨#[]⟩] 24)) := (hL.alloc _).alloc _
  replace hm := Lib.hid hm
  subst h1
  have b2 : (k == 2) = false := by simp [h2]
  have b3 : (k != 2) = true := by simp [h2]
  clear h2
  go_enter Tryz.func34, Tryz.ntmps34
  go_wp2_with (go_at_call 37; refine (may_is _ _ _ _ hm).mono ?_; rintro e w1 ⟨rfl, hb1⟩; have hS1 := keep2 hS hb1; obtain ⟨ca0, ca1, ca2, ca3, ca4, ca5, ca6, ca7, ca8, ca9, ca10, ca11, hz, hB⟩ := id hS1; have hL1 := hL0.below hb1)
  all_goals exact bodyPost_ret (v := .agg #[.int .i64 k, .int .i64 n, .string t]) (by simp only [results, Tryz.results34]; go_simp) rfl ⟨rfl, below_setg hB (by omega)⟩
theorem capply_o3 (f k n : Int) (t : ByteArray) (w : World) (hL : Lits w) (hm : Val.may ⟨k, n, t.data.toList⟩ = true) (h1 : f = 2) (h2 : k ≠ 1) : Calls Tryz.prog 34 #[.int .i64 f, .agg #[.int .i64 k, .int .i64 n, .string t]] w (VRet k n t w) := by
  have hS := start2 w (.int .i64 k) (.int .i64 n) (.string t) (.int .i64 0) (.int .i64 0) (.string ⟨#[]⟩) 24 24
  have hL0 : Lits ((w.alloc (.cells #[.int .i64 k, .int .i64 n, .string t] 24)).alloc (.cells #[.int .i64 0, .int .i64 0, .string ⟨#[]⟩] 24)) := (hL.alloc _).alloc _
  replace hm := Lib.hid hm
  subst h1
  have b2 : (k == 1) = false := by simp [h2]
  clear h2
  go_enter Tryz.func34, Tryz.ntmps34
  go_wp2_with (go_at_call 37; refine (may_is _ _ _ _ hm).mono ?_; rintro e w1 ⟨rfl, hb1⟩; have hS1 := keep2 hS hb1; obtain ⟨ca0, ca1, ca2, ca3, ca4, ca5, ca6, ca7, ca8, ca9, ca10, ca11, hz, hB⟩ := id hS1; have hL1 := hL0.below hb1)
  all_goals exact bodyPost_ret (v := .agg #[.int .i64 k, .int .i64 n, .string t]) (by simp only [results, Tryz.results34]; go_simp) rfl ⟨rfl, below_setg hB (by omega)⟩
set_option maxHeartbeats 1000000 in
theorem capply_t0 (n : Int) (t : ByteArray) (w : World) (hL : Lits w) (hm : Val.may ⟨2, n, t.data.toList⟩ = true) (u : ByteArray) (hu : Hid (bs (Val.etrim (Val.ltrim t.data.toList)) = u)) (hul : u.size ≤ 400) (m : Nat) (hmm : Hid (Val.lead u.data.toList = m)) (h0 : m = 0) : Calls Tryz.prog 34 #[.int .i64 1, .agg #[.int .i64 2, .int .i64 n, .string t]] w (VRet 2 n t w) := by
  have hS := start2 w (.int .i64 2) (.int .i64 n) (.string t) (.int .i64 0) (.int .i64 0) (.string ⟨#[]⟩) 24 24
  have hL0 : Lits ((w.alloc (.cells #[.int .i64 2, .int .i64 n, .string t] 24)).alloc (.cells #[.int .i64 0, .int .i64 0, .string ⟨#[]⟩] 24)) := (hL.alloc _).alloc _
  have hml := may_len hm
  replace hm := Lib.hid hm
  subst h0
  go_enter Tryz.func34, Tryz.ntmps34
  go_wp2_with (first
    | (go_at_call 37; refine (may_is _ _ _ _ hm).mono ?_; rintro e w1 ⟨rfl, hb1⟩; have hS1 := keep2 hS hb1; obtain ⟨ca0, ca1, ca2, ca3, ca4, ca5, ca6, ca7, ca8, ca9, ca10, ca11, hz, hB⟩ := id hS1; have hL1 := hL0.below hb1)
    | (go_at_call 69; refine (trim_is _ _ _ hml hu).mono ?_; rintro e w2 ⟨rfl, hb2⟩; have hS2 := keep2 hS1 hb2; obtain ⟨cb0, cb1, cb2, cb3, cb4, cb5, cb6, cb7, cb8, cb9, cb10, cb11, hz2, hB2⟩ := id hS2; have hL2 := hL1.below hb2)
    | (go_at_call 40; refine (cdigits_is u _ (by omega) _ hmm).mono ?_; rintro e w3 ⟨rfl, rfl⟩))
  all_goals exact bodyPost_ret (v := .agg #[.int .i64 2, .int .i64 n, .string t]) (by simp only [results, Tryz.results34]; go_simp) rfl ⟨rfl, below_setg hB2 (by omega)⟩
set_option maxHeartbeats 1000000 in
theorem capply_t1 (n : Int) (t : ByteArray) (w : World) (hL : Lits w) (hm : Val.may ⟨2, n, t.data.toList⟩ = true) (u : ByteArray) (hu : Hid (bs (Val.etrim (Val.ltrim t.data.toList)) = u)) (hul : u.size ≤ 400) (m : Nat) (hmm : Hid (Val.lead u.data.toList = m)) (h0 : m ≠ 0) (h1 : m ≠ u.size) : Calls Tryz.prog 34 #[.int .i64 1, .agg #[.int .i64 2, .int .i64 n, .string t]] w (VRet 2 n t w) := by
  have hS := start2 w (.int .i64 2) (.int .i64 n) (.string t) (.int .i64 0) (.int .i64 0) (.string ⟨#[]⟩) 24 24
  have hL0 : Lits ((w.alloc (.cells #[.int .i64 2, .int .i64 n, .string t] 24)).alloc (.cells #[.int .i64 0, .int .i64 0, .string ⟨#[]⟩] 24)) := (hL.alloc _).alloc _
  have hml := may_len hm
  replace hm := Lib.hid hm
  have b0 : decide ((m : Int) > 0) = true := decide_eq_true (by omega)
  have b9 : 0 < m := by omega
  have b1 : ((m : Int) == (u.size : Int)) = false := by simp; omega
  clear h0 h1
  go_enter Tryz.func34, Tryz.ntmps34
  go_wp2_with (first
    | (go_at_call 37; refine (may_is _ _ _ _ hm).mono ?_; rintro e w1 ⟨rfl, hb1⟩; have hS1 := keep2 hS hb1; obtain ⟨ca0, ca1, ca2, ca3, ca4, ca5, ca6, ca7, ca8, ca9, ca10, ca11, hz, hB⟩ := id hS1; have hL1 := hL0.below hb1)
    | (go_at_call 69; refine (trim_is _ _ _ hml hu).mono ?_; rintro e w2 ⟨rfl, hb2⟩; have hS2 := keep2 hS1 hb2; obtain ⟨cb0, cb1, cb2, cb3, cb4, cb5, cb6, cb7, cb8, cb9, cb10, cb11, hz2, hB2⟩ := id hS2; have hL2 := hL1.below hb2)
    | (go_at_call 40; refine (cdigits_is u _ (by omega) _ hmm).mono ?_; rintro e w3 ⟨rfl, rfl⟩))
  all_goals exact bodyPost_ret (v := .agg #[.int .i64 2, .int .i64 n, .string t]) (by simp only [results, Tryz.results34]; go_simp) rfl ⟨rfl, below_setg hB2 (by omega)⟩
set_option maxHeartbeats 1000000 in
theorem capply_t2 (n : Int) (t : ByteArray) (w : World) (hL : Lits w) (hm : Val.may ⟨2, n, t.data.toList⟩ = true) (u : ByteArray) (hu : Hid (bs (Val.etrim (Val.ltrim t.data.toList)) = u)) (hul : u.size ≤ 400) (m : Nat) (hmm : Hid (Val.lead u.data.toList = m)) (h0 : u.size ≠ 0) (h1 : m = u.size) (n2 : Int) (hq : Hid (Val.pnum u.data.toList = ⟨0, n2, []⟩)) : Calls Tryz.prog 34 #[.int .i64 1, .agg #[.int .i64 2, .int .i64 n, .string t]] w (VRet 2 n t w) := by
  have hS := start2 w (.int .i64 2) (.int .i64 n) (.string t) (.int .i64 0) (.int .i64 0) (.string ⟨#[]⟩) 24 24
  have hL0 : Lits ((w.alloc (.cells #[.int .i64 2, .int .i64 n, .string t] 24)).alloc (.cells #[.int .i64 0, .int .i64 0, .string ⟨#[]⟩] 24)) := (hL.alloc _).alloc _
  have hml := may_len hm
  replace hm := Lib.hid hm
  subst h1
  have b0 : decide ((u.size : Int) > 0) = true := decide_eq_true (by omega)
  have b9 : 0 < u.size := by omega
  have b1 : ((u.size : Int) == (u.size : Int)) = true := by simp
  clear h0
  go_enter Tryz.func34, Tryz.ntmps34
  go_wp2_with (first
    | (go_at_call 37; refine (may_is _ _ _ _ hm).mono ?_; rintro e w1 ⟨rfl, hb1⟩; have hS1 := keep2 hS hb1; obtain ⟨ca0, ca1, ca2, ca3, ca4, ca5, ca6, ca7, ca8, ca9, ca10, ca11, hz, hB⟩ := id hS1; have hL1 := hL0.below hb1)
    | (go_at_call 69; refine (trim_is _ _ _ hml hu).mono ?_; rintro e w2 ⟨rfl, hb2⟩; have hS2 := keep2 hS1 hb2; obtain ⟨cb0, cb1, cb2, cb3, cb4, cb5, cb6, cb7, cb8, cb9, cb10, cb11, hz2, hB2⟩ := id hS2; have hL2 := hL1.below hb2)
    | (go_at_call 40; refine (cdigits_is u _ (by omega) _ hmm).mono ?_; rintro e w3 ⟨rfl, rfl⟩)
    | (go_at_call 42; refine (cnumber_is _ _ (by omega) hL2 _ _ hq).mono ?_; rintro e w9 ⟨rfl, hb9⟩; have hS9 := keep2 (keep2 hS2 hb9) (below_new w9 (.cells #[.int .i64 0, .int .i64 n2, .string ⟨#[]⟩] 24)); obtain ⟨cz0, cz1, cz2, cz3, cz4, cz5, cz6, cz7, cz8, cz9, cz10, cz11, hz9, hB9⟩ := id hS9))
  all_goals exact bodyPost_ret (v := .agg #[.int .i64 2, .int .i64 n, .string t]) (by simp only [results, Tryz.results34]; go_simp) rfl ⟨rfl, below_setg hB9 (by omega)⟩
set_option maxHeartbeats 1000000 in
theorem capply_t3 (n : Int) (t : ByteArray) (w : World) (hL : Lits w) (hm : Val.may ⟨2, n, t.data.toList⟩ = true) (u : ByteArray) (hu : Hid (bs (Val.etrim (Val.ltrim t.data.toList)) = u)) (hul : u.size ≤ 400) (m : Nat) (hmm : Hid (Val.lead u.data.toList = m)) (h0 : u.size ≠ 0) (h1 : m = u.size) (n2 : Int) (hq : Hid (Val.pnum u.data.toList = ⟨1, n2, []⟩)) : Calls Tryz.prog 34 #[.int .i64 1, .agg #[.int .i64 2, .int .i64 n, .string t]] w (VRet 1 n2 ⟨#[]⟩ w) := by
  have hS := start2 w (.int .i64 2) (.int .i64 n) (.string t) (.int .i64 0) (.int .i64 0) (.string ⟨#[]⟩) 24 24
  have hL0 : Lits ((w.alloc (.cells #[.int .i64 2, .int .i64 n, .string t] 24)).alloc (.cells #[.int .i64 0, .int .i64 0, .string ⟨#[]⟩] 24)) := (hL.alloc _).alloc _
  have hml := may_len hm
  replace hm := Lib.hid hm
  subst h1
  have b0 : decide ((u.size : Int) > 0) = true := decide_eq_true (by omega)
  have b9 : 0 < u.size := by omega
  have b1 : ((u.size : Int) == (u.size : Int)) = true := by simp
  clear h0
  go_enter Tryz.func34, Tryz.ntmps34
  go_wp2_with (first
    | (go_at_call 37; refine (may_is _ _ _ _ hm).mono ?_; rintro e w1 ⟨rfl, hb1⟩; have hS1 := keep2 hS hb1; obtain ⟨ca0, ca1, ca2, ca3, ca4, ca5, ca6, ca7, ca8, ca9, ca10, ca11, hz, hB⟩ := id hS1; have hL1 := hL0.below hb1)
    | (go_at_call 69; refine (trim_is _ _ _ hml hu).mono ?_; rintro e w2 ⟨rfl, hb2⟩; have hS2 := keep2 hS1 hb2; obtain ⟨cb0, cb1, cb2, cb3, cb4, cb5, cb6, cb7, cb8, cb9, cb10, cb11, hz2, hB2⟩ := id hS2; have hL2 := hL1.below hb2)
    | (go_at_call 40; refine (cdigits_is u _ (by omega) _ hmm).mono ?_; rintro e w3 ⟨rfl, rfl⟩)
    | (go_at_call 42; refine (cnumber_is _ _ (by omega) hL2 _ _ hq).mono ?_; rintro e w9 ⟨rfl, hb9⟩; have hS9 := keep2 (keep2 hS2 hb9) (below_new w9 (.cells #[.int .i64 1, .int .i64 n2, .string ⟨#[]⟩] 24)); obtain ⟨cz0, cz1, cz2, cz3, cz4, cz5, cz6, cz7, cz8, cz9, cz10, cz11, hz9, hB9⟩ := id hS9))
  all_goals exact bodyPost_ret (v := .agg #[.int .i64 1, .int .i64 n2, .string ⟨#[]⟩]) (by simp only [results, Tryz.results34]; go_simp) rfl ⟨rfl, below_setg hB9 (by omega)⟩
theorem rapply_bad (f k n : Int) (t : ByteArray) (w : World) (hL : Lits w) (hm : Val.may ⟨k, n, t.data.toList⟩ = false) : Calls Tryz.prog 35 #[.int .i64 f, .agg #[.int .i64 k, .int .i64 n, .string t]] w (VRet k n t w) := by
  have hS := start2 w (.int .i64 k) (.int .i64 n) (.string t) (.int .i64 0) (.int .i64 0) (.string ⟨#[]⟩) 24 24
  have hL0 : Lits ((w.alloc (.cells #[.int .i64 k, .int .i64 n, .string t] 24)).alloc (.cells #[.int .i64 0, .int .i64 0, .string ⟨#[]⟩] 24)) := (hL.alloc _).alloc _
  replace hm := Lib.hid hm
  go_enter Tryz.func35, Tryz.ntmps35
  go_wp2_with (go_at_call 25; refine (rmay_is _ _ _ _ hm).mono ?_; rintro e w1 ⟨rfl, hb1⟩; have hS1 := keep2 hS hb1; obtain ⟨ca0, ca1, ca2, ca3, ca4, ca5, ca6, ca7, ca8, ca9, ca10, ca11, hz, hB⟩ := id hS1; have hL1 := hL0.below hb1)
  all_goals exact bodyPost_ret (v := .agg #[.int .i64 k, .int .i64 n, .string t]) (by simp only [results, Tryz.results35]; go_simp) rfl ⟨rfl, below_setg hB (by omega)⟩
theorem rapply_show (k n : Int) (t : ByteArray) (w : World) (hL : Lits w) (ha : Val.inr n) (hm : Val.may ⟨k, n, t.data.toList⟩ = true) (h1 : k = 1) (k2 : Int) (t2 : ByteArray) (hq : Hid (Val.pshow ⟨k, n, t.data.toList⟩ = ⟨k2, 0, t2.data.toList⟩)) : Calls Tryz.prog 35 #[.int .i64 2, .agg #[.int .i64 k, .int .i64 n, .string t]] w (VRet k2 0 t2 w) := by
  have hS := start2 w (.int .i64 k) (.int .i64 n) (.string t) (.int .i64 0) (.int .i64 0) (.string ⟨#[]⟩) 24 24
  have hL0 : Lits ((w.alloc (.cells #[.int .i64 k, .int .i64 n, .string t] 24)).alloc (.cells #[.int .i64 0, .int .i64 0, .string ⟨#[]⟩] 24)) := (hL.alloc _).alloc _
  replace hm := Lib.hid hm
  have b1 : (k == 1) = true := by simp [h1]
  replace ha := Lib.hid ha
  clear h1
  go_enter Tryz.func35, Tryz.ntmps35
  go_wp2_with (first
    | (go_at_call 25; refine (rmay_is _ _ _ _ hm).mono ?_; rintro e w1 ⟨rfl, hb1⟩; have hS1 := keep2 hS hb1; obtain ⟨ca0, ca1, ca2, ca3, ca4, ca5, ca6, ca7, ca8, ca9, ca10, ca11, hz, hB⟩ := id hS1; have hL1 := hL0.below hb1)
    | (go_at_call 17; refine (rshow_is _ _ _ _ ha.out.1 ha.out.2 hL1 _ _ hq).mono ?_; rintro e w9 ⟨rfl, hb9⟩; have hS9 := keep2 hS1 hb9; obtain ⟨cz0, cz1, cz2, cz3, cz4, cz5, cz6, cz7, cz8, cz9, cz10, cz11, hz9, hB9⟩ := id hS9))
  all_goals exact bodyPost_ret (v := .agg #[.int .i64 k2, .int .i64 0, .string t2]) (by simp only [results, Tryz.results35]; go_simp) rfl ⟨rfl, below_setg hB9 (by omega)⟩
theorem rapply_o1 (f k n : Int) (t : ByteArray) (w : World) (hL : Lits w) (hm : Val.may ⟨k, n, t.data.toList⟩ = true) (h1 : f ≠ 1) (h2 : f ≠ 2) : Calls Tryz.prog 35 #[.int .i64 f, .agg #[.int .i64 k, .int .i64 n, .string t]] w (VRet k n t w) := by
  have hS := start2 w (.int .i64 k) (.int .i64 n) (.string t) (.int .i64 0) (.int .i64 0) (.string ⟨#[]⟩) 24 24
  have hL0 : Lits ((w.alloc (.cells #[.int .i64 k, .int .i64 n, .string t] 24)).alloc (.cells #[.int .i64 0, .int .i64 0, .string ⟨#[]⟩] 24)) := (hL.alloc _).alloc _
  replace hm := Lib.hid hm
  have b1 : (f == 1) = false := by simp [h1]
  have b2 : (f == 2) = false := by simp [h2]
  have b3 : (f != 1) = true := by simp [h1]
  clear h1 h2
  go_enter Tryz.func35, Tryz.ntmps35
  go_wp2_with (go_at_call 25; refine (rmay_is _ _ _ _ hm).mono ?_; rintro e w1 ⟨rfl, hb1⟩; have hS1 := keep2 hS hb1; obtain ⟨ca0, ca1, ca2, ca3, ca4, ca5, ca6, ca7, ca8, ca9, ca10, ca11, hz, hB⟩ := id hS1; have hL1 := hL0.below hb1)
  all_goals exact bodyPost_ret (v := .agg #[.int .i64 k, .int .i64 n, .string t]) (by simp only [results, Tryz.results35]; go_simp) rfl ⟨rfl, below_setg hB (by omega)⟩
theorem rapply_o2 (f k n : Int) (t : ByteArray) (w : World) (hL : Lits w) (hm : Val.may ⟨k, n, t.data.toList⟩ = true) (h1 : f = 1) (h2 : k ≠ 2) : Calls Tryz.prog 35 #[.int .i64 f, .agg #[.int .i64 k, .int .i64 n, .string t]] w (VRet k n t w) := by
  have hS := start2 w (.int .i64 k) (.int .i64 n) (.string t) (.int .i64 0) (.int .i64 0) (.string ⟨#[]⟩) 24 24
  have hL0 : Lits ((w.alloc (.cells #[.int .i64 k, .int .i64 n, .string t] 24)).alloc (.cells #[.int .i64 0, .int .i64 0, .string ⟨#[]⟩] 24)) := (hL.alloc _).alloc _
  replace hm := Lib.hid hm
  subst h1
  have b2 : (k == 2) = false := by simp [h2]
  have b3 : (k != 2) = true := by simp [h2]
  clear h2
  go_enter Tryz.func35, Tryz.ntmps35
  go_wp2_with (go_at_call 25; refine (rmay_is _ _ _ _ hm).mono ?_; rintro e w1 ⟨rfl, hb1⟩; have hS1 := keep2 hS hb1; obtain ⟨ca0, ca1, ca2, ca3, ca4, ca5, ca6, ca7, ca8, ca9, ca10, ca11, hz, hB⟩ := id hS1; have hL1 := hL0.below hb1)
  all_goals exact bodyPost_ret (v := .agg #[.int .i64 k, .int .i64 n, .string t]) (by simp only [results, Tryz.results35]; go_simp) rfl ⟨rfl, below_setg hB (by omega)⟩
theorem rapply_o3 (f k n : Int) (t : ByteArray) (w : World) (hL : Lits w) (hm : Val.may ⟨k, n, t.data.toList⟩ = true) (h1 : f = 2) (h2 : k ≠ 1) : Calls Tryz.prog 35 #[.int .i64 f, .agg #[.int .i64 k, .int .i64 n, .string t]] w (VRet k n t w) := by
  have hS := start2 w (.int .i64 k) (.int .i64 n) (.string t) (.int .i64 0) (.int .i64 0) (.string ⟨#[]⟩) 24 24
  have hL0 : Lits ((w.alloc (.cells #[.int .i64 k, .int .i64 n, .string t] 24)).alloc (.cells #[.int .i64 0, .int .i64 0, .string ⟨#[]⟩] 24)) := (hL.alloc _).alloc _
  replace hm := Lib.hid hm
  subst h1
  have b2 : (k == 1) = false := by simp [h2]
  clear h2
  go_enter Tryz.func35, Tryz.ntmps35
  go_wp2_with (go_at_call 25; refine (rmay_is _ _ _ _ hm).mono ?_; rintro e w1 ⟨rfl, hb1⟩; have hS1 := keep2 hS hb1; obtain ⟨ca0, ca1, ca2, ca3, ca4, ca5, ca6, ca7, ca8, ca9, ca10, ca11, hz, hB⟩ := id hS1; have hL1 := hL0.below hb1)
  all_goals exact bodyPost_ret (v := .agg #[.int .i64 k, .int .i64 n, .string t]) (by simp only [results, Tryz.results35]; go_simp) rfl ⟨rfl, below_setg hB (by omega)⟩
theorem etrim_step (x : ByteArray) (h : 0 < x.size) (hb : Val.isBlank (x[x.size - 1]'(by omega)) = true) : Val.etrim x.data.toList = Val.etrim (x.extract 0 (x.size - 1)).data.toList := by
  have hl : x.data.toList.length = x.size := rfl
  have hne : x.data.toList ≠ [] := by intro hh; rw [hh] at hl; simp at hl; omega
  have e1 : x.data.toList = (x.extract 0 (x.size - 1)).data.toList ++ [x[x.size - 1]'(by omega)] := by
    rw [extract_take]
    have := List.dropLast_concat_getLast hne
    rw [List.dropLast_eq_take, hl] at this
    conv => lhs; rw [← this]
    congr 1
    rw [List.getLast_eq_getElem]
    rfl
  rw [e1, Val.etrim_blank _ hb]
theorem etrim_end (x : ByteArray) (h : 0 < x.size) (hb : Val.isBlank (x[x.size - 1]'(by omega)) = false) : Val.etrim x.data.toList = x.data.toList := by
  have hl : x.data.toList.length = x.size := rfl
  have hne : x.data.toList ≠ [] := by intro hh; rw [hh] at hl; simp at hl; omega
  refine Val.etrim_last fun c hc => ?_
  rw [List.getLast?_eq_some_getLast hne] at hc
  obtain rfl := Option.some.inj hc
  rw [List.getLast_eq_getElem]
  exact hb
theorem etrim_empty (x : ByteArray) (h : ¬ 0 < x.size) : Val.etrim x.data.toList = x.data.toList := by
  have : x.data.toList = [] := List.eq_nil_of_length_eq_zero (by have : x.data.toList.length = x.size := rfl; omega)
  rw [this]; rfl
set_option maxHeartbeats 4000000 in
theorem rapply_t0 (n : Int) (t : ByteArray) (w : World) (hL : Lits w) (hm : Val.may ⟨2, n, t.data.toList⟩ = true) (L u : ByteArray) (hL1' : Hid (bs (Val.ltrim t.data.toList) = L)) (hu : Hid (bs (Val.etrim L.data.toList) = u)) (hul : u.size ≤ 400) (m : Nat) (hmm : Hid (Val.lead u.data.toList = m)) (h0 : u.size = 0) : Calls Tryz.prog 35 #[.int .i64 1, .agg #[.int .i64 2, .int .i64 n, .string t]] w (VRet 2 n t w) := by
  have hS := start2 w (.int .i64 2) (.int .i64 n) (.string t) (.int .i64 0) (.int .i64 0) (.string ⟨#[]⟩) 24 24
  have hL0 : Lits ((w.alloc (.cells #[.int .i64 2, .int .i64 n, .string t] 24)).alloc (.cells #[.int .i64 0, .int .i64 0, .string ⟨#[]⟩] 24)) := (hL.alloc _).alloc _
  have hml := may_len hm
  replace hm := Lib.hid hm
  have b0 : ((u.size : Int) == 0) = true := by simp [h0]
  go_enter Tryz.func35, Tryz.ntmps35
  go_wp2_with (go_at_call 25; refine (rmay_is _ _ _ _ hm).mono ?_; rintro e w1 ⟨rfl, hb1⟩; have hS1 := keep2 hS hb1; obtain ⟨ca0, ca1, ca2, ca3, ca4, ca5, ca6, ca7, ca8, ca9, ca10, ca11, hz, hB⟩ := id hS1; have hL1 := hL0.below hb1)
  go_loop [5] (fun v => ∃ x : ByteArray, v = .string x ∧ x.size ≤ 400 ∧ Hid (bs (Val.ltrim x.data.toList) = L)) (fun v => Lib.strSize v)
  case atStart => exact ⟨t, rfl, hml, hL1'⟩
  case round =>
    obtain ⟨x, rfl, hxs, hqx⟩ := hrel
    by_cases hx0 : 0 < x.size
    · have c0 : decide ((x.size : Int) > 0) = true := decide_eq_true (by omega)
      have i2 : (1 : Int) ≤ (x.size : Int) := by omega
      cases hbl : Val.isBlank x[0] with
      | true =>
        have hn := hqx.out
        rw [ltrim_step x hx0 hbl] at hn
        replace hn := Lib.hid hn
        have hbk := Lib.hid hbl
        clear hqx hbl
        go_wp2_with (go_at_call 44; refine (rblank_any _ _ _ hbk).mono ?_; rintro e w2 ⟨rfl, rfl⟩)
        go_round
        case rel => exact ⟨x.extract 1 x.size, by first | rfl | (simp; done), by rw [ByteArray.size_extract]; omega, hn⟩
        case measure => simp [Lib.strSize]; omega
      | false =>
        have hn := hqx.out
        rw [ltrim_end x hx0 hbl, bs_of] at hn
        have hbk := Lib.hid hbl
        clear hqx hbl hL1'
        subst hn
        go_wp2_with (go_at_call 44; refine (rblank_any _ _ _ hbk).mono ?_; rintro e w2 ⟨rfl, rfl⟩)
        go_loop [5] (fun v => ∃ x : ByteArray, v = .string x ∧ x.size ≤ 400 ∧ Hid (bs (Val.etrim x.data.toList) = u)) (fun v => Lib.strSize v)
        case atStart => exact ⟨_, rfl, by assumption, hu⟩
        case round =>
          obtain ⟨y, rfl, hys, hq2⟩ := hrel
          by_cases hy0 : 0 < y.size
          · have d0 : decide ((y.size : Int) > 0) = true := decide_eq_true (by omega)
            have j1 : IntKind.i64.wrap ((y.size : Int) - 1) = (y.size : Int) - 1 := IntWalk.i64_in _ (by omega)
            have j2 : (0 : Int) ≤ (y.size : Int) - 1 := by omega
            have j3 : (y.size : Int) - 1 < (y.size : Int) := by omega
            have j4 : ((y.size : Int) - 1).toNat = y.size - 1 := by omega
            have j5 : (y.size : Int) - 1 ≤ (y.size : Int) := by omega
            have j6 : y.size - 1 < y.size := by omega
            cases hbl2 : Val.isBlank (y[y.size - 1]'(by omega)) with
            | true =>
              have hn := hq2.out
              rw [etrim_step y hy0 hbl2] at hn
              replace hn := Lib.hid hn
              have hbk := Lib.hid hbl2
              clear hq2 hbl2
              go_wp2_with (go_at_call 44; refine (rblank_any _ _ _ hbk).mono ?_; rintro e w2 ⟨rfl, rfl⟩)
              go_round
              case rel => exact ⟨y.extract 0 (y.size - 1), by first | rfl | (simp; done), by rw [ByteArray.size_extract]; omega, hn⟩
              case measure => simp [Lib.strSize]; omega
            | false =>
              have hn := hq2.out
              rw [etrim_end y hy0 hbl2, bs_of] at hn
              have hbk := Lib.hid hbl2
              clear hq2 hbl2 hu
              subst hn
              exfalso; omega
          · have d0 : decide ((y.size : Int) > 0) = false := decide_eq_false (by omega)
            have hn := hq2.out
            rw [etrim_empty y hy0, bs_of] at hn
            clear hq2 hu
            subst hn
            have d1 : y.size = 0 := by omega
            go_wp2_with (first
              | (go_at_call 45; refine (rlead_is _ _ (by omega) _ hmm).mono ?_; rintro e w3 ⟨rfl, rfl⟩))
            all_goals exact bodyPost_ret (v := .agg #[.int .i64 2, .int .i64 n, .string t]) (by simp only [results, Tryz.results35]; go_simp) rfl ⟨rfl, below_setg hB (by omega)⟩
    · have c0 : decide ((x.size : Int) > 0) = false := decide_eq_false (by omega)
      have hn := hqx.out
      rw [ltrim_empty x hx0, bs_of] at hn
      clear hqx hL1'
      subst hn
      go_wp2_with fail
      go_loop [5] (fun v => ∃ x : ByteArray, v = .string x ∧ x.size ≤ 400 ∧ Hid (bs (Val.etrim x.data.toList) = u)) (fun v => Lib.strSize v)
      case atStart => exact ⟨_, rfl, by assumption, hu⟩
      case round =>
        obtain ⟨y, rfl, hys, hq2⟩ := hrel
        by_cases hy0 : 0 < y.size
        · have d0 : decide ((y.size : Int) > 0) = true := decide_eq_true (by omega)
          have j1 : IntKind.i64.wrap ((y.size : Int) - 1) = (y.size : Int) - 1 := IntWalk.i64_in _ (by omega)
          have j2 : (0 : Int) ≤ (y.size : Int) - 1 := by omega
          have j3 : (y.size : Int) - 1 < (y.size : Int) := by omega
          have j4 : ((y.size : Int) - 1).toNat = y.size - 1 := by omega
          have j5 : (y.size : Int) - 1 ≤ (y.size : Int) := by omega
          have j6 : y.size - 1 < y.size := by omega
          cases hbl2 : Val.isBlank (y[y.size - 1]'(by omega)) with
          | true =>
            have hn := hq2.out
            rw [etrim_step y hy0 hbl2] at hn
            replace hn := Lib.hid hn
            have hbk := Lib.hid hbl2
            clear hq2 hbl2
            go_wp2_with (go_at_call 44; refine (rblank_any _ _ _ hbk).mono ?_; rintro e w2 ⟨rfl, rfl⟩)
            go_round
            case rel => exact ⟨y.extract 0 (y.size - 1), by first | rfl | (simp; done), by rw [ByteArray.size_extract]; omega, hn⟩
            case measure => simp [Lib.strSize]; omega
          | false =>
            have hn := hq2.out
            rw [etrim_end y hy0 hbl2, bs_of] at hn
            have hbk := Lib.hid hbl2
            clear hq2 hbl2 hu
            subst hn
            exfalso; omega
        · have d0 : decide ((y.size : Int) > 0) = false := decide_eq_false (by omega)
          have hn := hq2.out
          rw [etrim_empty y hy0, bs_of] at hn
          clear hq2 hu
          subst hn
          have d1 : y.size = 0 := by omega
          go_wp2_with (first
            | (go_at_call 45; refine (rlead_is _ _ (by omega) _ hmm).mono ?_; rintro e w3 ⟨rfl, rfl⟩))
          all_goals exact bodyPost_ret (v := .agg #[.int .i64 2, .int .i64 n, .string t]) (by simp only [results, Tryz.results35]; go_simp) rfl ⟨rfl, below_setg hB (by omega)⟩
set_option maxHeartbeats 4000000 in
theorem rapply_t1 (n : Int) (t : ByteArray) (w : World) (hL : Lits w) (hm : Val.may ⟨2, n, t.data.toList⟩ = true) (L u : ByteArray) (hL1' : Hid (bs (Val.ltrim t.data.toList) = L)) (hu : Hid (bs (Val.etrim L.data.toList) = u)) (hul : u.size ≤ 400) (m : Nat) (hmm : Hid (Val.lead u.data.toList = m)) (h0 : u.size ≠ 0) (h1 : m ≠ u.size) : Calls Tryz.prog 35 #[.int .i64 1, .agg #[.int .i64 2, .int .i64 n, .string t]] w (VRet 2 n t w) := by
  have hS := start2 w (.int .i64 2) (.int .i64 n) (.string t) (.int .i64 0) (.int .i64 0) (.string ⟨#[]⟩) 24 24
  have hL0 : Lits ((w.alloc (.cells #[.int .i64 2, .int .i64 n, .string t] 24)).alloc (.cells #[.int .i64 0, .int .i64 0, .string ⟨#[]⟩] 24)) := (hL.alloc _).alloc _
  have hml := may_len hm
  replace hm := Lib.hid hm
  have b0 : ((u.size : Int) == 0) = false := by simp [h0]
  have b1 : ((m : Int) != (u.size : Int)) = true := by simp; omega
  go_enter Tryz.func35, Tryz.ntmps35
  go_wp2_with (go_at_call 25; refine (rmay_is _ _ _ _ hm).mono ?_; rintro e w1 ⟨rfl, hb1⟩; have hS1 := keep2 hS hb1; obtain ⟨ca0, ca1, ca2, ca3, ca4, ca5, ca6, ca7, ca8, ca9, ca10, ca11, hz, hB⟩ := id hS1; have hL1 := hL0.below hb1)
  go_loop [5] (fun v => ∃ x : ByteArray, v = .string x ∧ x.size ≤ 400 ∧ Hid (bs (Val.ltrim x.data.toList) = L)) (fun v => Lib.strSize v)
  case atStart => exact ⟨t, rfl, hml, hL1'⟩
  case round =>
    obtain ⟨x, rfl, hxs, hqx⟩ := hrel
    by_cases hx0 : 0 < x.size
    · have c0 : decide ((x.size : Int) > 0) = true := decide_eq_true (by omega)
      have i2 : (1 : Int) ≤ (x.size : Int) := by omega
      cases hbl : Val.isBlank x[0] with
      | true =>
        have hn := hqx.out
        rw [ltrim_step x hx0 hbl] at hn
        replace hn := Lib.hid hn
        have hbk := Lib.hid hbl
        clear hqx hbl
        go_wp2_with (go_at_call 44; refine (rblank_any _ _ _ hbk).mono ?_; rintro e w2 ⟨rfl, rfl⟩)
        go_round
        case rel => exact ⟨x.extract 1 x.size, by first | rfl | (simp; done), by rw [ByteArray.size_extract]; omega, hn⟩
        case measure => simp [Lib.strSize]; omega
      | false =>
        have hn := hqx.out
        rw [ltrim_end x hx0 hbl, bs_of] at hn
        have hbk := Lib.hid hbl
        clear hqx hbl hL1'
        subst hn
        go_wp2_with (go_at_call 44; refine (rblank_any _ _ _ hbk).mono ?_; rintro e w2 ⟨rfl, rfl⟩)
        go_loop [5] (fun v => ∃ x : ByteArray, v = .string x ∧ x.size ≤ 400 ∧ Hid (bs (Val.etrim x.data.toList) = u)) (fun v => Lib.strSize v)
        case atStart => exact ⟨_, rfl, by assumption, hu⟩
        case round =>
          obtain ⟨y, rfl, hys, hq2⟩ := hrel
          by_cases hy0 : 0 < y.size
          · have d0 : decide ((y.size : Int) > 0) = true := decide_eq_true (by omega)
            have j1 : IntKind.i64.wrap ((y.size : Int) - 1) = (y.size : Int) - 1 := IntWalk.i64_in _ (by omega)
            have j2 : (0 : Int) ≤ (y.size : Int) - 1 := by omega
            have j3 : (y.size : Int) - 1 < (y.size : Int) := by omega
            have j4 : ((y.size : Int) - 1).toNat = y.size - 1 := by omega
            have j5 : (y.size : Int) - 1 ≤ (y.size : Int) := by omega
            have j6 : y.size - 1 < y.size := by omega
            cases hbl2 : Val.isBlank (y[y.size - 1]'(by omega)) with
            | true =>
              have hn := hq2.out
              rw [etrim_step y hy0 hbl2] at hn
              replace hn := Lib.hid hn
              have hbk := Lib.hid hbl2
              clear hq2 hbl2
              go_wp2_with (go_at_call 44; refine (rblank_any _ _ _ hbk).mono ?_; rintro e w2 ⟨rfl, rfl⟩)
              go_round
              case rel => exact ⟨y.extract 0 (y.size - 1), by first | rfl | (simp; done), by rw [ByteArray.size_extract]; omega, hn⟩
              case measure => simp [Lib.strSize]; omega
            | false =>
              have hn := hq2.out
              rw [etrim_end y hy0 hbl2, bs_of] at hn
              have hbk := Lib.hid hbl2
              clear hq2 hbl2 hu
              subst hn
              go_wp2_with (first
                | (go_at_call 44; refine (rblank_any _ _ _ hbk).mono ?_; rintro e w2 ⟨rfl, rfl⟩)
                | (go_at_call 45; refine (rlead_is _ _ (by omega) _ hmm).mono ?_; rintro e w3 ⟨rfl, rfl⟩))
              all_goals exact bodyPost_ret (v := .agg #[.int .i64 2, .int .i64 n, .string t]) (by simp only [results, Tryz.results35]; go_simp) rfl ⟨rfl, below_setg hB (by omega)⟩
          · have d0 : decide ((y.size : Int) > 0) = false := decide_eq_false (by omega)
            have hn := hq2.out
            rw [etrim_empty y hy0, bs_of] at hn
            clear hq2 hu
            subst hn
            have d1 : y.size = 0 := by omega
            exfalso; omega
    · have c0 : decide ((x.size : Int) > 0) = false := decide_eq_false (by omega)
      have hn := hqx.out
      rw [ltrim_empty x hx0, bs_of] at hn
      clear hqx hL1'
      subst hn
      go_wp2_with fail
      go_loop [5] (fun v => ∃ x : ByteArray, v = .string x ∧ x.size ≤ 400 ∧ Hid (bs (Val.etrim x.data.toList) = u)) (fun v => Lib.strSize v)
      case atStart => exact ⟨_, rfl, by assumption, hu⟩
      case round =>
        obtain ⟨y, rfl, hys, hq2⟩ := hrel
        by_cases hy0 : 0 < y.size
        · have d0 : decide ((y.size : Int) > 0) = true := decide_eq_true (by omega)
          have j1 : IntKind.i64.wrap ((y.size : Int) - 1) = (y.size : Int) - 1 := IntWalk.i64_in _ (by omega)
          have j2 : (0 : Int) ≤ (y.size : Int) - 1 := by omega
          have j3 : (y.size : Int) - 1 < (y.size : Int) := by omega
          have j4 : ((y.size : Int) - 1).toNat = y.size - 1 := by omega
          have j5 : (y.size : Int) - 1 ≤ (y.size : Int) := by omega
          have j6 : y.size - 1 < y.size := by omega
          cases hbl2 : Val.isBlank (y[y.size - 1]'(by omega)) with
          | true =>
            have hn := hq2.out
            rw [etrim_step y hy0 hbl2] at hn
            replace hn := Lib.hid hn
            have hbk := Lib.hid hbl2
            clear hq2 hbl2
            go_wp2_with (go_at_call 44; refine (rblank_any _ _ _ hbk).mono ?_; rintro e w2 ⟨rfl, rfl⟩)
            go_round
            case rel => exact ⟨y.extract 0 (y.size - 1), by first | rfl | (simp; done), by rw [ByteArray.size_extract]; omega, hn⟩
            case measure => simp [Lib.strSize]; omega
          | false =>
            have hn := hq2.out
            rw [etrim_end y hy0 hbl2, bs_of] at hn
            have hbk := Lib.hid hbl2
            clear hq2 hbl2 hu
            subst hn
            go_wp2_with (first
              | (go_at_call 44; refine (rblank_any _ _ _ hbk).mono ?_; rintro e w2 ⟨rfl, rfl⟩)
              | (go_at_call 45; refine (rlead_is _ _ (by omega) _ hmm).mono ?_; rintro e w3 ⟨rfl, rfl⟩))
            all_goals exact bodyPost_ret (v := .agg #[.int .i64 2, .int .i64 n, .string t]) (by simp only [results, Tryz.results35]; go_simp) rfl ⟨rfl, below_setg hB (by omega)⟩
        · have d0 : decide ((y.size : Int) > 0) = false := decide_eq_false (by omega)
          have hn := hq2.out
          rw [etrim_empty y hy0, bs_of] at hn
          clear hq2 hu
          subst hn
          have d1 : y.size = 0 := by omega
          exfalso; omega
set_option maxHeartbeats 4000000 in
theorem rapply_t2 (n : Int) (t : ByteArray) (w : World) (hL : Lits w) (hm : Val.may ⟨2, n, t.data.toList⟩ = true) (L u : ByteArray) (hL1' : Hid (bs (Val.ltrim t.data.toList) = L)) (hu : Hid (bs (Val.etrim L.data.toList) = u)) (hul : u.size ≤ 400) (m : Nat) (hmm : Hid (Val.lead u.data.toList = m)) (h0 : u.size ≠ 0) (h1 : m = u.size) (hsg : Val.signed u.data.toList) (n2 : Int) (hq : Hid (Val.pnum u.data.toList = ⟨0, n2, []⟩)) : Calls Tryz.prog 35 #[.int .i64 1, .agg #[.int .i64 2, .int .i64 n, .string t]] w (VRet 2 n t w) := by
  have hS := start2 w (.int .i64 2) (.int .i64 n) (.string t) (.int .i64 0) (.int .i64 0) (.string ⟨#[]⟩) 24 24
  have hL0 : Lits ((w.alloc (.cells #[.int .i64 2, .int .i64 n, .string t] 24)).alloc (.cells #[.int .i64 0, .int .i64 0, .string ⟨#[]⟩] 24)) := (hL.alloc _).alloc _
  have hml := may_len hm
  replace hm := Lib.hid hm
  have b0 : ((u.size : Int) == 0) = false := by simp [h0]
  have b1 : ((m : Int) != (u.size : Int)) = false := by simp; omega
  go_enter Tryz.func35, Tryz.ntmps35
  go_wp2_with (go_at_call 25; refine (rmay_is _ _ _ _ hm).mono ?_; rintro e w1 ⟨rfl, hb1⟩; have hS1 := keep2 hS hb1; obtain ⟨ca0, ca1, ca2, ca3, ca4, ca5, ca6, ca7, ca8, ca9, ca10, ca11, hz, hB⟩ := id hS1; have hL1 := hL0.below hb1)
  go_loop [5] (fun v => ∃ x : ByteArray, v = .string x ∧ x.size ≤ 400 ∧ Hid (bs (Val.ltrim x.data.toList) = L)) (fun v => Lib.strSize v)
  case atStart => exact ⟨t, rfl, hml, hL1'⟩
  case round =>
    obtain ⟨x, rfl, hxs, hqx⟩ := hrel
    by_cases hx0 : 0 < x.size
    · have c0 : decide ((x.size : Int) > 0) = true := decide_eq_true (by omega)
      have i2 : (1 : Int) ≤ (x.size : Int) := by omega
      cases hbl : Val.isBlank x[0] with
      | true =>
        have hn := hqx.out
        rw [ltrim_step x hx0 hbl] at hn
        replace hn := Lib.hid hn
        have hbk := Lib.hid hbl
        clear hqx hbl
        go_wp2_with (go_at_call 44; refine (rblank_any _ _ _ hbk).mono ?_; rintro e w2 ⟨rfl, rfl⟩)
        go_round
        case rel => exact ⟨x.extract 1 x.size, by first | rfl | (simp; done), by rw [ByteArray.size_extract]; omega, hn⟩
        case measure => simp [Lib.strSize]; omega
      | false =>
        have hn := hqx.out
        rw [ltrim_end x hx0 hbl, bs_of] at hn
        have hbk := Lib.hid hbl
        clear hqx hbl hL1'
        subst hn
        go_wp2_with (go_at_call 44; refine (rblank_any _ _ _ hbk).mono ?_; rintro e w2 ⟨rfl, rfl⟩)
        go_loop [5] (fun v => ∃ x : ByteArray, v = .string x ∧ x.size ≤ 400 ∧ Hid (bs (Val.etrim x.data.toList) = u)) (fun v => Lib.strSize v)
        case atStart => exact ⟨_, rfl, by assumption, hu⟩
        case round =>
          obtain ⟨y, rfl, hys, hq2⟩ := hrel
          by_cases hy0 : 0 < y.size
          · have d0 : decide ((y.size : Int) > 0) = true := decide_eq_true (by omega)
            have j1 : IntKind.i64.wrap ((y.size : Int) - 1) = (y.size : Int) - 1 := IntWalk.i64_in _ (by omega)
            have j2 : (0 : Int) ≤ (y.size : Int) - 1 := by omega
            have j3 : (y.size : Int) - 1 < (y.size : Int) := by omega
            have j4 : ((y.size : Int) - 1).toNat = y.size - 1 := by omega
            have j5 : (y.size : Int) - 1 ≤ (y.size : Int) := by omega
            have j6 : y.size - 1 < y.size := by omega
            cases hbl2 : Val.isBlank (y[y.size - 1]'(by omega)) with
            | true =>
              have hn := hq2.out
              rw [etrim_step y hy0 hbl2] at hn
              replace hn := Lib.hid hn
              have hbk := Lib.hid hbl2
              clear hq2 hbl2
              go_wp2_with (go_at_call 44; refine (rblank_any _ _ _ hbk).mono ?_; rintro e w2 ⟨rfl, rfl⟩)
              go_round
              case rel => exact ⟨y.extract 0 (y.size - 1), by first | rfl | (simp; done), by rw [ByteArray.size_extract]; omega, hn⟩
              case measure => simp [Lib.strSize]; omega
            | false =>
              have hn := hq2.out
              rw [etrim_end y hy0 hbl2, bs_of] at hn
              have hbk := Lib.hid hbl2
              clear hq2 hbl2 hu
              subst hn
              go_wp2_with (first
                | (go_at_call 44; refine (rblank_any _ _ _ hbk).mono ?_; rintro e w2 ⟨rfl, rfl⟩)
                | (go_at_call 45; refine (rlead_is _ _ (by omega) _ hmm).mono ?_; rintro e w3 ⟨rfl, rfl⟩)
                | (go_at_call 46; refine (rnumber_is _ _ (by omega) hsg _ _ hq).mono ?_; rintro e w9 ⟨rfl, hb9⟩; have hS9 := keep2 (keep2 hS1 hb9) (below_new w9 (.cells #[.int .i64 0, .int .i64 n2, .string ⟨#[]⟩] 24)); obtain ⟨cz0, cz1, cz2, cz3, cz4, cz5, cz6, cz7, cz8, cz9, cz10, cz11, hz9, hB9⟩ := id hS9))
              all_goals exact bodyPost_ret (v := .agg #[.int .i64 2, .int .i64 n, .string t]) (by simp only [results, Tryz.results35]; go_simp) rfl ⟨rfl, below_setg hB9 (by omega)⟩
          · have d0 : decide ((y.size : Int) > 0) = false := decide_eq_false (by omega)
            have hn := hq2.out
            rw [etrim_empty y hy0, bs_of] at hn
            clear hq2 hu
            subst hn
            have d1 : y.size = 0 := by omega
            exfalso; omega
    · have c0 : decide ((x.size : Int) > 0) = false := decide_eq_false (by omega)
      have hn := hqx.out
      rw [ltrim_empty x hx0, bs_of] at hn
      clear hqx hL1'
      subst hn
      go_wp2_with fail
      go_loop [5] (fun v => ∃ x : ByteArray, v = .string x ∧ x.size ≤ 400 ∧ Hid (bs (Val.etrim x.data.toList) = u)) (fun v => Lib.strSize v)
      case atStart => exact ⟨_, rfl, by assumption, hu⟩
      case round =>
        obtain ⟨y, rfl, hys, hq2⟩ := hrel
        by_cases hy0 : 0 < y.size
        · have d0 : decide ((y.size : Int) > 0) = true := decide_eq_true (by omega)
          have j1 : IntKind.i64.wrap ((y.size : Int) - 1) = (y.size : Int) - 1 := IntWalk.i64_in _ (by omega)
          have j2 : (0 : Int) ≤ (y.size : Int) - 1 := by omega
          have j3 : (y.size : Int) - 1 < (y.size : Int) := by omega
          have j4 : ((y.size : Int) - 1).toNat = y.size - 1 := by omega
          have j5 : (y.size : Int) - 1 ≤ (y.size : Int) := by omega
          have j6 : y.size - 1 < y.size := by omega
          cases hbl2 : Val.isBlank (y[y.size - 1]'(by omega)) with
          | true =>
            have hn := hq2.out
            rw [etrim_step y hy0 hbl2] at hn
            replace hn := Lib.hid hn
            have hbk := Lib.hid hbl2
            clear hq2 hbl2
            go_wp2_with (go_at_call 44; refine (rblank_any _ _ _ hbk).mono ?_; rintro e w2 ⟨rfl, rfl⟩)
            go_round
            case rel => exact ⟨y.extract 0 (y.size - 1), by first | rfl | (simp; done), by rw [ByteArray.size_extract]; omega, hn⟩
            case measure => simp [Lib.strSize]; omega
          | false =>
            have hn := hq2.out
            rw [etrim_end y hy0 hbl2, bs_of] at hn
            have hbk := Lib.hid hbl2
            clear hq2 hbl2 hu
            subst hn
            go_wp2_with (first
              | (go_at_call 44; refine (rblank_any _ _ _ hbk).mono ?_; rintro e w2 ⟨rfl, rfl⟩)
              | (go_at_call 45; refine (rlead_is _ _ (by omega) _ hmm).mono ?_; rintro e w3 ⟨rfl, rfl⟩)
              | (go_at_call 46; refine (rnumber_is _ _ (by omega) hsg _ _ hq).mono ?_; rintro e w9 ⟨rfl, hb9⟩; have hS9 := keep2 (keep2 hS1 hb9) (below_new w9 (.cells #[.int .i64 0, .int .i64 n2, .string ⟨#[]⟩] 24)); obtain ⟨cz0, cz1, cz2, cz3, cz4, cz5, cz6, cz7, cz8, cz9, cz10, cz11, hz9, hB9⟩ := id hS9))
            all_goals exact bodyPost_ret (v := .agg #[.int .i64 2, .int .i64 n, .string t]) (by simp only [results, Tryz.results35]; go_simp) rfl ⟨rfl, below_setg hB9 (by omega)⟩
        · have d0 : decide ((y.size : Int) > 0) = false := decide_eq_false (by omega)
          have hn := hq2.out
          rw [etrim_empty y hy0, bs_of] at hn
          clear hq2 hu
          subst hn
          have d1 : y.size = 0 := by omega
          exfalso; omega
set_option maxHeartbeats 4000000 in
theorem rapply_t3 (n : Int) (t : ByteArray) (w : World) (hL : Lits w) (hm : Val.may ⟨2, n, t.data.toList⟩ = true) (L u : ByteArray) (hL1' : Hid (bs (Val.ltrim t.data.toList) = L)) (hu : Hid (bs (Val.etrim L.data.toList) = u)) (hul : u.size ≤ 400) (m : Nat) (hmm : Hid (Val.lead u.data.toList = m)) (h0 : u.size ≠ 0) (h1 : m = u.size) (hsg : Val.signed u.data.toList) (n2 : Int) (hq : Hid (Val.pnum u.data.toList = ⟨1, n2, []⟩)) : Calls Tryz.prog 35 #[.int .i64 1, .agg #[.int .i64 2, .int .i64 n, .string t]] w (VRet 1 n2 ⟨#[]⟩ w) := by
  have hS := start2 w (.int .i64 2) (.int .i64 n) (.string t) (.int .i64 0) (.int .i64 0) (.string ⟨#[]⟩) 24 24
  have hL0 : Lits ((w.alloc (.cells #[.int .i64 2, .int .i64 n, .string t] 24)).alloc (.cells #[.int .i64 0, .int .i64 0, .string ⟨#[]⟩] 24)) := (hL.alloc _).alloc _
  have hml := may_len hm
  replace hm := Lib.hid hm
  have b0 : ((u.size : Int) == 0) = false := by simp [h0]
  have b1 : ((m : Int) != (u.size : Int)) = false := by simp; omega
  go_enter Tryz.func35, Tryz.ntmps35
  go_wp2_with (go_at_call 25; refine (rmay_is _ _ _ _ hm).mono ?_; rintro e w1 ⟨rfl, hb1⟩; have hS1 := keep2 hS hb1; obtain ⟨ca0, ca1, ca2, ca3, ca4, ca5, ca6, ca7, ca8, ca9, ca10, ca11, hz, hB⟩ := id hS1; have hL1 := hL0.below hb1)
  go_loop [5] (fun v => ∃ x : ByteArray, v = .string x ∧ x.size ≤ 400 ∧ Hid (bs (Val.ltrim x.data.toList) = L)) (fun v => Lib.strSize v)
  case atStart => exact ⟨t, rfl, hml, hL1'⟩
  case round =>
    obtain ⟨x, rfl, hxs, hqx⟩ := hrel
    by_cases hx0 : 0 < x.size
    · have c0 : decide ((x.size : Int) > 0) = true := decide_eq_true (by omega)
      have i2 : (1 : Int) ≤ (x.size : Int) := by omega
      cases hbl : Val.isBlank x[0] with
      | true =>
        have hn := hqx.out
        rw [ltrim_step x hx0 hbl] at hn
        replace hn := Lib.hid hn
        have hbk := Lib.hid hbl
        clear hqx hbl
        go_wp2_with (go_at_call 44; refine (rblank_any _ _ _ hbk).mono ?_; rintro e w2 ⟨rfl, rfl⟩)
        go_round
        case rel => exact ⟨x.extract 1 x.size, by first | rfl | (simp; done), by rw [ByteArray.size_extract]; omega, hn⟩
        case measure => simp [Lib.strSize]; omega
      | false =>
        have hn := hqx.out
        rw [ltrim_end x hx0 hbl, bs_of] at hn
        have hbk := Lib.hid hbl
        clear hqx hbl hL1'
        subst hn
        go_wp2_with (go_at_call 44; refine (rblank_any _ _ _ hbk).mono ?_; rintro e w2 ⟨rfl, rfl⟩)
        go_loop [5] (fun v => ∃ x : ByteArray, v = .string x ∧ x.size ≤ 400 ∧ Hid (bs (Val.etrim x.data.toList) = u)) (fun v => Lib.strSize v)
        case atStart => exact ⟨_, rfl, by assumption, hu⟩
        case round =>
          obtain ⟨y, rfl, hys, hq2⟩ := hrel
          by_cases hy0 : 0 < y.size
          · have d0 : decide ((y.size : Int) > 0) = true := decide_eq_true (by omega)
            have j1 : IntKind.i64.wrap ((y.size : Int) - 1) = (y.size : Int) - 1 := IntWalk.i64_in _ (by omega)
            have j2 : (0 : Int) ≤ (y.size : Int) - 1 := by omega
            have j3 : (y.size : Int) - 1 < (y.size : Int) := by omega
            have j4 : ((y.size : Int) - 1).toNat = y.size - 1 := by omega
            have j5 : (y.size : Int) - 1 ≤ (y.size : Int) := by omega
            have j6 : y.size - 1 < y.size := by omega
            cases hbl2 : Val.isBlank (y[y.size - 1]'(by omega)) with
            | true =>
              have hn := hq2.out
              rw [etrim_step y hy0 hbl2] at hn
              replace hn := Lib.hid hn
              have hbk := Lib.hid hbl2
              clear hq2 hbl2
              go_wp2_with (go_at_call 44; refine (rblank_any _ _ _ hbk).mono ?_; rintro e w2 ⟨rfl, rfl⟩)
              go_round
              case rel => exact ⟨y.extract 0 (y.size - 1), by first | rfl | (simp; done), by rw [ByteArray.size_extract]; omega, hn⟩
              case measure => simp [Lib.strSize]; omega
            | false =>
              have hn := hq2.out
              rw [etrim_end y hy0 hbl2, bs_of] at hn
              have hbk := Lib.hid hbl2
              clear hq2 hbl2 hu
              subst hn
              go_wp2_with (first
                | (go_at_call 44; refine (rblank_any _ _ _ hbk).mono ?_; rintro e w2 ⟨rfl, rfl⟩)
                | (go_at_call 45; refine (rlead_is _ _ (by omega) _ hmm).mono ?_; rintro e w3 ⟨rfl, rfl⟩)
                | (go_at_call 46; refine (rnumber_is _ _ (by omega) hsg _ _ hq).mono ?_; rintro e w9 ⟨rfl, hb9⟩; have hS9 := keep2 (keep2 hS1 hb9) (below_new w9 (.cells #[.int .i64 1, .int .i64 n2, .string ⟨#[]⟩] 24)); obtain ⟨cz0, cz1, cz2, cz3, cz4, cz5, cz6, cz7, cz8, cz9, cz10, cz11, hz9, hB9⟩ := id hS9))
              all_goals exact bodyPost_ret (v := .agg #[.int .i64 1, .int .i64 n2, .string ⟨#[]⟩]) (by simp only [results, Tryz.results35]; go_simp) rfl ⟨rfl, below_setg hB9 (by omega)⟩
          · have d0 : decide ((y.size : Int) > 0) = false := decide_eq_false (by omega)
            have hn := hq2.out
            rw [etrim_empty y hy0, bs_of] at hn
            clear hq2 hu
            subst hn
            have d1 : y.size = 0 := by omega
            exfalso; omega
    · have c0 : decide ((x.size : Int) > 0) = false := decide_eq_false (by omega)
      have hn := hqx.out
      rw [ltrim_empty x hx0, bs_of] at hn
      clear hqx hL1'
      subst hn
      go_wp2_with fail
      go_loop [5] (fun v => ∃ x : ByteArray, v = .string x ∧ x.size ≤ 400 ∧ Hid (bs (Val.etrim x.data.toList) = u)) (fun v => Lib.strSize v)
      case atStart => exact ⟨_, rfl, by assumption, hu⟩
      case round =>
        obtain ⟨y, rfl, hys, hq2⟩ := hrel
        by_cases hy0 : 0 < y.size
        · have d0 : decide ((y.size : Int) > 0) = true := decide_eq_true (by omega)
          have j1 : IntKind.i64.wrap ((y.size : Int) - 1) = (y.size : Int) - 1 := IntWalk.i64_in _ (by omega)
          have j2 : (0 : Int) ≤ (y.size : Int) - 1 := by omega
          have j3 : (y.size : Int) - 1 < (y.size : Int) := by omega
          have j4 : ((y.size : Int) - 1).toNat = y.size - 1 := by omega
          have j5 : (y.size : Int) - 1 ≤ (y.size : Int) := by omega
          have j6 : y.size - 1 < y.size := by omega
          cases hbl2 : Val.isBlank (y[y.size - 1]'(by omega)) with
          | true =>
            have hn := hq2.out
            rw [etrim_step y hy0 hbl2] at hn
            replace hn := Lib.hid hn
            have hbk := Lib.hid hbl2
            clear hq2 hbl2
            go_wp2_with (go_at_call 44; refine (rblank_any _ _ _ hbk).mono ?_; rintro e w2 ⟨rfl, rfl⟩)
            go_round
            case rel => exact ⟨y.extract 0 (y.size - 1), by first | rfl | (simp; done), by rw [ByteArray.size_extract]; omega, hn⟩
            case measure => simp [Lib.strSize]; omega
          | false =>
            have hn := hq2.out
            rw [etrim_end y hy0 hbl2, bs_of] at hn
            have hbk := Lib.hid hbl2
            clear hq2 hbl2 hu
            subst hn
            go_wp2_with (first
              | (go_at_call 44; refine (rblank_any _ _ _ hbk).mono ?_; rintro e w2 ⟨rfl, rfl⟩)
              | (go_at_call 45; refine (rlead_is _ _ (by omega) _ hmm).mono ?_; rintro e w3 ⟨rfl, rfl⟩)
              | (go_at_call 46; refine (rnumber_is _ _ (by omega) hsg _ _ hq).mono ?_; rintro e w9 ⟨rfl, hb9⟩; have hS9 := keep2 (keep2 hS1 hb9) (below_new w9 (.cells #[.int .i64 1, .int .i64 n2, .string ⟨#[]⟩] 24)); obtain ⟨cz0, cz1, cz2, cz3, cz4, cz5, cz6, cz7, cz8, cz9, cz10, cz11, hz9, hB9⟩ := id hS9))
            all_goals exact bodyPost_ret (v := .agg #[.int .i64 1, .int .i64 n2, .string ⟨#[]⟩]) (by simp only [results, Tryz.results35]; go_simp) rfl ⟨rfl, below_setg hB9 (by omega)⟩
        · have d0 : decide ((y.size : Int) > 0) = false := decide_eq_false (by omega)
          have hn := hq2.out
          rw [etrim_empty y hy0, bs_of] at hn
          clear hq2 hu
          subst hn
          have d1 : y.size = 0 := by omega
          exfalso; omega
/-- WHAT calc.Apply ANSWERS -/
theorem capply_is (f k n : Int) (t : ByteArray) (w : World) (hL : Lits w) (ha : Val.inr n) (k2 n2 : Int) (t2 : ByteArray) (hv : Hid (Val.apply f ⟨k, n, t.data.toList⟩ = ⟨k2, n2, t2.data.toList⟩)) : Calls Tryz.prog 34 #[.int .i64 f, .agg #[.int .i64 k, .int .i64 n, .string t]] w (VRet k2 n2 t2 w) := by
  have hv' := hv.out
  rw [Val.apply] at hv'
  have self : ∀ {k2 n2 : Int} {t2 : ByteArray}, (⟨k, n, t.data.toList⟩ : Val.V) = ⟨k2, n2, t2.data.toList⟩ → k2 = k ∧ n2 = n ∧ t2 = t := by
    intro k2 n2 t2 h
    simp only [Val.V.mk.injEq] at h
    exact ⟨h.1.symm, h.2.1.symm, (bytes_inj' h.2.2).symm⟩
  cases hm : Val.may ⟨k, n, t.data.toList⟩ with
  | false =>
    rw [if_neg (by rw [hm]; decide)] at hv'
    obtain ⟨rfl, rfl, rfl⟩ := self hv'
    exact capply_bad f _ _ _ w hL hm
  | true =>
    rw [if_pos hm] at hv'
    by_cases c1 : f = 2 ∧ k = 1
    · obtain ⟨rfl, rfl⟩ := c1
      rw [if_pos ⟨rfl, rfl⟩] at hv'
      obtain ⟨s, es, _⟩ := pshow_may hm ha (by decide)
      rw [es] at hv'
      simp only [Val.V.mk.injEq] at hv'
      obtain ⟨rfl, rfl, ht⟩ := hv'
      have := bytes_inj' ht
      subst this
      exact capply_show _ _ _ w hL ha hm rfl _ _ (Lib.hid es)
    · rw [if_neg c1] at hv'
      by_cases c2 : f = 1 ∧ k = 2
      · obtain ⟨rfl, rfl⟩ := c2
        obtain ⟨u, hu⟩ : ∃ u, bs (Val.etrim (Val.ltrim t.data.toList)) = u := ⟨_, rfl⟩
        have hud : Val.etrim (Val.ltrim t.data.toList) = u.data.toList := by rw [← hu]; rfl
        have hus : u.data.toList.length = u.size := rfl
        have hml := may_len hm
        have hul : u.size ≤ 400 := by
          have := trim_len t
          rw [hud, hus] at this; omega
        simp only [hud] at hv'
        by_cases h0 : u.size = 0
        · have hn : u.data.toList = [] := List.eq_nil_of_length_eq_zero (by omega)
          rw [if_neg (by rintro ⟨_, _, h, _⟩; exact h hn)] at hv'
          obtain ⟨rfl, rfl, rfl⟩ := self hv'
          exact capply_t0 _ _ w hL hm u (Lib.hid hu) hul _ (Lib.hid rfl) (by rw [hn]; rfl)
        · by_cases h1 : Val.lead u.data.toList = u.size
          · have hsg : Val.signed u.data.toList := by
              have := Val.lead_signed (s := u.data.toList) (by omega)
              rwa [List.take_of_length_le (by omega)] at this
            rcases Val.pnum_cases u.data.toList with hp | ⟨m, hp, _, _⟩
            · rw [if_neg (by rintro ⟨_, _, _, _, h⟩; rw [hp] at h; exact absurd h (by decide))] at hv'
              obtain ⟨rfl, rfl, rfl⟩ := self hv'
              exact capply_t2 _ _ w hL hm u (Lib.hid hu) hul _ (Lib.hid rfl) h0 h1 _ (Lib.hid hp)
            · rw [if_pos ⟨trivial, trivial, (fun h => by rw [h] at hus; simp at hus; omega), by omega, by rw [hp]⟩, hp] at hv'
              simp only [Val.V.mk.injEq] at hv'
              obtain ⟨rfl, rfl, ht⟩ := hv'
              have := text_nil ht.symm
              subst this
              exact capply_t3 _ _ w hL hm u (Lib.hid hu) hul _ (Lib.hid rfl) h0 h1 _ (Lib.hid hp)
          · rw [if_neg (by rintro ⟨_, _, _, h, _⟩; omega)] at hv'
            obtain ⟨rfl, rfl, rfl⟩ := self hv'
            by_cases h2 : Val.lead u.data.toList = 0
            · exact capply_t0 _ _ w hL hm u (Lib.hid hu) hul _ (Lib.hid rfl) h2
            · exact capply_t1 _ _ w hL hm u (Lib.hid hu) hul _ (Lib.hid rfl) h2 h1
      · rw [if_neg (fun h => c2 ⟨h.1, h.2.1⟩)] at hv'
        obtain ⟨rfl, rfl, rfl⟩ := self hv'
        by_cases f1 : f = 1
        · exact capply_o2 f _ _ _ w hL hm f1 (fun h => c2 ⟨f1, h⟩)
        · by_cases f2 : f = 2
          · exact capply_o3 f _ _ _ w hL hm f2 (fun h => c1 ⟨f2, h⟩)
          · exact capply_o1 f _ _ _ w hL hm f1 f2
/-- WHAT bureauref03.Apply ANSWERS -/
theorem rapply_is (f k n : Int) (t : ByteArray) (w : World) (hL : Lits w) (ha : Val.inr n) (k2 n2 : Int) (t2 : ByteArray) (hv : Hid (Val.apply f ⟨k, n, t.data.toList⟩ = ⟨k2, n2, t2.data.toList⟩)) : Calls Tryz.prog 35 #[.int .i64 f, .agg #[.int .i64 k, .int .i64 n, .string t]] w (VRet k2 n2 t2 w) := by
  have hv' := hv.out
  rw [Val.apply] at hv'
  have self : ∀ {k2 n2 : Int} {t2 : ByteArray}, (⟨k, n, t.data.toList⟩ : Val.V) = ⟨k2, n2, t2.data.toList⟩ → k2 = k ∧ n2 = n ∧ t2 = t := by
    intro k2 n2 t2 h
    simp only [Val.V.mk.injEq] at h
    exact ⟨h.1.symm, h.2.1.symm, (bytes_inj' h.2.2).symm⟩
  cases hm : Val.may ⟨k, n, t.data.toList⟩ with
  | false =>
    rw [if_neg (by rw [hm]; decide)] at hv'
    obtain ⟨rfl, rfl, rfl⟩ := self hv'
    exact rapply_bad f _ _ _ w hL hm
  | true =>
    rw [if_pos hm] at hv'
    by_cases c1 : f = 2 ∧ k = 1
    · obtain ⟨rfl, rfl⟩ := c1
      rw [if_pos ⟨rfl, rfl⟩] at hv'
      obtain ⟨s, es, _⟩ := pshow_may hm ha (by decide)
      rw [es] at hv'
      simp only [Val.V.mk.injEq] at hv'
      obtain ⟨rfl, rfl, ht⟩ := hv'
      have := bytes_inj' ht
      subst this
      exact rapply_show _ _ _ w hL ha hm rfl _ _ (Lib.hid es)
    · rw [if_neg c1] at hv'
      by_cases c2 : f = 1 ∧ k = 2
      · obtain ⟨rfl, rfl⟩ := c2
        obtain ⟨u, hu⟩ : ∃ u, bs (Val.etrim (Val.ltrim t.data.toList)) = u := ⟨_, rfl⟩
        have hud : Val.etrim (Val.ltrim t.data.toList) = u.data.toList := by rw [← hu]; rfl
        have hus : u.data.toList.length = u.size := rfl
        have hml := may_len hm
        have hul : u.size ≤ 400 := by
          have := trim_len t
          rw [hud, hus] at this; omega
        simp only [hud] at hv'
        by_cases h0 : u.size = 0
        · have hn : u.data.toList = [] := List.eq_nil_of_length_eq_zero (by omega)
          rw [if_neg (by rintro ⟨_, _, h, _⟩; exact h hn)] at hv'
          obtain ⟨rfl, rfl, rfl⟩ := self hv'
          exact rapply_t0 _ _ w hL hm _ u (Lib.hid rfl) (Lib.hid hu) hul _ (Lib.hid rfl) h0
        · by_cases h1 : Val.lead u.data.toList = u.size
          · have hsg : Val.signed u.data.toList := by
              have := Val.lead_signed (s := u.data.toList) (by omega)
              rwa [List.take_of_length_le (by omega)] at this
            rcases Val.pnum_cases u.data.toList with hp | ⟨m, hp, _, _⟩
            · rw [if_neg (by rintro ⟨_, _, _, _, h⟩; rw [hp] at h; exact absurd h (by decide))] at hv'
              obtain ⟨rfl, rfl, rfl⟩ := self hv'
              exact rapply_t2 _ _ w hL hm _ u (Lib.hid rfl) (Lib.hid hu) hul _ (Lib.hid rfl) h0 h1 hsg _ (Lib.hid hp)
            · rw [if_pos ⟨trivial, trivial, (fun h => by rw [h] at hus; simp at hus; omega), by omega, by rw [hp]⟩, hp] at hv'
              simp only [Val.V.mk.injEq] at hv'
              obtain ⟨rfl, rfl, ht⟩ := hv'
              have := text_nil ht.symm
              subst this
              exact rapply_t3 _ _ w hL hm _ u (Lib.hid rfl) (Lib.hid hu) hul _ (Lib.hid rfl) h0 h1 hsg _ (Lib.hid hp)
          · rw [if_neg (by rintro ⟨_, _, _, h, _⟩; omega)] at hv'
            obtain ⟨rfl, rfl, rfl⟩ := self hv'
            exact rapply_t1 _ _ w hL hm _ u (Lib.hid rfl) (Lib.hid hu) hul _ (Lib.hid rfl) h0 h1
      · rw [if_neg (fun h => c2 ⟨h.1, h.2.1⟩)] at hv'
        obtain ⟨rfl, rfl, rfl⟩ := self hv'
        by_cases f1 : f = 1
        · exact rapply_o2 f _ _ _ w hL hm f1 (fun h => c2 ⟨f1, h⟩)
        · by_cases f2 : f = 2
          · exact rapply_o3 f _ _ _ w hL hm f2 (fun h => c1 ⟨f2, h⟩)
          · exact rapply_o1 f _ _ _ w hL hm f1 f2

end Go.Proofs.YthdpgekjbkpomaaGreatDoor
