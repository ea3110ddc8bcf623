/- Walks: the functions of comparisons. -/
import Derived.Test.YthdpgekjbkpomaaGreatDoorCalcB3
import Derived.Test.YthdpgekjbkpomaaGreatDoorPlain
import Derived.Test.YthdpgekjbkpomaaGreatDoorCalcT3
set_option maxRecDepth 100000
set_option linter.unusedVariables false
set_option linter.unusedSimpArgs false
namespace Go.Proofs.YthdpgekjbkpomaaGreatDoor
open Go.RowKit
theorem does1_any (n : Int) (w : World) : Calls Tryz.prog 87 #[.int .i64 n] w fun e w' => e = .returned (.bool (Val.compare 13 n)) ∧ w = w' := by
  obtain ⟨b, hb⟩ : ∃ b, Val.compare 13 n = b := ⟨_, rfl⟩
  rw [hb]
  simp (config := { decide := true }) only [Val.compare, if_true, if_false, true_or, or_true, false_or, or_false] at hb
  subst hb
  go_enter Tryz.func87, Tryz.ntmps87
  go_wp2
  go_ret
  refine ⟨ret_bool ?_, rfl⟩
  first | rfl | (rw [Bool.eq_iff_iff]; simp; done) | (rw [Bool.eq_iff_iff]; simp; omega)
theorem does2_any (n : Int) (w : World) : Calls Tryz.prog 88 #[.int .i64 n] w fun e w' => e = .returned (.bool (Val.compare 14 n)) ∧ w = w' := by
  obtain ⟨b, hb⟩ : ∃ b, Val.compare 14 n = b := ⟨_, rfl⟩
  rw [hb]
  simp (config := { decide := true }) only [Val.compare, if_true, if_false, true_or, or_true, false_or, or_false] at hb
  subst hb
  go_enter Tryz.func88, Tryz.ntmps88
  go_wp2
  go_ret
  refine ⟨ret_bool ?_, rfl⟩
  first | rfl | (rw [Bool.eq_iff_iff]; simp; done) | (rw [Bool.eq_iff_iff]; simp; omega)
theorem does3_any (n : Int) (w : World) : Calls Tryz.prog 89 #[.int .i64 n] w fun e w' => e = .returned (.bool (Val.compare 15 n)) ∧ w = w' := by
  obtain ⟨b, hb⟩ : ∃ b, Val.compare 15 n = b := ⟨_, rfl⟩
  rw [hb]
  simp (config := { decide := true }) only [Val.compare, if_true, if_false, true_or, or_true, false_or, or_false] at hb
  subst hb
  go_enter Tryz.func89, Tryz.ntmps89
  go_wp2
  go_ret
  refine ⟨ret_bool ?_, rfl⟩
  first | rfl | (rw [Bool.eq_iff_iff]; simp; done) | (rw [Bool.eq_iff_iff]; simp; omega)
theorem does4_any (n : Int) (w : World) : Calls Tryz.prog 90 #[.int .i64 n] w fun e w' => e = .returned (.bool (Val.compare 16 n)) ∧ w = w' := by
  obtain ⟨b, hb⟩ : ∃ b, Val.compare 16 n = b := ⟨_, rfl⟩
  rw [hb]
  simp (config := { decide := true }) only [Val.compare, if_true, if_false, true_or, or_true, false_or, or_false] at hb
  subst hb
  go_enter Tryz.func90, Tryz.ntmps90
  go_wp2
  go_ret
  refine ⟨ret_bool ?_, rfl⟩
  first | rfl | (rw [Bool.eq_iff_iff]; simp; done) | (rw [Bool.eq_iff_iff]; simp; omega)
theorem does5_any (n : Int) (w : World) : Calls Tryz.prog 91 #[.int .i64 n] w fun e w' => e = .returned (.bool (Val.compare 17 n)) ∧ w = w' := by
  obtain ⟨b, hb⟩ : ∃ b, Val.compare 17 n = b := ⟨_, rfl⟩
  rw [hb]
  simp (config := { decide := true }) only [Val.compare, if_true, if_false, true_or, or_true, false_or, or_false] at hb
  subst hb
  go_enter Tryz.func91, Tryz.ntmps91
  go_wp2
  go_ret
  refine ⟨ret_bool ?_, rfl⟩
  first | rfl | (rw [Bool.eq_iff_iff]; simp; done) | (rw [Bool.eq_iff_iff]; simp; omega)
theorem does6_any (n : Int) (w : World) : Calls Tryz.prog 92 #[.int .i64 n] w fun e w' => e = .returned (.bool (Val.compare 18 n)) ∧ w = w' := by
  obtain ⟨b, hb⟩ : ∃ b, Val.compare 18 n = b := ⟨_, rfl⟩
  rw [hb]
  simp (config := { decide := true }) only [Val.compare, if_true, if_false, true_or, or_true, false_or, or_false] at hb
  subst hb
  go_enter Tryz.func92, Tryz.ntmps92
  go_wp2
  go_ret
  refine ⟨ret_bool ?_, rfl⟩
  first | rfl | (rw [Bool.eq_iff_iff]; simp; done) | (rw [Bool.eq_iff_iff]; simp; omega)
set_option maxHeartbeats 1000000 in
theorem does7_is (ka na : Int) (ta : ByteArray) (kb nb : Int) (tb : ByteArray) (c : Int) (g : Nat) (w : World) (hg : w.cell? ⟨g, 0, none⟩ = some (.int .i64 c)) (l1 : g < w.heap.size) (hsa : ta.size ≤ 1048576) (hsb : tb.size ≤ 1048576) (m : Int) (hm : Hid ((if Val.compare 19 (Val.cmp ⟨ka, na, ta.data.toList⟩ ⟨kb, nb, tb.data.toList⟩ c) = true then (1 : Int) else 0) = m)) :
    Calls Tryz.prog 93 #[.agg #[.int .i64 ka, .int .i64 na, .string ta], .agg #[.int .i64 kb, .int .i64 nb, .string tb], .pointer (some ⟨g, 0, none⟩)] w (VRet 1 m ⟨#[]⟩ w) := by
  have hS := start3 w (.int .i64 ka) (.int .i64 na) (.string ta) (.int .i64 kb) (.int .i64 nb) (.string tb) (.int .i64 0) (.int .i64 0) (.string ⟨#[]⟩) 24 24 24
  obtain ⟨r, hr⟩ : ∃ r, Val.cmp ⟨ka, na, ta.data.toList⟩ ⟨kb, nb, tb.data.toList⟩ c = r := ⟨_, rfl⟩
  obtain ⟨b, hb⟩ : ∃ b, Val.compare 19 r = b := ⟨_, rfl⟩
  have hm' := hm.out
  rw [hr, hb] at hm'
  have q : (r == 0) = b := by rw [← hb]; simp [Val.compare]; rw [Bool.eq_iff_iff]; simp
  have hSS := hS
  have hS0 := ofS2 hS
  have hg' := ((belowP2 hS0).cell (p := ⟨g, 0, none⟩) l1).trans hg
  clear hS0 hS
  replace hr := Lib.hid hr
  replace hm' := Lib.hid hm'
  clear hb hm
  go_enter Tryz.func93, Tryz.ntmps93
  go_wp2_with (first
    | (go_at_call 62; refine (vcmp_is _ _ _ _ _ _ _ _ hsa hsb _ hr).mono ?_; rintro e w1 ⟨rfl, hb1⟩; have hS1 := keep3 hSS hb1)
    | (go_at_call 63; refine (ctruth_is _ _ hm' _).mono ?_; rintro e w2 ⟨rfl, hb2⟩; have hS2 := keep3 hS1 hb2; obtain ⟨cb0, cb1, cb2, cb3, cb4, cb5, cb6, cb7, cb8, cb9, cb10, cb11, cb12, cb13, cb14, cb15, cb16, cb17, hz2, hB2⟩ := id hS2))
  exact bodyPost_ret (v := .agg #[.int .i64 1, .int .i64 m, .string ⟨#[]⟩]) (by simp only [results, Tryz.results93]; go_simp) rfl ⟨rfl, below_setg hB2 (by omega)⟩
set_option maxHeartbeats 1000000 in
theorem does8_is (ka na : Int) (ta : ByteArray) (kb nb : Int) (tb : ByteArray) (c : Int) (g : Nat) (w : World) (hg : w.cell? ⟨g, 0, none⟩ = some (.int .i64 c)) (l1 : g < w.heap.size) (hsa : ta.size ≤ 1048576) (hsb : tb.size ≤ 1048576) (m : Int) (hm : Hid ((if Val.compare 20 (Val.cmp ⟨ka, na, ta.data.toList⟩ ⟨kb, nb, tb.data.toList⟩ c) = true then (1 : Int) else 0) = m)) :
    Calls Tryz.prog 94 #[.agg #[.int .i64 ka, .int .i64 na, .string ta], .agg #[.int .i64 kb, .int .i64 nb, .string tb], .pointer (some ⟨g, 0, none⟩)] w (VRet 1 m ⟨#[]⟩ w) := by
  have hS := start3 w (.int .i64 ka) (.int .i64 na) (.string ta) (.int .i64 kb) (.int .i64 nb) (.string tb) (.int .i64 0) (.int .i64 0) (.string ⟨#[]⟩) 24 24 24
  obtain ⟨r, hr⟩ : ∃ r, Val.cmp ⟨ka, na, ta.data.toList⟩ ⟨kb, nb, tb.data.toList⟩ c = r := ⟨_, rfl⟩
  obtain ⟨b, hb⟩ : ∃ b, Val.compare 20 r = b := ⟨_, rfl⟩
  have hm' := hm.out
  rw [hr, hb] at hm'
  have q : (r != 0) = b := by rw [← hb]; simp [Val.compare]; rw [Bool.eq_iff_iff]; simp
  have hSS := hS
  have hS0 := ofS2 hS
  have hg' := ((belowP2 hS0).cell (p := ⟨g, 0, none⟩) l1).trans hg
  clear hS0 hS
  replace hr := Lib.hid hr
  replace hm' := Lib.hid hm'
  clear hb hm
  go_enter Tryz.func94, Tryz.ntmps94
  go_wp2_with (first
    | (go_at_call 62; refine (vcmp_is _ _ _ _ _ _ _ _ hsa hsb _ hr).mono ?_; rintro e w1 ⟨rfl, hb1⟩; have hS1 := keep3 hSS hb1)
    | (go_at_call 63; refine (ctruth_is _ _ hm' _).mono ?_; rintro e w2 ⟨rfl, hb2⟩; have hS2 := keep3 hS1 hb2; obtain ⟨cb0, cb1, cb2, cb3, cb4, cb5, cb6, cb7, cb8, cb9, cb10, cb11, cb12, cb13, cb14, cb15, cb16, cb17, hz2, hB2⟩ := id hS2))
  exact bodyPost_ret (v := .agg #[.int .i64 1, .int .i64 m, .string ⟨#[]⟩]) (by simp only [results, Tryz.results94]; go_simp) rfl ⟨rfl, below_setg hB2 (by omega)⟩

end Go.Proofs.YthdpgekjbkpomaaGreatDoor
