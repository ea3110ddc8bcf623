/- Walks: two texts put together, comparisons, the logic of three values. -/
import Derived.Test.YthdpgekjbkpomaaGreatDoorCalcB3
import Derived.Test.YthdpgekjbkpomaaGreatDoorPlain
import Derived.Test.YthdpgekjbkpomaaGreatDoorCalcT3
set_option maxRecDepth 100000
set_option linter.unusedVariables false
set_option linter.unusedSimpArgs false
namespace Go.Proofs.YthdpgekjbkpomaaGreatDoor
open Go.RowKit

set_option maxHeartbeats 4000000 in
theorem cconcat_null1 (ka na : Int) (ta : ByteArray) (kb nb : Int) (tb : ByteArray) (w : World) (hL : Lits w) (ha : Val.inr na) (hb : Val.inr nb) (s1 s2 : ByteArray) (k2 : Int) (hv1 : Hid (Val.pshow ⟨ka, na, ta.data.toList⟩ = ⟨0, 0, s1.data.toList⟩)) (hv2 : Hid (Val.pshow ⟨kb, nb, tb.data.toList⟩ = ⟨k2, 0, s2.data.toList⟩)) :
    Calls Tryz.prog 85 #[.agg #[.int .i64 ka, .int .i64 na, .string ta], .agg #[.int .i64 kb, .int .i64 nb, .string tb]] w (VRet 0 0 ⟨#[]⟩ w) := by
  have hS := start3 w (.int .i64 ka) (.int .i64 na) (.string ta) (.int .i64 kb) (.int .i64 nb) (.string tb) (.int .i64 0) (.int .i64 0) (.string ⟨#[]⟩) 24 24 24
  have hLd : Lits (((w.alloc (.cells #[.int .i64 ka, .int .i64 na, .string ta] 24)).alloc (.cells #[.int .i64 kb, .int .i64 nb, .string tb] 24)).alloc (.cells #[.int .i64 0, .int .i64 0, .string ⟨#[]⟩] 24)).drew := (((hL.alloc _).alloc _).alloc _).below (Below.refl _ _).drew
  have hSd := keepd3 hS
  clear hS
  have hah := Lib.hid ha
  have hbh := Lib.hid hb
  clear ha hb
  go_enter Tryz.func85, Tryz.ntmps85
  go_wp2_with fail
  go_region_with (go_at_call 16; first
    | (refine (cshow_is _ _ _ _ (by first | exact hah.out.1 | exact hbh.out.1) (by first | exact hah.out.2 | exact hbh.out.2) hL1 _ _ (by assumption)).mono ?_; rintro e w2 ⟨rfl, hb2⟩; have hS2 := keep3 hS1 hb2; obtain ⟨cb0, cb1, cb2, cb3, cb4, cb5, cb6, cb7, cb8, cb9, cb10, cb11, cb12, cb13, cb14, cb15, cb16, cb17, hz2, hB2⟩ := id hS2)
    | (refine (cshow_is _ _ _ _ (by first | exact hah.out.1 | exact hbh.out.1) (by first | exact hah.out.2 | exact hbh.out.2) hLd _ _ (by assumption)).mono ?_; rintro e w1 ⟨rfl, hb1⟩; have hS1 := keep3 hSd hb1; obtain ⟨ca0, ca1, ca2, ca3, ca4, ca5, ca6, ca7, ca8, ca9, ca10, ca11, ca12, ca13, ca14, ca15, ca16, ca17, hz, hB⟩ := id hS1; have hL1 := hLd.below hb1))
  all_goals (
    go_wp2_with (go_at_call 38; refine (cnull_any _).mono ?_; rintro e w3 ⟨rfl, hb3⟩; have hS3 := keep3 (put3_1 _ _ _ (put3_0 _ _ _ hS2)) hb3; obtain ⟨cc0, cc1, cc2, cc3, cc4, cc5, cc6, cc7, cc8, cc9, cc10, cc11, cc12, cc13, cc14, cc15, cc16, cc17, hz3, hB3⟩ := id hS3)
    exact bodyPost_ret (v := .agg #[.int .i64 0, .int .i64 0, .string ⟨#[]⟩]) (by simp only [results, Tryz.results85]; go_simp) rfl ⟨rfl, below_setg hB3 (by omega)⟩)
set_option maxHeartbeats 4000000 in
theorem cconcat_null2 (ka na : Int) (ta : ByteArray) (kb nb : Int) (tb : ByteArray) (w : World) (hL : Lits w) (ha : Val.inr na) (hb : Val.inr nb) (s1 s2 : ByteArray) (hv1 : Hid (Val.pshow ⟨ka, na, ta.data.toList⟩ = ⟨2, 0, s1.data.toList⟩)) (hv2 : Hid (Val.pshow ⟨kb, nb, tb.data.toList⟩ = ⟨0, 0, s2.data.toList⟩)) :
    Calls Tryz.prog 85 #[.agg #[.int .i64 ka, .int .i64 na, .string ta], .agg #[.int .i64 kb, .int .i64 nb, .string tb]] w (VRet 0 0 ⟨#[]⟩ w) := by
  have hS := start3 w (.int .i64 ka) (.int .i64 na) (.string ta) (.int .i64 kb) (.int .i64 nb) (.string tb) (.int .i64 0) (.int .i64 0) (.string ⟨#[]⟩) 24 24 24
  have hLd : Lits (((w.alloc (.cells #[.int .i64 ka, .int .i64 na, .string ta] 24)).alloc (.cells #[.int .i64 kb, .int .i64 nb, .string tb] 24)).alloc (.cells #[.int .i64 0, .int .i64 0, .string ⟨#[]⟩] 24)).drew := (((hL.alloc _).alloc _).alloc _).below (Below.refl _ _).drew
  have hSd := keepd3 hS
  clear hS
  have hah := Lib.hid ha
  have hbh := Lib.hid hb
  clear ha hb
  go_enter Tryz.func85, Tryz.ntmps85
  go_wp2_with fail
  go_region_with (go_at_call 16; first
    | (refine (cshow_is _ _ _ _ (by first | exact hah.out.1 | exact hbh.out.1) (by first | exact hah.out.2 | exact hbh.out.2) hL1 _ _ (by assumption)).mono ?_; rintro e w2 ⟨rfl, hb2⟩; have hS2 := keep3 hS1 hb2; obtain ⟨cb0, cb1, cb2, cb3, cb4, cb5, cb6, cb7, cb8, cb9, cb10, cb11, cb12, cb13, cb14, cb15, cb16, cb17, hz2, hB2⟩ := id hS2)
    | (refine (cshow_is _ _ _ _ (by first | exact hah.out.1 | exact hbh.out.1) (by first | exact hah.out.2 | exact hbh.out.2) hLd _ _ (by assumption)).mono ?_; rintro e w1 ⟨rfl, hb1⟩; have hS1 := keep3 hSd hb1; obtain ⟨ca0, ca1, ca2, ca3, ca4, ca5, ca6, ca7, ca8, ca9, ca10, ca11, ca12, ca13, ca14, ca15, ca16, ca17, hz, hB⟩ := id hS1; have hL1 := hLd.below hb1))
  all_goals (
    go_wp2_with (go_at_call 38; refine (cnull_any _).mono ?_; rintro e w3 ⟨rfl, hb3⟩; have hS3 := keep3 (put3_1 _ _ _ (put3_0 _ _ _ hS2)) hb3; obtain ⟨cc0, cc1, cc2, cc3, cc4, cc5, cc6, cc7, cc8, cc9, cc10, cc11, cc12, cc13, cc14, cc15, cc16, cc17, hz3, hB3⟩ := id hS3)
    exact bodyPost_ret (v := .agg #[.int .i64 0, .int .i64 0, .string ⟨#[]⟩]) (by simp only [results, Tryz.results85]; go_simp) rfl ⟨rfl, below_setg hB3 (by omega)⟩)
set_option maxHeartbeats 4000000 in
theorem cconcat_ok (ka na : Int) (ta : ByteArray) (kb nb : Int) (tb : ByteArray) (w : World) (hL : Lits w) (ha : Val.inr na) (hb : Val.inr nb) (s1 s2 : ByteArray) (hv1 : Hid (Val.pshow ⟨ka, na, ta.data.toList⟩ = ⟨2, 0, s1.data.toList⟩)) (hv2 : Hid (Val.pshow ⟨kb, nb, tb.data.toList⟩ = ⟨2, 0, s2.data.toList⟩)) (hz4 : s1.size + s2.size ≤ 400) :
    Calls Tryz.prog 85 #[.agg #[.int .i64 ka, .int .i64 na, .string ta], .agg #[.int .i64 kb, .int .i64 nb, .string tb]] w (VRet 2 0 (s1 ++ s2) w) := by
  have hzz : (s1 ++ s2).size ≤ 400 := by rw [ByteArray.size_append]; exact hz4
  have zz : ¬ 9223372036854775807 < s1.size + s2.size := by omega
  have hS := start3 w (.int .i64 ka) (.int .i64 na) (.string ta) (.int .i64 kb) (.int .i64 nb) (.string tb) (.int .i64 0) (.int .i64 0) (.string ⟨#[]⟩) 24 24 24
  have hLd : Lits (((w.alloc (.cells #[.int .i64 ka, .int .i64 na, .string ta] 24)).alloc (.cells #[.int .i64 kb, .int .i64 nb, .string tb] 24)).alloc (.cells #[.int .i64 0, .int .i64 0, .string ⟨#[]⟩] 24)).drew := (((hL.alloc _).alloc _).alloc _).below (Below.refl _ _).drew
  have hSd := keepd3 hS
  clear hS
  have hah := Lib.hid ha
  have hbh := Lib.hid hb
  clear ha hb
  go_enter Tryz.func85, Tryz.ntmps85
  go_wp2_with fail
  go_region_with (go_at_call 16; first
    | (refine (cshow_is _ _ _ _ (by first | exact hah.out.1 | exact hbh.out.1) (by first | exact hah.out.2 | exact hbh.out.2) hL1 _ _ (by assumption)).mono ?_; rintro e w2 ⟨rfl, hb2⟩; have hS2 := keep3 hS1 hb2; obtain ⟨cb0, cb1, cb2, cb3, cb4, cb5, cb6, cb7, cb8, cb9, cb10, cb11, cb12, cb13, cb14, cb15, cb16, cb17, hz2, hB2⟩ := id hS2)
    | (refine (cshow_is _ _ _ _ (by first | exact hah.out.1 | exact hbh.out.1) (by first | exact hah.out.2 | exact hbh.out.2) hLd _ _ (by assumption)).mono ?_; rintro e w1 ⟨rfl, hb1⟩; have hS1 := keep3 hSd hb1; obtain ⟨ca0, ca1, ca2, ca3, ca4, ca5, ca6, ca7, ca8, ca9, ca10, ca11, ca12, ca13, ca14, ca15, ca16, ca17, hz, hB⟩ := id hS1; have hL1 := hLd.below hb1))
  all_goals (
    go_wp2_with (go_at_call 47; refine (ctext_ok _ _ hzz).mono ?_; rintro e w3 ⟨rfl, hb3⟩; have hS3 := keep3 (put3_1 _ _ _ (put3_0 _ _ _ hS2)) hb3; obtain ⟨cc0, cc1, cc2, cc3, cc4, cc5, cc6, cc7, cc8, cc9, cc10, cc11, cc12, cc13, cc14, cc15, cc16, cc17, hz3, hB3⟩ := id hS3)
    exact bodyPost_ret (v := .agg #[.int .i64 2, .int .i64 0, .string (s1 ++ s2)]) (by simp only [results, Tryz.results85]; go_simp) rfl ⟨rfl, below_setg hB3 (by omega)⟩)
set_option maxHeartbeats 4000000 in
theorem cconcat_long (ka na : Int) (ta : ByteArray) (kb nb : Int) (tb : ByteArray) (w : World) (hL : Lits w) (ha : Val.inr na) (hb : Val.inr nb) (s1 s2 : ByteArray) (hv1 : Hid (Val.pshow ⟨ka, na, ta.data.toList⟩ = ⟨2, 0, s1.data.toList⟩)) (hv2 : Hid (Val.pshow ⟨kb, nb, tb.data.toList⟩ = ⟨2, 0, s2.data.toList⟩)) (hz4 : 400 < s1.size + s2.size) (hz5 : s1.size + s2.size ≤ 1000) :
    Calls Tryz.prog 85 #[.agg #[.int .i64 ka, .int .i64 na, .string ta], .agg #[.int .i64 kb, .int .i64 nb, .string tb]] w (VRet 0 0 ⟨#[]⟩ w) := by
  have hzz : 400 < (s1 ++ s2).size := by rw [ByteArray.size_append]; exact hz4
  have zz : ¬ 9223372036854775807 < s1.size + s2.size := by omega
  have hS := start3 w (.int .i64 ka) (.int .i64 na) (.string ta) (.int .i64 kb) (.int .i64 nb) (.string tb) (.int .i64 0) (.int .i64 0) (.string ⟨#[]⟩) 24 24 24
  have hLd : Lits (((w.alloc (.cells #[.int .i64 ka, .int .i64 na, .string ta] 24)).alloc (.cells #[.int .i64 kb, .int .i64 nb, .string tb] 24)).alloc (.cells #[.int .i64 0, .int .i64 0, .string ⟨#[]⟩] 24)).drew := (((hL.alloc _).alloc _).alloc _).below (Below.refl _ _).drew
  have hSd := keepd3 hS
  clear hS
  have hah := Lib.hid ha
  have hbh := Lib.hid hb
  clear ha hb
  go_enter Tryz.func85, Tryz.ntmps85
  go_wp2_with fail
  go_region_with (go_at_call 16; first
    | (refine (cshow_is _ _ _ _ (by first | exact hah.out.1 | exact hbh.out.1) (by first | exact hah.out.2 | exact hbh.out.2) hL1 _ _ (by assumption)).mono ?_; rintro e w2 ⟨rfl, hb2⟩; have hS2 := keep3 hS1 hb2; obtain ⟨cb0, cb1, cb2, cb3, cb4, cb5, cb6, cb7, cb8, cb9, cb10, cb11, cb12, cb13, cb14, cb15, cb16, cb17, hz2, hB2⟩ := id hS2)
    | (refine (cshow_is _ _ _ _ (by first | exact hah.out.1 | exact hbh.out.1) (by first | exact hah.out.2 | exact hbh.out.2) hLd _ _ (by assumption)).mono ?_; rintro e w1 ⟨rfl, hb1⟩; have hS1 := keep3 hSd hb1; obtain ⟨ca0, ca1, ca2, ca3, ca4, ca5, ca6, ca7, ca8, ca9, ca10, ca11, ca12, ca13, ca14, ca15, ca16, ca17, hz, hB⟩ := id hS1; have hL1 := hLd.below hb1))
  all_goals (
    go_wp2_with (go_at_call 47; refine (ctext_long _ _ hzz).mono ?_; rintro e w3 ⟨rfl, hb3⟩; have hS3 := keep3 (put3_1 _ _ _ (put3_0 _ _ _ hS2)) hb3; obtain ⟨cc0, cc1, cc2, cc3, cc4, cc5, cc6, cc7, cc8, cc9, cc10, cc11, cc12, cc13, cc14, cc15, cc16, cc17, hz3, hB3⟩ := id hS3)
    exact bodyPost_ret (v := .agg #[.int .i64 0, .int .i64 0, .string ⟨#[]⟩]) (by simp only [results, Tryz.results85]; go_simp) rfl ⟨rfl, below_setg hB3 (by omega)⟩)

end Go.Proofs.YthdpgekjbkpomaaGreatDoor
