/- Walks: the logic of three values. -/
import Derived.Test.YthdpgekjbkpomaaGreatDoorCalcB3
import Derived.Test.YthdpgekjbkpomaaGreatDoorPlain
import Derived.Test.YthdpgekjbkpomaaGreatDoorCalcT3
set_option maxRecDepth 100000
set_option linter.unusedVariables false
set_option linter.unusedSimpArgs false
namespace Go.Proofs.YthdpgekjbkpomaaGreatDoor
open Go.RowKit

/-- the logic of deciding false, or true, in a cell -/
def LogicP (d : Bool) (w : World) (e : Ending) (w' : World) : Prop := ∃ g, e = .returned (.func (Fn.func 123) #[] #[.pointer (some ⟨g, 0, none⟩)]) ∧ w'.cell? ⟨g, 0, none⟩ = some (.bool d) ∧ g < w'.heap.size ∧ Below w.heap.size w w'
theorem logic_any (d : Bool) (w : World) : Calls Tryz.prog 95 #[.bool d] w (LogicP d w) := by
  go_enter Tryz.func95, Tryz.ntmps95
  go_wp2
  go_ret
  have hh := heap_new w (.cells #[.bool d] 4)
  exact ⟨w.heap.size, rfl, cell_of_row _ _ 0 _ 4 _ hh, by simp, below_new _ _⟩
set_option maxHeartbeats 1000000 in
theorem logic_false_m_m (ka na : Int) (ta : ByteArray) (kb nb : Int) (tb : ByteArray) (g : Nat) (w : World) (hL : Lits w) (ha : Val.inr na) (hb : Val.inr nb) (hg : w.cell? ⟨g, 0, none⟩ = some (.bool false)) (l1 : g < w.heap.size) (hx : Hid (Val.tru ⟨ka, na, ta.data.toList⟩ = -1)) (hy : Hid (Val.tru ⟨kb, nb, tb.data.toList⟩ = -1)) :
    Calls Tryz.prog 123 #[.agg #[.int .i64 ka, .int .i64 na, .string ta], .agg #[.int .i64 kb, .int .i64 nb, .string tb], .pointer (some ⟨g, 0, none⟩)] w (VRet 0 0 ⟨#[]⟩ w) := by
  have hS := start3 w (.int .i64 ka) (.int .i64 na) (.string ta) (.int .i64 kb) (.int .i64 nb) (.string tb) (.int .i64 0) (.int .i64 0) (.string ⟨#[]⟩) 24 24 24
  have hL0 : Lits (((w.alloc (.cells #[.int .i64 ka, .int .i64 na, .string ta] 24)).alloc (.cells #[.int .i64 kb, .int .i64 nb, .string tb] 24)).alloc (.cells #[.int .i64 0, .int .i64 0, .string ⟨#[]⟩] 24)) := ((hL.alloc _).alloc _).alloc _
  replace ha := Lib.hid ha
  replace hb := Lib.hid hb
  go_enter Tryz.func123, Tryz.ntmps123
  go_wp2_with (first
    | (go_at_call 11; first
      | (refine (ctru_is kb nb tb _ hb.out.1 hb.out.2 hL1 (-1) false false hy (Lib.hid (by decide)) (Lib.hid (by decide))).mono ?_; rintro e w2 ⟨rfl, hb2⟩; have hS2 := keep3 hS1 hb2; obtain ⟨cb0, cb1, cb2, cb3, cb4, cb5, cb6, cb7, cb8, cb9, cb10, cb11, cb12, cb13, cb14, cb15, cb16, cb17, hz2, hB2⟩ := id hS2; have hgb := (hB2.cell (p := ⟨g, 0, none⟩) l1).trans hg)
      | (refine (ctru_is ka na ta _ ha.out.1 ha.out.2 hL0 (-1) false false hx (Lib.hid (by decide)) (Lib.hid (by decide))).mono ?_; rintro e w1 ⟨rfl, hb1⟩; have hS1 := keep3 hS hb1; obtain ⟨ca0, ca1, ca2, ca3, ca4, ca5, ca6, ca7, ca8, ca9, ca10, ca11, ca12, ca13, ca14, ca15, ca16, ca17, hz, hB⟩ := id hS1; have hL1 := hL0.below hb1))
    | (go_at_call 54; refine (cthree_any _ _ _).mono ?_; rintro e w3 ⟨rfl, hb3⟩; have hS3 := keep3 hS2 hb3; obtain ⟨cc0, cc1, cc2, cc3, cc4, cc5, cc6, cc7, cc8, cc9, cc10, cc11, cc12, cc13, cc14, cc15, cc16, cc17, hz3, hB3⟩ := id hS3))
  exact bodyPost_ret (v := .agg #[.int .i64 0, .int .i64 0, .string ⟨#[]⟩]) (by simp only [results, Tryz.results123]; go_simp) rfl ⟨rfl, below_setg hB3 (by omega)⟩
set_option maxHeartbeats 1000000 in
theorem logic_false_m_z (ka na : Int) (ta : ByteArray) (kb nb : Int) (tb : ByteArray) (g : Nat) (w : World) (hL : Lits w) (ha : Val.inr na) (hb : Val.inr nb) (hg : w.cell? ⟨g, 0, none⟩ = some (.bool false)) (l1 : g < w.heap.size) (hx : Hid (Val.tru ⟨ka, na, ta.data.toList⟩ = -1)) (hy : Hid (Val.tru ⟨kb, nb, tb.data.toList⟩ = 0)) :
    Calls Tryz.prog 123 #[.agg #[.int .i64 ka, .int .i64 na, .string ta], .agg #[.int .i64 kb, .int .i64 nb, .string tb], .pointer (some ⟨g, 0, none⟩)] w (VRet 1 0 ⟨#[]⟩ w) := by
  have hS := start3 w (.int .i64 ka) (.int .i64 na) (.string ta) (.int .i64 kb) (.int .i64 nb) (.string tb) (.int .i64 0) (.int .i64 0) (.string ⟨#[]⟩) 24 24 24
  have hL0 : Lits (((w.alloc (.cells #[.int .i64 ka, .int .i64 na, .string ta] 24)).alloc (.cells #[.int .i64 kb, .int .i64 nb, .string tb] 24)).alloc (.cells #[.int .i64 0, .int .i64 0, .string ⟨#[]⟩] 24)) := ((hL.alloc _).alloc _).alloc _
  replace ha := Lib.hid ha
  replace hb := Lib.hid hb
  go_enter Tryz.func123, Tryz.ntmps123
  go_wp2_with (first
    | (go_at_call 11; first
      | (refine (ctru_is kb nb tb _ hb.out.1 hb.out.2 hL1 (0) false true hy (Lib.hid (by decide)) (Lib.hid (by decide))).mono ?_; rintro e w2 ⟨rfl, hb2⟩; have hS2 := keep3 hS1 hb2; obtain ⟨cb0, cb1, cb2, cb3, cb4, cb5, cb6, cb7, cb8, cb9, cb10, cb11, cb12, cb13, cb14, cb15, cb16, cb17, hz2, hB2⟩ := id hS2; have hgb := (hB2.cell (p := ⟨g, 0, none⟩) l1).trans hg)
      | (refine (ctru_is ka na ta _ ha.out.1 ha.out.2 hL0 (-1) false false hx (Lib.hid (by decide)) (Lib.hid (by decide))).mono ?_; rintro e w1 ⟨rfl, hb1⟩; have hS1 := keep3 hS hb1; obtain ⟨ca0, ca1, ca2, ca3, ca4, ca5, ca6, ca7, ca8, ca9, ca10, ca11, ca12, ca13, ca14, ca15, ca16, ca17, hz, hB⟩ := id hS1; have hL1 := hL0.below hb1))
    | (go_at_call 63; refine (ctruth_any _ _).mono ?_; rintro e w3 ⟨rfl, hb3⟩; have hS3 := keep3 hS2 hb3; obtain ⟨cc0, cc1, cc2, cc3, cc4, cc5, cc6, cc7, cc8, cc9, cc10, cc11, cc12, cc13, cc14, cc15, cc16, cc17, hz3, hB3⟩ := id hS3))
  exact bodyPost_ret (v := .agg #[.int .i64 1, .int .i64 0, .string ⟨#[]⟩]) (by simp only [results, Tryz.results123]; go_simp) rfl ⟨rfl, below_setg hB3 (by omega)⟩
set_option maxHeartbeats 1000000 in
theorem logic_false_m_o (ka na : Int) (ta : ByteArray) (kb nb : Int) (tb : ByteArray) (g : Nat) (w : World) (hL : Lits w) (ha : Val.inr na) (hb : Val.inr nb) (hg : w.cell? ⟨g, 0, none⟩ = some (.bool false)) (l1 : g < w.heap.size) (hx : Hid (Val.tru ⟨ka, na, ta.data.toList⟩ = -1)) (hy : Hid (Val.tru ⟨kb, nb, tb.data.toList⟩ = 1)) :
    Calls Tryz.prog 123 #[.agg #[.int .i64 ka, .int .i64 na, .string ta], .agg #[.int .i64 kb, .int .i64 nb, .string tb], .pointer (some ⟨g, 0, none⟩)] w (VRet 0 0 ⟨#[]⟩ w) := by
  have hS := start3 w (.int .i64 ka) (.int .i64 na) (.string ta) (.int .i64 kb) (.int .i64 nb) (.string tb) (.int .i64 0) (.int .i64 0) (.string ⟨#[]⟩) 24 24 24
  have hL0 : Lits (((w.alloc (.cells #[.int .i64 ka, .int .i64 na, .string ta] 24)).alloc (.cells #[.int .i64 kb, .int .i64 nb, .string tb] 24)).alloc (.cells #[.int .i64 0, .int .i64 0, .string ⟨#[]⟩] 24)) := ((hL.alloc _).alloc _).alloc _
  replace ha := Lib.hid ha
  replace hb := Lib.hid hb
  go_enter Tryz.func123, Tryz.ntmps123
  go_wp2_with (first
    | (go_at_call 11; first
      | (refine (ctru_is kb nb tb _ hb.out.1 hb.out.2 hL1 (1) true true hy (Lib.hid (by decide)) (Lib.hid (by decide))).mono ?_; rintro e w2 ⟨rfl, hb2⟩; have hS2 := keep3 hS1 hb2; obtain ⟨cb0, cb1, cb2, cb3, cb4, cb5, cb6, cb7, cb8, cb9, cb10, cb11, cb12, cb13, cb14, cb15, cb16, cb17, hz2, hB2⟩ := id hS2; have hgb := (hB2.cell (p := ⟨g, 0, none⟩) l1).trans hg)
      | (refine (ctru_is ka na ta _ ha.out.1 ha.out.2 hL0 (-1) false false hx (Lib.hid (by decide)) (Lib.hid (by decide))).mono ?_; rintro e w1 ⟨rfl, hb1⟩; have hS1 := keep3 hS hb1; obtain ⟨ca0, ca1, ca2, ca3, ca4, ca5, ca6, ca7, ca8, ca9, ca10, ca11, ca12, ca13, ca14, ca15, ca16, ca17, hz, hB⟩ := id hS1; have hL1 := hL0.below hb1))
    | (go_at_call 54; refine (cthree_any _ _ _).mono ?_; rintro e w3 ⟨rfl, hb3⟩; have hS3 := keep3 hS2 hb3; obtain ⟨cc0, cc1, cc2, cc3, cc4, cc5, cc6, cc7, cc8, cc9, cc10, cc11, cc12, cc13, cc14, cc15, cc16, cc17, hz3, hB3⟩ := id hS3))
  exact bodyPost_ret (v := .agg #[.int .i64 0, .int .i64 0, .string ⟨#[]⟩]) (by simp only [results, Tryz.results123]; go_simp) rfl ⟨rfl, below_setg hB3 (by omega)⟩
set_option maxHeartbeats 1000000 in
theorem logic_false_z_m (ka na : Int) (ta : ByteArray) (kb nb : Int) (tb : ByteArray) (g : Nat) (w : World) (hL : Lits w) (ha : Val.inr na) (hb : Val.inr nb) (hg : w.cell? ⟨g, 0, none⟩ = some (.bool false)) (l1 : g < w.heap.size) (hx : Hid (Val.tru ⟨ka, na, ta.data.toList⟩ = 0)) (hy : Hid (Val.tru ⟨kb, nb, tb.data.toList⟩ = -1)) :
    Calls Tryz.prog 123 #[.agg #[.int .i64 ka, .int .i64 na, .string ta], .agg #[.int .i64 kb, .int .i64 nb, .string tb], .pointer (some ⟨g, 0, none⟩)] w (VRet 1 0 ⟨#[]⟩ w) := by
  have hS := start3 w (.int .i64 ka) (.int .i64 na) (.string ta) (.int .i64 kb) (.int .i64 nb) (.string tb) (.int .i64 0) (.int .i64 0) (.string ⟨#[]⟩) 24 24 24
  have hL0 : Lits (((w.alloc (.cells #[.int .i64 ka, .int .i64 na, .string ta] 24)).alloc (.cells #[.int .i64 kb, .int .i64 nb, .string tb] 24)).alloc (.cells #[.int .i64 0, .int .i64 0, .string ⟨#[]⟩] 24)) := ((hL.alloc _).alloc _).alloc _
  replace ha := Lib.hid ha
  replace hb := Lib.hid hb
  go_enter Tryz.func123, Tryz.ntmps123
  go_wp2_with (first
    | (go_at_call 11; first
      | (refine (ctru_is kb nb tb _ hb.out.1 hb.out.2 hL1 (-1) false false hy (Lib.hid (by decide)) (Lib.hid (by decide))).mono ?_; rintro e w2 ⟨rfl, hb2⟩; have hS2 := keep3 hS1 hb2; obtain ⟨cb0, cb1, cb2, cb3, cb4, cb5, cb6, cb7, cb8, cb9, cb10, cb11, cb12, cb13, cb14, cb15, cb16, cb17, hz2, hB2⟩ := id hS2; have hgb := (hB2.cell (p := ⟨g, 0, none⟩) l1).trans hg)
      | (refine (ctru_is ka na ta _ ha.out.1 ha.out.2 hL0 (0) false true hx (Lib.hid (by decide)) (Lib.hid (by decide))).mono ?_; rintro e w1 ⟨rfl, hb1⟩; have hS1 := keep3 hS hb1; obtain ⟨ca0, ca1, ca2, ca3, ca4, ca5, ca6, ca7, ca8, ca9, ca10, ca11, ca12, ca13, ca14, ca15, ca16, ca17, hz, hB⟩ := id hS1; have hL1 := hL0.below hb1))
    | (go_at_call 63; refine (ctruth_any _ _).mono ?_; rintro e w3 ⟨rfl, hb3⟩; have hS3 := keep3 hS2 hb3; obtain ⟨cc0, cc1, cc2, cc3, cc4, cc5, cc6, cc7, cc8, cc9, cc10, cc11, cc12, cc13, cc14, cc15, cc16, cc17, hz3, hB3⟩ := id hS3))
  exact bodyPost_ret (v := .agg #[.int .i64 1, .int .i64 0, .string ⟨#[]⟩]) (by simp only [results, Tryz.results123]; go_simp) rfl ⟨rfl, below_setg hB3 (by omega)⟩
set_option maxHeartbeats 1000000 in
theorem logic_false_z_z (ka na : Int) (ta : ByteArray) (kb nb : Int) (tb : ByteArray) (g : Nat) (w : World) (hL : Lits w) (ha : Val.inr na) (hb : Val.inr nb) (hg : w.cell? ⟨g, 0, none⟩ = some (.bool false)) (l1 : g < w.heap.size) (hx : Hid (Val.tru ⟨ka, na, ta.data.toList⟩ = 0)) (hy : Hid (Val.tru ⟨kb, nb, tb.data.toList⟩ = 0)) :
    Calls Tryz.prog 123 #[.agg #[.int .i64 ka, .int .i64 na, .string ta], .agg #[.int .i64 kb, .int .i64 nb, .string tb], .pointer (some ⟨g, 0, none⟩)] w (VRet 1 0 ⟨#[]⟩ w) := by
  have hS := start3 w (.int .i64 ka) (.int .i64 na) (.string ta) (.int .i64 kb) (.int .i64 nb) (.string tb) (.int .i64 0) (.int .i64 0) (.string ⟨#[]⟩) 24 24 24
  have hL0 : Lits (((w.alloc (.cells #[.int .i64 ka, .int .i64 na, .string ta] 24)).alloc (.cells #[.int .i64 kb, .int .i64 nb, .string tb] 24)).alloc (.cells #[.int .i64 0, .int .i64 0, .string ⟨#[]⟩] 24)) := ((hL.alloc _).alloc _).alloc _
  replace ha := Lib.hid ha
  replace hb := Lib.hid hb
  go_enter Tryz.func123, Tryz.ntmps123
  go_wp2_with (first
    | (go_at_call 11; first
      | (refine (ctru_is kb nb tb _ hb.out.1 hb.out.2 hL1 (0) false true hy (Lib.hid (by decide)) (Lib.hid (by decide))).mono ?_; rintro e w2 ⟨rfl, hb2⟩; have hS2 := keep3 hS1 hb2; obtain ⟨cb0, cb1, cb2, cb3, cb4, cb5, cb6, cb7, cb8, cb9, cb10, cb11, cb12, cb13, cb14, cb15, cb16, cb17, hz2, hB2⟩ := id hS2; have hgb := (hB2.cell (p := ⟨g, 0, none⟩) l1).trans hg)
      | (refine (ctru_is ka na ta _ ha.out.1 ha.out.2 hL0 (0) false true hx (Lib.hid (by decide)) (Lib.hid (by decide))).mono ?_; rintro e w1 ⟨rfl, hb1⟩; have hS1 := keep3 hS hb1; obtain ⟨ca0, ca1, ca2, ca3, ca4, ca5, ca6, ca7, ca8, ca9, ca10, ca11, ca12, ca13, ca14, ca15, ca16, ca17, hz, hB⟩ := id hS1; have hL1 := hL0.below hb1))
    | (go_at_call 63; refine (ctruth_any _ _).mono ?_; rintro e w3 ⟨rfl, hb3⟩; have hS3 := keep3 hS2 hb3; obtain ⟨cc0, cc1, cc2, cc3, cc4, cc5, cc6, cc7, cc8, cc9, cc10, cc11, cc12, cc13, cc14, cc15, cc16, cc17, hz3, hB3⟩ := id hS3))
  exact bodyPost_ret (v := .agg #[.int .i64 1, .int .i64 0, .string ⟨#[]⟩]) (by simp only [results, Tryz.results123]; go_simp) rfl ⟨rfl, below_setg hB3 (by omega)⟩
set_option maxHeartbeats 1000000 in
theorem logic_false_z_o (ka na : Int) (ta : ByteArray) (kb nb : Int) (tb : ByteArray) (g : Nat) (w : World) (hL : Lits w) (ha : Val.inr na) (hb : Val.inr nb) (hg : w.cell? ⟨g, 0, none⟩ = some (.bool false)) (l1 : g < w.heap.size) (hx : Hid (Val.tru ⟨ka, na, ta.data.toList⟩ = 0)) (hy : Hid (Val.tru ⟨kb, nb, tb.data.toList⟩ = 1)) :
    Calls Tryz.prog 123 #[.agg #[.int .i64 ka, .int .i64 na, .string ta], .agg #[.int .i64 kb, .int .i64 nb, .string tb], .pointer (some ⟨g, 0, none⟩)] w (VRet 1 0 ⟨#[]⟩ w) := by
  have hS := start3 w (.int .i64 ka) (.int .i64 na) (.string ta) (.int .i64 kb) (.int .i64 nb) (.string tb) (.int .i64 0) (.int .i64 0) (.string ⟨#[]⟩) 24 24 24
  have hL0 : Lits (((w.alloc (.cells #[.int .i64 ka, .int .i64 na, .string ta] 24)).alloc (.cells #[.int .i64 kb, .int .i64 nb, .string tb] 24)).alloc (.cells #[.int .i64 0, .int .i64 0, .string ⟨#[]⟩] 24)) := ((hL.alloc _).alloc _).alloc _
  replace ha := Lib.hid ha
  replace hb := Lib.hid hb
  go_enter Tryz.func123, Tryz.ntmps123
  go_wp2_with (first
    | (go_at_call 11; first
      | (refine (ctru_is kb nb tb _ hb.out.1 hb.out.2 hL1 (1) true true hy (Lib.hid (by decide)) (Lib.hid (by decide))).mono ?_; rintro e w2 ⟨rfl, hb2⟩; have hS2 := keep3 hS1 hb2; obtain ⟨cb0, cb1, cb2, cb3, cb4, cb5, cb6, cb7, cb8, cb9, cb10, cb11, cb12, cb13, cb14, cb15, cb16, cb17, hz2, hB2⟩ := id hS2; have hgb := (hB2.cell (p := ⟨g, 0, none⟩) l1).trans hg)
      | (refine (ctru_is ka na ta _ ha.out.1 ha.out.2 hL0 (0) false true hx (Lib.hid (by decide)) (Lib.hid (by decide))).mono ?_; rintro e w1 ⟨rfl, hb1⟩; have hS1 := keep3 hS hb1; obtain ⟨ca0, ca1, ca2, ca3, ca4, ca5, ca6, ca7, ca8, ca9, ca10, ca11, ca12, ca13, ca14, ca15, ca16, ca17, hz, hB⟩ := id hS1; have hL1 := hL0.below hb1))
    | (go_at_call 63; refine (ctruth_any _ _).mono ?_; rintro e w3 ⟨rfl, hb3⟩; have hS3 := keep3 hS2 hb3; obtain ⟨cc0, cc1, cc2, cc3, cc4, cc5, cc6, cc7, cc8, cc9, cc10, cc11, cc12, cc13, cc14, cc15, cc16, cc17, hz3, hB3⟩ := id hS3))
  exact bodyPost_ret (v := .agg #[.int .i64 1, .int .i64 0, .string ⟨#[]⟩]) (by simp only [results, Tryz.results123]; go_simp) rfl ⟨rfl, below_setg hB3 (by omega)⟩
set_option maxHeartbeats 1000000 in
theorem logic_false_o_m (ka na : Int) (ta : ByteArray) (kb nb : Int) (tb : ByteArray) (g : Nat) (w : World) (hL : Lits w) (ha : Val.inr na) (hb : Val.inr nb) (hg : w.cell? ⟨g, 0, none⟩ = some (.bool false)) (l1 : g < w.heap.size) (hx : Hid (Val.tru ⟨ka, na, ta.data.toList⟩ = 1)) (hy : Hid (Val.tru ⟨kb, nb, tb.data.toList⟩ = -1)) :
    Calls Tryz.prog 123 #[.agg #[.int .i64 ka, .int .i64 na, .string ta], .agg #[.int .i64 kb, .int .i64 nb, .string tb], .pointer (some ⟨g, 0, none⟩)] w (VRet 0 0 ⟨#[]⟩ w) := by
  have hS := start3 w (.int .i64 ka) (.int .i64 na) (.string ta) (.int .i64 kb) (.int .i64 nb) (.string tb) (.int .i64 0) (.int .i64 0) (.string ⟨#[]⟩) 24 24 24
  have hL0 : Lits (((w.alloc (.cells #[.int .i64 ka, .int .i64 na, .string ta] 24)).alloc (.cells #[.int .i64 kb, .int .i64 nb, .string tb] 24)).alloc (.cells #[.int .i64 0, .int .i64 0, .string ⟨#[]⟩] 24)) := ((hL.alloc _).alloc _).alloc _
  replace ha := Lib.hid ha
  replace hb := Lib.hid hb
  go_enter Tryz.func123, Tryz.ntmps123
  go_wp2_with (first
    | (go_at_call 11; first
      | (refine (ctru_is kb nb tb _ hb.out.1 hb.out.2 hL1 (-1) false false hy (Lib.hid (by decide)) (Lib.hid (by decide))).mono ?_; rintro e w2 ⟨rfl, hb2⟩; have hS2 := keep3 hS1 hb2; obtain ⟨cb0, cb1, cb2, cb3, cb4, cb5, cb6, cb7, cb8, cb9, cb10, cb11, cb12, cb13, cb14, cb15, cb16, cb17, hz2, hB2⟩ := id hS2; have hgb := (hB2.cell (p := ⟨g, 0, none⟩) l1).trans hg)
      | (refine (ctru_is ka na ta _ ha.out.1 ha.out.2 hL0 (1) true true hx (Lib.hid (by decide)) (Lib.hid (by decide))).mono ?_; rintro e w1 ⟨rfl, hb1⟩; have hS1 := keep3 hS hb1; obtain ⟨ca0, ca1, ca2, ca3, ca4, ca5, ca6, ca7, ca8, ca9, ca10, ca11, ca12, ca13, ca14, ca15, ca16, ca17, hz, hB⟩ := id hS1; have hL1 := hL0.below hb1))
    | (go_at_call 54; refine (cthree_any _ _ _).mono ?_; rintro e w3 ⟨rfl, hb3⟩; have hS3 := keep3 hS2 hb3; obtain ⟨cc0, cc1, cc2, cc3, cc4, cc5, cc6, cc7, cc8, cc9, cc10, cc11, cc12, cc13, cc14, cc15, cc16, cc17, hz3, hB3⟩ := id hS3))
  exact bodyPost_ret (v := .agg #[.int .i64 0, .int .i64 0, .string ⟨#[]⟩]) (by simp only [results, Tryz.results123]; go_simp) rfl ⟨rfl, below_setg hB3 (by omega)⟩
set_option maxHeartbeats 1000000 in
theorem logic_false_o_z (ka na : Int) (ta : ByteArray) (kb nb : Int) (tb : ByteArray) (g : Nat) (w : World) (hL : Lits w) (ha : Val.inr na) (hb : Val.inr nb) (hg : w.cell? ⟨g, 0, none⟩ = some (.bool false)) (l1 : g < w.heap.size) (hx : Hid (Val.tru ⟨ka, na, ta.data.toList⟩ = 1)) (hy : Hid (Val.tru ⟨kb, nb, tb.data.toList⟩ = 0)) :
    Calls Tryz.prog 123 #[.agg #[.int .i64 ka, .int .i64 na, .string ta], .agg #[.int .i64 kb, .int .i64 nb, .string tb], .pointer (some ⟨g, 0, none⟩)] w (VRet 1 0 ⟨#[]⟩ w) := by
  have hS := start3 w (.int .i64 ka) (.int .i64 na) (.string ta) (.int .i64 kb) (.int .i64 nb) (.string tb) (.int .i64 0) (.int .i64 0) (.string ⟨#[]⟩) 24 24 24
  have hL0 : Lits (((w.alloc (.cells #[.int .i64 ka, .int .i64 na, .string ta] 24)).alloc (.cells #[.int .i64 kb, .int .i64 nb, .string tb] 24)).alloc (.cells #[.int .i64 0, .int .i64 0, .string ⟨#[]⟩] 24)) := ((hL.alloc _).alloc _).alloc _
  replace ha := Lib.hid ha
  replace hb := Lib.hid hb
  go_enter Tryz.func123, Tryz.ntmps123
  go_wp2_with (first
    | (go_at_call 11; first
      | (refine (ctru_is kb nb tb _ hb.out.1 hb.out.2 hL1 (0) false true hy (Lib.hid (by decide)) (Lib.hid (by decide))).mono ?_; rintro e w2 ⟨rfl, hb2⟩; have hS2 := keep3 hS1 hb2; obtain ⟨cb0, cb1, cb2, cb3, cb4, cb5, cb6, cb7, cb8, cb9, cb10, cb11, cb12, cb13, cb14, cb15, cb16, cb17, hz2, hB2⟩ := id hS2; have hgb := (hB2.cell (p := ⟨g, 0, none⟩) l1).trans hg)
      | (refine (ctru_is ka na ta _ ha.out.1 ha.out.2 hL0 (1) true true hx (Lib.hid (by decide)) (Lib.hid (by decide))).mono ?_; rintro e w1 ⟨rfl, hb1⟩; have hS1 := keep3 hS hb1; obtain ⟨ca0, ca1, ca2, ca3, ca4, ca5, ca6, ca7, ca8, ca9, ca10, ca11, ca12, ca13, ca14, ca15, ca16, ca17, hz, hB⟩ := id hS1; have hL1 := hL0.below hb1))
    | (go_at_call 63; refine (ctruth_any _ _).mono ?_; rintro e w3 ⟨rfl, hb3⟩; have hS3 := keep3 hS2 hb3; obtain ⟨cc0, cc1, cc2, cc3, cc4, cc5, cc6, cc7, cc8, cc9, cc10, cc11, cc12, cc13, cc14, cc15, cc16, cc17, hz3, hB3⟩ := id hS3))
  exact bodyPost_ret (v := .agg #[.int .i64 1, .int .i64 0, .string ⟨#[]⟩]) (by simp only [results, Tryz.results123]; go_simp) rfl ⟨rfl, below_setg hB3 (by omega)⟩
set_option maxHeartbeats 1000000 in
theorem logic_false_o_o (ka na : Int) (ta : ByteArray) (kb nb : Int) (tb : ByteArray) (g : Nat) (w : World) (hL : Lits w) (ha : Val.inr na) (hb : Val.inr nb) (hg : w.cell? ⟨g, 0, none⟩ = some (.bool false)) (l1 : g < w.heap.size) (hx : Hid (Val.tru ⟨ka, na, ta.data.toList⟩ = 1)) (hy : Hid (Val.tru ⟨kb, nb, tb.data.toList⟩ = 1)) :
    Calls Tryz.prog 123 #[.agg #[.int .i64 ka, .int .i64 na, .string ta], .agg #[.int .i64 kb, .int .i64 nb, .string tb], .pointer (some ⟨g, 0, none⟩)] w (VRet 1 1 ⟨#[]⟩ w) := by
  have hS := start3 w (.int .i64 ka) (.int .i64 na) (.string ta) (.int .i64 kb) (.int .i64 nb) (.string tb) (.int .i64 0) (.int .i64 0) (.string ⟨#[]⟩) 24 24 24
  have hL0 : Lits (((w.alloc (.cells #[.int .i64 ka, .int .i64 na, .string ta] 24)).alloc (.cells #[.int .i64 kb, .int .i64 nb, .string tb] 24)).alloc (.cells #[.int .i64 0, .int .i64 0, .string ⟨#[]⟩] 24)) := ((hL.alloc _).alloc _).alloc _
  replace ha := Lib.hid ha
  replace hb := Lib.hid hb
  go_enter Tryz.func123, Tryz.ntmps123
  go_wp2_with (first
    | (go_at_call 11; first
      | (refine (ctru_is kb nb tb _ hb.out.1 hb.out.2 hL1 (1) true true hy (Lib.hid (by decide)) (Lib.hid (by decide))).mono ?_; rintro e w2 ⟨rfl, hb2⟩; have hS2 := keep3 hS1 hb2; obtain ⟨cb0, cb1, cb2, cb3, cb4, cb5, cb6, cb7, cb8, cb9, cb10, cb11, cb12, cb13, cb14, cb15, cb16, cb17, hz2, hB2⟩ := id hS2; have hgb := (hB2.cell (p := ⟨g, 0, none⟩) l1).trans hg)
      | (refine (ctru_is ka na ta _ ha.out.1 ha.out.2 hL0 (1) true true hx (Lib.hid (by decide)) (Lib.hid (by decide))).mono ?_; rintro e w1 ⟨rfl, hb1⟩; have hS1 := keep3 hS hb1; obtain ⟨ca0, ca1, ca2, ca3, ca4, ca5, ca6, ca7, ca8, ca9, ca10, ca11, ca12, ca13, ca14, ca15, ca16, ca17, hz, hB⟩ := id hS1; have hL1 := hL0.below hb1))
    | (go_at_call 54; refine (cthree_any _ _ _).mono ?_; rintro e w3 ⟨rfl, hb3⟩; have hS3 := keep3 hS2 hb3; obtain ⟨cc0, cc1, cc2, cc3, cc4, cc5, cc6, cc7, cc8, cc9, cc10, cc11, cc12, cc13, cc14, cc15, cc16, cc17, hz3, hB3⟩ := id hS3))
  exact bodyPost_ret (v := .agg #[.int .i64 1, .int .i64 1, .string ⟨#[]⟩]) (by simp only [results, Tryz.results123]; go_simp) rfl ⟨rfl, below_setg hB3 (by omega)⟩
set_option maxHeartbeats 1000000 in
theorem logic_true_m_m (ka na : Int) (ta : ByteArray) (kb nb : Int) (tb : ByteArray) (g : Nat) (w : World) (hL : Lits w) (ha : Val.inr na) (hb : Val.inr nb) (hg : w.cell? ⟨g, 0, none⟩ = some (.bool true)) (l1 : g < w.heap.size) (hx : Hid (Val.tru ⟨ka, na, ta.data.toList⟩ = -1)) (hy : Hid (Val.tru ⟨kb, nb, tb.data.toList⟩ = -1)) :
    Calls Tryz.prog 123 #[.agg #[.int .i64 ka, .int .i64 na, .string ta], .agg #[.int .i64 kb, .int .i64 nb, .string tb], .pointer (some ⟨g, 0, none⟩)] w (VRet 0 0 ⟨#[]⟩ w) := by
  have hS := start3 w (.int .i64 ka) (.int .i64 na) (.string ta) (.int .i64 kb) (.int .i64 nb) (.string tb) (.int .i64 0) (.int .i64 0) (.string ⟨#[]⟩) 24 24 24
  have hL0 : Lits (((w.alloc (.cells #[.int .i64 ka, .int .i64 na, .string ta] 24)).alloc (.cells #[.int .i64 kb, .int .i64 nb, .string tb] 24)).alloc (.cells #[.int .i64 0, .int .i64 0, .string ⟨#[]⟩] 24)) := ((hL.alloc _).alloc _).alloc _
  replace ha := Lib.hid ha
  replace hb := Lib.hid hb
  go_enter Tryz.func123, Tryz.ntmps123
  go_wp2_with (first
    | (go_at_call 11; first
      | (refine (ctru_is kb nb tb _ hb.out.1 hb.out.2 hL1 (-1) false false hy (Lib.hid (by decide)) (Lib.hid (by decide))).mono ?_; rintro e w2 ⟨rfl, hb2⟩; have hS2 := keep3 hS1 hb2; obtain ⟨cb0, cb1, cb2, cb3, cb4, cb5, cb6, cb7, cb8, cb9, cb10, cb11, cb12, cb13, cb14, cb15, cb16, cb17, hz2, hB2⟩ := id hS2; have hgb := (hB2.cell (p := ⟨g, 0, none⟩) l1).trans hg)
      | (refine (ctru_is ka na ta _ ha.out.1 ha.out.2 hL0 (-1) false false hx (Lib.hid (by decide)) (Lib.hid (by decide))).mono ?_; rintro e w1 ⟨rfl, hb1⟩; have hS1 := keep3 hS hb1; obtain ⟨ca0, ca1, ca2, ca3, ca4, ca5, ca6, ca7, ca8, ca9, ca10, ca11, ca12, ca13, ca14, ca15, ca16, ca17, hz, hB⟩ := id hS1; have hL1 := hL0.below hb1))
    | (go_at_call 54; refine (cthree_any _ _ _).mono ?_; rintro e w3 ⟨rfl, hb3⟩; have hS3 := keep3 hS2 hb3; obtain ⟨cc0, cc1, cc2, cc3, cc4, cc5, cc6, cc7, cc8, cc9, cc10, cc11, cc12, cc13, cc14, cc15, cc16, cc17, hz3, hB3⟩ := id hS3))
  exact bodyPost_ret (v := .agg #[.int .i64 0, .int .i64 0, .string ⟨#[]⟩]) (by simp only [results, Tryz.results123]; go_simp) rfl ⟨rfl, below_setg hB3 (by omega)⟩
set_option maxHeartbeats 1000000 in
theorem logic_true_m_z (ka na : Int) (ta : ByteArray) (kb nb : Int) (tb : ByteArray) (g : Nat) (w : World) (hL : Lits w) (ha : Val.inr na) (hb : Val.inr nb) (hg : w.cell? ⟨g, 0, none⟩ = some (.bool true)) (l1 : g < w.heap.size) (hx : Hid (Val.tru ⟨ka, na, ta.data.toList⟩ = -1)) (hy : Hid (Val.tru ⟨kb, nb, tb.data.toList⟩ = 0)) :
    Calls Tryz.prog 123 #[.agg #[.int .i64 ka, .int .i64 na, .string ta], .agg #[.int .i64 kb, .int .i64 nb, .string tb], .pointer (some ⟨g, 0, none⟩)] w (VRet 0 0 ⟨#[]⟩ w) := by
  have hS := start3 w (.int .i64 ka) (.int .i64 na) (.string ta) (.int .i64 kb) (.int .i64 nb) (.string tb) (.int .i64 0) (.int .i64 0) (.string ⟨#[]⟩) 24 24 24
  have hL0 : Lits (((w.alloc (.cells #[.int .i64 ka, .int .i64 na, .string ta] 24)).alloc (.cells #[.int .i64 kb, .int .i64 nb, .string tb] 24)).alloc (.cells #[.int .i64 0, .int .i64 0, .string ⟨#[]⟩] 24)) := ((hL.alloc _).alloc _).alloc _
  replace ha := Lib.hid ha
  replace hb := Lib.hid hb
  go_enter Tryz.func123, Tryz.ntmps123
  go_wp2_with (first
    | (go_at_call 11; first
      | (refine (ctru_is kb nb tb _ hb.out.1 hb.out.2 hL1 (0) false true hy (Lib.hid (by decide)) (Lib.hid (by decide))).mono ?_; rintro e w2 ⟨rfl, hb2⟩; have hS2 := keep3 hS1 hb2; obtain ⟨cb0, cb1, cb2, cb3, cb4, cb5, cb6, cb7, cb8, cb9, cb10, cb11, cb12, cb13, cb14, cb15, cb16, cb17, hz2, hB2⟩ := id hS2; have hgb := (hB2.cell (p := ⟨g, 0, none⟩) l1).trans hg)
      | (refine (ctru_is ka na ta _ ha.out.1 ha.out.2 hL0 (-1) false false hx (Lib.hid (by decide)) (Lib.hid (by decide))).mono ?_; rintro e w1 ⟨rfl, hb1⟩; have hS1 := keep3 hS hb1; obtain ⟨ca0, ca1, ca2, ca3, ca4, ca5, ca6, ca7, ca8, ca9, ca10, ca11, ca12, ca13, ca14, ca15, ca16, ca17, hz, hB⟩ := id hS1; have hL1 := hL0.below hb1))
    | (go_at_call 54; refine (cthree_any _ _ _).mono ?_; rintro e w3 ⟨rfl, hb3⟩; have hS3 := keep3 hS2 hb3; obtain ⟨cc0, cc1, cc2, cc3, cc4, cc5, cc6, cc7, cc8, cc9, cc10, cc11, cc12, cc13, cc14, cc15, cc16, cc17, hz3, hB3⟩ := id hS3))
  exact bodyPost_ret (v := .agg #[.int .i64 0, .int .i64 0, .string ⟨#[]⟩]) (by simp only [results, Tryz.results123]; go_simp) rfl ⟨rfl, below_setg hB3 (by omega)⟩
set_option maxHeartbeats 1000000 in
theorem logic_true_m_o (ka na : Int) (ta : ByteArray) (kb nb : Int) (tb : ByteArray) (g : Nat) (w : World) (hL : Lits w) (ha : Val.inr na) (hb : Val.inr nb) (hg : w.cell? ⟨g, 0, none⟩ = some (.bool true)) (l1 : g < w.heap.size) (hx : Hid (Val.tru ⟨ka, na, ta.data.toList⟩ = -1)) (hy : Hid (Val.tru ⟨kb, nb, tb.data.toList⟩ = 1)) :
    Calls Tryz.prog 123 #[.agg #[.int .i64 ka, .int .i64 na, .string ta], .agg #[.int .i64 kb, .int .i64 nb, .string tb], .pointer (some ⟨g, 0, none⟩)] w (VRet 1 1 ⟨#[]⟩ w) := by
  have hS := start3 w (.int .i64 ka) (.int .i64 na) (.string ta) (.int .i64 kb) (.int .i64 nb) (.string tb) (.int .i64 0) (.int .i64 0) (.string ⟨#[]⟩) 24 24 24
  have hL0 : Lits (((w.alloc (.cells #[.int .i64 ka, .int .i64 na, .string ta] 24)).alloc (.cells #[.int .i64 kb, .int .i64 nb, .string tb] 24)).alloc (.cells #[.int .i64 0, .int .i64 0, .string ⟨#[]⟩] 24)) := ((hL.alloc _).alloc _).alloc _
  replace ha := Lib.hid ha
  replace hb := Lib.hid hb
  go_enter Tryz.func123, Tryz.ntmps123
  go_wp2_with (first
    | (go_at_call 11; first
      | (refine (ctru_is kb nb tb _ hb.out.1 hb.out.2 hL1 (1) true true hy (Lib.hid (by decide)) (Lib.hid (by decide))).mono ?_; rintro e w2 ⟨rfl, hb2⟩; have hS2 := keep3 hS1 hb2; obtain ⟨cb0, cb1, cb2, cb3, cb4, cb5, cb6, cb7, cb8, cb9, cb10, cb11, cb12, cb13, cb14, cb15, cb16, cb17, hz2, hB2⟩ := id hS2; have hgb := (hB2.cell (p := ⟨g, 0, none⟩) l1).trans hg)
      | (refine (ctru_is ka na ta _ ha.out.1 ha.out.2 hL0 (-1) false false hx (Lib.hid (by decide)) (Lib.hid (by decide))).mono ?_; rintro e w1 ⟨rfl, hb1⟩; have hS1 := keep3 hS hb1; obtain ⟨ca0, ca1, ca2, ca3, ca4, ca5, ca6, ca7, ca8, ca9, ca10, ca11, ca12, ca13, ca14, ca15, ca16, ca17, hz, hB⟩ := id hS1; have hL1 := hL0.below hb1))
    | (go_at_call 63; refine (ctruth_any _ _).mono ?_; rintro e w3 ⟨rfl, hb3⟩; have hS3 := keep3 hS2 hb3; obtain ⟨cc0, cc1, cc2, cc3, cc4, cc5, cc6, cc7, cc8, cc9, cc10, cc11, cc12, cc13, cc14, cc15, cc16, cc17, hz3, hB3⟩ := id hS3))
  exact bodyPost_ret (v := .agg #[.int .i64 1, .int .i64 1, .string ⟨#[]⟩]) (by simp only [results, Tryz.results123]; go_simp) rfl ⟨rfl, below_setg hB3 (by omega)⟩
set_option maxHeartbeats 1000000 in
theorem logic_true_z_m (ka na : Int) (ta : ByteArray) (kb nb : Int) (tb : ByteArray) (g : Nat) (w : World) (hL : Lits w) (ha : Val.inr na) (hb : Val.inr nb) (hg : w.cell? ⟨g, 0, none⟩ = some (.bool true)) (l1 : g < w.heap.size) (hx : Hid (Val.tru ⟨ka, na, ta.data.toList⟩ = 0)) (hy : Hid (Val.tru ⟨kb, nb, tb.data.toList⟩ = -1)) :
    Calls Tryz.prog 123 #[.agg #[.int .i64 ka, .int .i64 na, .string ta], .agg #[.int .i64 kb, .int .i64 nb, .string tb], .pointer (some ⟨g, 0, none⟩)] w (VRet 0 0 ⟨#[]⟩ w) := by
  have hS := start3 w (.int .i64 ka) (.int .i64 na) (.string ta) (.int .i64 kb) (.int .i64 nb) (.string tb) (.int .i64 0) (.int .i64 0) (.string ⟨#[]⟩) 24 24 24
  have hL0 : Lits (((w.alloc (.cells #[.int .i64 ka, .int .i64 na, .string ta] 24)).alloc (.cells #[.int .i64 kb, .int .i64 nb, .string tb] 24)).alloc (.cells #[.int .i64 0, .int .i64 0, .string ⟨#[]⟩] 24)) := ((hL.alloc _).alloc _).alloc _
  replace ha := Lib.hid ha
  replace hb := Lib.hid hb
  go_enter Tryz.func123, Tryz.ntmps123
  go_wp2_with (first
    | (go_at_call 11; first
      | (refine (ctru_is kb nb tb _ hb.out.1 hb.out.2 hL1 (-1) false false hy (Lib.hid (by decide)) (Lib.hid (by decide))).mono ?_; rintro e w2 ⟨rfl, hb2⟩; have hS2 := keep3 hS1 hb2; obtain ⟨cb0, cb1, cb2, cb3, cb4, cb5, cb6, cb7, cb8, cb9, cb10, cb11, cb12, cb13, cb14, cb15, cb16, cb17, hz2, hB2⟩ := id hS2; have hgb := (hB2.cell (p := ⟨g, 0, none⟩) l1).trans hg)
      | (refine (ctru_is ka na ta _ ha.out.1 ha.out.2 hL0 (0) false true hx (Lib.hid (by decide)) (Lib.hid (by decide))).mono ?_; rintro e w1 ⟨rfl, hb1⟩; have hS1 := keep3 hS hb1; obtain ⟨ca0, ca1, ca2, ca3, ca4, ca5, ca6, ca7, ca8, ca9, ca10, ca11, ca12, ca13, ca14, ca15, ca16, ca17, hz, hB⟩ := id hS1; have hL1 := hL0.below hb1))
    | (go_at_call 54; refine (cthree_any _ _ _).mono ?_; rintro e w3 ⟨rfl, hb3⟩; have hS3 := keep3 hS2 hb3; obtain ⟨cc0, cc1, cc2, cc3, cc4, cc5, cc6, cc7, cc8, cc9, cc10, cc11, cc12, cc13, cc14, cc15, cc16, cc17, hz3, hB3⟩ := id hS3))
  exact bodyPost_ret (v := .agg #[.int .i64 0, .int .i64 0, .string ⟨#[]⟩]) (by simp only [results, Tryz.results123]; go_simp) rfl ⟨rfl, below_setg hB3 (by omega)⟩
set_option maxHeartbeats 1000000 in
theorem logic_true_z_z (ka na : Int) (ta : ByteArray) (kb nb : Int) (tb : ByteArray) (g : Nat) (w : World) (hL : Lits w) (ha : Val.inr na) (hb : Val.inr nb) (hg : w.cell? ⟨g, 0, none⟩ = some (.bool true)) (l1 : g < w.heap.size) (hx : Hid (Val.tru ⟨ka, na, ta.data.toList⟩ = 0)) (hy : Hid (Val.tru ⟨kb, nb, tb.data.toList⟩ = 0)) :
    Calls Tryz.prog 123 #[.agg #[.int .i64 ka, .int .i64 na, .string ta], .agg #[.int .i64 kb, .int .i64 nb, .string tb], .pointer (some ⟨g, 0, none⟩)] w (VRet 1 0 ⟨#[]⟩ w) := by
  have hS := start3 w (.int .i64 ka) (.int .i64 na) (.string ta) (.int .i64 kb) (.int .i64 nb) (.string tb) (.int .i64 0) (.int .i64 0) (.string ⟨#[]⟩) 24 24 24
  have hL0 : Lits (((w.alloc (.cells #[.int .i64 ka, .int .i64 na, .string ta] 24)).alloc (.cells #[.int .i64 kb, .int .i64 nb, .string tb] 24)).alloc (.cells #[.int .i64 0, .int .i64 0, .string ⟨#[]⟩] 24)) := ((hL.alloc _).alloc _).alloc _
  replace ha := Lib.hid ha
  replace hb := Lib.hid hb
  go_enter Tryz.func123, Tryz.ntmps123
  go_wp2_with (first
    | (go_at_call 11; first
      | (refine (ctru_is kb nb tb _ hb.out.1 hb.out.2 hL1 (0) false true hy (Lib.hid (by decide)) (Lib.hid (by decide))).mono ?_; rintro e w2 ⟨rfl, hb2⟩; have hS2 := keep3 hS1 hb2; obtain ⟨cb0, cb1, cb2, cb3, cb4, cb5, cb6, cb7, cb8, cb9, cb10, cb11, cb12, cb13, cb14, cb15, cb16, cb17, hz2, hB2⟩ := id hS2; have hgb := (hB2.cell (p := ⟨g, 0, none⟩) l1).trans hg)
      | (refine (ctru_is ka na ta _ ha.out.1 ha.out.2 hL0 (0) false true hx (Lib.hid (by decide)) (Lib.hid (by decide))).mono ?_; rintro e w1 ⟨rfl, hb1⟩; have hS1 := keep3 hS hb1; obtain ⟨ca0, ca1, ca2, ca3, ca4, ca5, ca6, ca7, ca8, ca9, ca10, ca11, ca12, ca13, ca14, ca15, ca16, ca17, hz, hB⟩ := id hS1; have hL1 := hL0.below hb1))
    | (go_at_call 54; refine (cthree_any _ _ _).mono ?_; rintro e w3 ⟨rfl, hb3⟩; have hS3 := keep3 hS2 hb3; obtain ⟨cc0, cc1, cc2, cc3, cc4, cc5, cc6, cc7, cc8, cc9, cc10, cc11, cc12, cc13, cc14, cc15, cc16, cc17, hz3, hB3⟩ := id hS3))
  exact bodyPost_ret (v := .agg #[.int .i64 1, .int .i64 0, .string ⟨#[]⟩]) (by simp only [results, Tryz.results123]; go_simp) rfl ⟨rfl, below_setg hB3 (by omega)⟩
set_option maxHeartbeats 1000000 in
theorem logic_true_z_o (ka na : Int) (ta : ByteArray) (kb nb : Int) (tb : ByteArray) (g : Nat) (w : World) (hL : Lits w) (ha : Val.inr na) (hb : Val.inr nb) (hg : w.cell? ⟨g, 0, none⟩ = some (.bool true)) (l1 : g < w.heap.size) (hx : Hid (Val.tru ⟨ka, na, ta.data.toList⟩ = 0)) (hy : Hid (Val.tru ⟨kb, nb, tb.data.toList⟩ = 1)) :
    Calls Tryz.prog 123 #[.agg #[.int .i64 ka, .int .i64 na, .string ta], .agg #[.int .i64 kb, .int .i64 nb, .string tb], .pointer (some ⟨g, 0, none⟩)] w (VRet 1 1 ⟨#[]⟩ w) := by
  have hS := start3 w (.int .i64 ka) (.int .i64 na) (.string ta) (.int .i64 kb) (.int .i64 nb) (.string tb) (.int .i64 0) (.int .i64 0) (.string ⟨#[]⟩) 24 24 24
  have hL0 : Lits (((w.alloc (.cells #[.int .i64 ka, .int .i64 na, .string ta] 24)).alloc (.cells #[.int .i64 kb, .int .i64 nb, .string tb] 24)).alloc (.cells #[.int .i64 0, .int .i64 0, .string ⟨#[]⟩] 24)) := ((hL.alloc _).alloc _).alloc _
  replace ha := Lib.hid ha
  replace hb := Lib.hid hb
  go_enter Tryz.func123, Tryz.ntmps123
  go_wp2_with (first
    | (go_at_call 11; first
      | (refine (ctru_is kb nb tb _ hb.out.1 hb.out.2 hL1 (1) true true hy (Lib.hid (by decide)) (Lib.hid (by decide))).mono ?_; rintro e w2 ⟨rfl, hb2⟩; have hS2 := keep3 hS1 hb2; obtain ⟨cb0, cb1, cb2, cb3, cb4, cb5, cb6, cb7, cb8, cb9, cb10, cb11, cb12, cb13, cb14, cb15, cb16, cb17, hz2, hB2⟩ := id hS2; have hgb := (hB2.cell (p := ⟨g, 0, none⟩) l1).trans hg)
      | (refine (ctru_is ka na ta _ ha.out.1 ha.out.2 hL0 (0) false true hx (Lib.hid (by decide)) (Lib.hid (by decide))).mono ?_; rintro e w1 ⟨rfl, hb1⟩; have hS1 := keep3 hS hb1; obtain ⟨ca0, ca1, ca2, ca3, ca4, ca5, ca6, ca7, ca8, ca9, ca10, ca11, ca12, ca13, ca14, ca15, ca16, ca17, hz, hB⟩ := id hS1; have hL1 := hL0.below hb1))
    | (go_at_call 63; refine (ctruth_any _ _).mono ?_; rintro e w3 ⟨rfl, hb3⟩; have hS3 := keep3 hS2 hb3; obtain ⟨cc0, cc1, cc2, cc3, cc4, cc5, cc6, cc7, cc8, cc9, cc10, cc11, cc12, cc13, cc14, cc15, cc16, cc17, hz3, hB3⟩ := id hS3))
  exact bodyPost_ret (v := .agg #[.int .i64 1, .int .i64 1, .string ⟨#[]⟩]) (by simp only [results, Tryz.results123]; go_simp) rfl ⟨rfl, below_setg hB3 (by omega)⟩
set_option maxHeartbeats 1000000 in
theorem logic_true_o_m (ka na : Int) (ta : ByteArray) (kb nb : Int) (tb : ByteArray) (g : Nat) (w : World) (hL : Lits w) (ha : Val.inr na) (hb : Val.inr nb) (hg : w.cell? ⟨g, 0, none⟩ = some (.bool true)) (l1 : g < w.heap.size) (hx : Hid (Val.tru ⟨ka, na, ta.data.toList⟩ = 1)) (hy : Hid (Val.tru ⟨kb, nb, tb.data.toList⟩ = -1)) :
    Calls Tryz.prog 123 #[.agg #[.int .i64 ka, .int .i64 na, .string ta], .agg #[.int .i64 kb, .int .i64 nb, .string tb], .pointer (some ⟨g, 0, none⟩)] w (VRet 1 1 ⟨#[]⟩ w) := by
  have hS := start3 w (.int .i64 ka) (.int .i64 na) (.string ta) (.int .i64 kb) (.int .i64 nb) (.string tb) (.int .i64 0) (.int .i64 0) (.string ⟨#[]⟩) 24 24 24
  have hL0 : Lits (((w.alloc (.cells #[.int .i64 ka, .int .i64 na, .string ta] 24)).alloc (.cells #[.int .i64 kb, .int .i64 nb, .string tb] 24)).alloc (.cells #[.int .i64 0, .int .i64 0, .string ⟨#[]⟩] 24)) := ((hL.alloc _).alloc _).alloc _
  replace ha := Lib.hid ha
  replace hb := Lib.hid hb
  go_enter Tryz.func123, Tryz.ntmps123
  go_wp2_with (first
    | (go_at_call 11; first
      | (refine (ctru_is kb nb tb _ hb.out.1 hb.out.2 hL1 (-1) false false hy (Lib.hid (by decide)) (Lib.hid (by decide))).mono ?_; rintro e w2 ⟨rfl, hb2⟩; have hS2 := keep3 hS1 hb2; obtain ⟨cb0, cb1, cb2, cb3, cb4, cb5, cb6, cb7, cb8, cb9, cb10, cb11, cb12, cb13, cb14, cb15, cb16, cb17, hz2, hB2⟩ := id hS2; have hgb := (hB2.cell (p := ⟨g, 0, none⟩) l1).trans hg)
      | (refine (ctru_is ka na ta _ ha.out.1 ha.out.2 hL0 (1) true true hx (Lib.hid (by decide)) (Lib.hid (by decide))).mono ?_; rintro e w1 ⟨rfl, hb1⟩; have hS1 := keep3 hS hb1; obtain ⟨ca0, ca1, ca2, ca3, ca4, ca5, ca6, ca7, ca8, ca9, ca10, ca11, ca12, ca13, ca14, ca15, ca16, ca17, hz, hB⟩ := id hS1; have hL1 := hL0.below hb1))
    | (go_at_call 63; refine (ctruth_any _ _).mono ?_; rintro e w3 ⟨rfl, hb3⟩; have hS3 := keep3 hS2 hb3; obtain ⟨cc0, cc1, cc2, cc3, cc4, cc5, cc6, cc7, cc8, cc9, cc10, cc11, cc12, cc13, cc14, cc15, cc16, cc17, hz3, hB3⟩ := id hS3))
  exact bodyPost_ret (v := .agg #[.int .i64 1, .int .i64 1, .string ⟨#[]⟩]) (by simp only [results, Tryz.results123]; go_simp) rfl ⟨rfl, below_setg hB3 (by omega)⟩
set_option maxHeartbeats 1000000 in
theorem logic_true_o_z (ka na : Int) (ta : ByteArray) (kb nb : Int) (tb : ByteArray) (g : Nat) (w : World) (hL : Lits w) (ha : Val.inr na) (hb : Val.inr nb) (hg : w.cell? ⟨g, 0, none⟩ = some (.bool true)) (l1 : g < w.heap.size) (hx : Hid (Val.tru ⟨ka, na, ta.data.toList⟩ = 1)) (hy : Hid (Val.tru ⟨kb, nb, tb.data.toList⟩ = 0)) :
    Calls Tryz.prog 123 #[.agg #[.int .i64 ka, .int .i64 na, .string ta], .agg #[.int .i64 kb, .int .i64 nb, .string tb], .pointer (some ⟨g, 0, none⟩)] w (VRet 1 1 ⟨#[]⟩ w) := by
  have hS := start3 w (.int .i64 ka) (.int .i64 na) (.string ta) (.int .i64 kb) (.int .i64 nb) (.string tb) (.int .i64 0) (.int .i64 0) (.string ⟨#[]⟩) 24 24 24
  have hL0 : Lits (((w.alloc (.cells #[.int .i64 ka, .int .i64 na, .string ta] 24)).alloc (.cells #[.int .i64 kb, .int .i64 nb, .string tb] 24)).alloc (.cells #[.int .i64 0, .int .i64 0, .string ⟨#[]⟩] 24)) := ((hL.alloc _).alloc _).alloc _
  replace ha := Lib.hid ha
  replace hb := Lib.hid hb
  go_enter Tryz.func123, Tryz.ntmps123
  go_wp2_with (first
    | (go_at_call 11; first
      | (refine (ctru_is kb nb tb _ hb.out.1 hb.out.2 hL1 (0) false true hy (Lib.hid (by decide)) (Lib.hid (by decide))).mono ?_; rintro e w2 ⟨rfl, hb2⟩; have hS2 := keep3 hS1 hb2; obtain ⟨cb0, cb1, cb2, cb3, cb4, cb5, cb6, cb7, cb8, cb9, cb10, cb11, cb12, cb13, cb14, cb15, cb16, cb17, hz2, hB2⟩ := id hS2; have hgb := (hB2.cell (p := ⟨g, 0, none⟩) l1).trans hg)
      | (refine (ctru_is ka na ta _ ha.out.1 ha.out.2 hL0 (1) true true hx (Lib.hid (by decide)) (Lib.hid (by decide))).mono ?_; rintro e w1 ⟨rfl, hb1⟩; have hS1 := keep3 hS hb1; obtain ⟨ca0, ca1, ca2, ca3, ca4, ca5, ca6, ca7, ca8, ca9, ca10, ca11, ca12, ca13, ca14, ca15, ca16, ca17, hz, hB⟩ := id hS1; have hL1 := hL0.below hb1))
    | (go_at_call 63; refine (ctruth_any _ _).mono ?_; rintro e w3 ⟨rfl, hb3⟩; have hS3 := keep3 hS2 hb3; obtain ⟨cc0, cc1, cc2, cc3, cc4, cc5, cc6, cc7, cc8, cc9, cc10, cc11, cc12, cc13, cc14, cc15, cc16, cc17, hz3, hB3⟩ := id hS3))
  exact bodyPost_ret (v := .agg #[.int .i64 1, .int .i64 1, .string ⟨#[]⟩]) (by simp only [results, Tryz.results123]; go_simp) rfl ⟨rfl, below_setg hB3 (by omega)⟩
set_option maxHeartbeats 1000000 in
theorem logic_true_o_o (ka na : Int) (ta : ByteArray) (kb nb : Int) (tb : ByteArray) (g : Nat) (w : World) (hL : Lits w) (ha : Val.inr na) (hb : Val.inr nb) (hg : w.cell? ⟨g, 0, none⟩ = some (.bool true)) (l1 : g < w.heap.size) (hx : Hid (Val.tru ⟨ka, na, ta.data.toList⟩ = 1)) (hy : Hid (Val.tru ⟨kb, nb, tb.data.toList⟩ = 1)) :
    Calls Tryz.prog 123 #[.agg #[.int .i64 ka, .int .i64 na, .string ta], .agg #[.int .i64 kb, .int .i64 nb, .string tb], .pointer (some ⟨g, 0, none⟩)] w (VRet 1 1 ⟨#[]⟩ w) := by
  have hS := start3 w (.int .i64 ka) (.int .i64 na) (.string ta) (.int .i64 kb) (.int .i64 nb) (.string tb) (.int .i64 0) (.int .i64 0) (.string ⟨#[]⟩) 24 24 24
  have hL0 : Lits (((w.alloc (.cells #[.int .i64 ka, .int .i64 na, .string ta] 24)).alloc (.cells #[.int .i64 kb, .int .i64 nb, .string tb] 24)).alloc (.cells #[.int .i64 0, .int .i64 0, .string ⟨#[]⟩] 24)) := ((hL.alloc _).alloc _).alloc _
  replace ha := Lib.hid ha
  replace hb := Lib.hid hb
  go_enter Tryz.func123, Tryz.ntmps123
  go_wp2_with (first
    | (go_at_call 11; first
      | (refine (ctru_is kb nb tb _ hb.out.1 hb.out.2 hL1 (1) true true hy (Lib.hid (by decide)) (Lib.hid (by decide))).mono ?_; rintro e w2 ⟨rfl, hb2⟩; have hS2 := keep3 hS1 hb2; obtain ⟨cb0, cb1, cb2, cb3, cb4, cb5, cb6, cb7, cb8, cb9, cb10, cb11, cb12, cb13, cb14, cb15, cb16, cb17, hz2, hB2⟩ := id hS2; have hgb := (hB2.cell (p := ⟨g, 0, none⟩) l1).trans hg)
      | (refine (ctru_is ka na ta _ ha.out.1 ha.out.2 hL0 (1) true true hx (Lib.hid (by decide)) (Lib.hid (by decide))).mono ?_; rintro e w1 ⟨rfl, hb1⟩; have hS1 := keep3 hS hb1; obtain ⟨ca0, ca1, ca2, ca3, ca4, ca5, ca6, ca7, ca8, ca9, ca10, ca11, ca12, ca13, ca14, ca15, ca16, ca17, hz, hB⟩ := id hS1; have hL1 := hL0.below hb1))
    | (go_at_call 63; refine (ctruth_any _ _).mono ?_; rintro e w3 ⟨rfl, hb3⟩; have hS3 := keep3 hS2 hb3; obtain ⟨cc0, cc1, cc2, cc3, cc4, cc5, cc6, cc7, cc8, cc9, cc10, cc11, cc12, cc13, cc14, cc15, cc16, cc17, hz3, hB3⟩ := id hS3))
  exact bodyPost_ret (v := .agg #[.int .i64 1, .int .i64 1, .string ⟨#[]⟩]) (by simp only [results, Tryz.results123]; go_simp) rfl ⟨rfl, below_setg hB3 (by omega)⟩
theorem logic_is (d : Bool) (stop : Int) (hds : d = false ∧ stop = 0 ∨ d = true ∧ stop = 1) (ka na : Int) (ta : ByteArray) (kb nb : Int) (tb : ByteArray) (g : Nat) (w : World) (hL : Lits w) (ha : Val.inr na) (hb : Val.inr nb) (hg : w.cell? ⟨g, 0, none⟩ = some (.bool d)) (l1 : g < w.heap.size) (x y : Int) (hx : Hid (Val.tru ⟨ka, na, ta.data.toList⟩ = x)) (hy : Hid (Val.tru ⟨kb, nb, tb.data.toList⟩ = y)) (k n : Int) (hv : Hid (Val.logic stop x y = ⟨k, n, []⟩)) :
    Calls Tryz.prog 123 #[.agg #[.int .i64 ka, .int .i64 na, .string ta], .agg #[.int .i64 kb, .int .i64 nb, .string tb], .pointer (some ⟨g, 0, none⟩)] w (VRet k n ⟨#[]⟩ w) := by
  have hv' := hv.out
  clear hv
  have cx := Val.tru_cases ⟨ka, na, ta.data.toList⟩
  rw [hx.out] at cx
  have cy := Val.tru_cases ⟨kb, nb, tb.data.toList⟩
  rw [hy.out] at cy
  rcases hds with ⟨rfl, rfl⟩ | ⟨rfl, rfl⟩
  · rcases cx with rfl | rfl | rfl <;> rcases cy with rfl | rfl | rfl
    all_goals (
      simp (config := { decide := true }) only [Val.logic, Val.three, Val.zero, Val.V.mk.injEq, and_true, if_true, if_false] at hv'
      obtain ⟨rfl, rfl⟩ := hv')
    · exact logic_false_m_m _ _ _ _ _ _ g w hL ha hb hg l1 hx hy
    · exact logic_false_m_z _ _ _ _ _ _ g w hL ha hb hg l1 hx hy
    · exact logic_false_m_o _ _ _ _ _ _ g w hL ha hb hg l1 hx hy
    · exact logic_false_z_m _ _ _ _ _ _ g w hL ha hb hg l1 hx hy
    · exact logic_false_z_z _ _ _ _ _ _ g w hL ha hb hg l1 hx hy
    · exact logic_false_z_o _ _ _ _ _ _ g w hL ha hb hg l1 hx hy
    · exact logic_false_o_m _ _ _ _ _ _ g w hL ha hb hg l1 hx hy
    · exact logic_false_o_z _ _ _ _ _ _ g w hL ha hb hg l1 hx hy
    · exact logic_false_o_o _ _ _ _ _ _ g w hL ha hb hg l1 hx hy
  · rcases cx with rfl | rfl | rfl <;> rcases cy with rfl | rfl | rfl
    all_goals (
      simp (config := { decide := true }) only [Val.logic, Val.three, Val.zero, Val.V.mk.injEq, and_true, if_true, if_false] at hv'
      obtain ⟨rfl, rfl⟩ := hv')
    · exact logic_true_m_m _ _ _ _ _ _ g w hL ha hb hg l1 hx hy
    · exact logic_true_m_z _ _ _ _ _ _ g w hL ha hb hg l1 hx hy
    · exact logic_true_m_o _ _ _ _ _ _ g w hL ha hb hg l1 hx hy
    · exact logic_true_z_m _ _ _ _ _ _ g w hL ha hb hg l1 hx hy
    · exact logic_true_z_z _ _ _ _ _ _ g w hL ha hb hg l1 hx hy
    · exact logic_true_z_o _ _ _ _ _ _ g w hL ha hb hg l1 hx hy
    · exact logic_true_o_m _ _ _ _ _ _ g w hL ha hb hg l1 hx hy
    · exact logic_true_o_z _ _ _ _ _ _ g w hL ha hb hg l1 hx hy
    · exact logic_true_o_o _ _ _ _ _ _ g w hL ha hb hg l1 hx hy

end Go.Proofs.YthdpgekjbkpomaaGreatDoor
