/- Walks: an operator's answer alone. -/
import Derived.Test.YthdpgekjbkpomaaGreatDoorCalcH
set_option maxRecDepth 100000
set_option linter.unusedVariables false
set_option linter.unusedSimpArgs false
namespace Go.Proofs.YthdpgekjbkpomaaGreatDoor
open Go.RowKit

theorem two_is (op ka na : Int) (ta : ByteArray) (kb nb : Int) (tb : ByteArray) (c : Int) (w : World) (hL : Lits w) (ha : Val.inr na) (hb : Val.inr nb) (k n : Int) (t : ByteArray) (hv : Hid (Val.two op ⟨ka, na, ta.data.toList⟩ ⟨kb, nb, tb.data.toList⟩ c = ⟨k, n, t.data.toList⟩)) :
    Calls Tryz.prog 26 #[.int .i64 op, .agg #[.int .i64 ka, .int .i64 na, .string ta], .agg #[.int .i64 kb, .int .i64 nb, .string tb], .int .i64 c] w (VRet k n t w) := by
  obtain ⟨E, hE⟩ : ∃ E, Val.binary op ⟨ka, na, ta.data.toList⟩ ⟨kb, nb, tb.data.toList⟩ c = (⟨k, n, t.data.toList⟩, E) := ⟨(Val.binary op ⟨ka, na, ta.data.toList⟩ ⟨kb, nb, tb.data.toList⟩ c).2, by have := hv.out; unfold Val.two at this; rw [← this]⟩
  have hS := start3 w (.int .i64 ka) (.int .i64 na) (.string ta) (.int .i64 kb) (.int .i64 nb) (.string tb) (.int .i64 0) (.int .i64 0) (.string ⟨#[]⟩) 24 24 24
  have hL0 : Lits (((w.alloc (.cells #[.int .i64 ka, .int .i64 na, .string ta] 24)).alloc (.cells #[.int .i64 kb, .int .i64 nb, .string tb] 24)).alloc (.cells #[.int .i64 0, .int .i64 0, .string ⟨#[]⟩] 24)) := ((hL.alloc _).alloc _).alloc _
  replace hE := Lib.hid hE
  replace ha := Lib.hid ha
  replace hb := Lib.hid hb
  go_enter Tryz.func26, Tryz.ntmps26
  go_wp2_with (go_at_call 20; refine (cbinary_is _ _ _ _ _ _ _ _ _ hL0 ha.out hb.out _ _ _ _ hE).mono ?_; rintro e w1 ⟨rfl, hb1⟩; have hS1 := keep3 (keep3 hS hb1) (below_new w1 (.cells #[.int .i64 k, .int .i64 n, .string t] 24)); obtain ⟨ca0, ca1, ca2, ca3, ca4, ca5, ca6, ca7, ca8, ca9, ca10, ca11, ca12, ca13, ca14, ca15, ca16, ca17, hz, hB⟩ := id hS1)
  exact bodyPost_ret (v := .agg #[.int .i64 k, .int .i64 n, .string t]) (by simp only [results, Tryz.results26]; go_simp) rfl ⟨rfl, below_setg hB (by omega)⟩
theorem not_is (k n : Int) (t : ByteArray) (w : World) (hL : Lits w) (ha : Val.inr n) (k2 n2 : Int) (t2 : ByteArray) (hv : Hid (Val.nott ⟨k, n, t.data.toList⟩ = ⟨k2, n2, t2.data.toList⟩)) :
    Calls Tryz.prog 27 #[.agg #[.int .i64 k, .int .i64 n, .string t]] w (VRet k2 n2 t2 w) := by
  obtain ⟨E, hE⟩ : ∃ E, Val.unary 6 ⟨k, n, t.data.toList⟩ = (⟨k2, n2, t2.data.toList⟩, E) := ⟨(Val.unary 6 ⟨k, n, t.data.toList⟩).2, by have := hv.out; unfold Val.nott at this; rw [← this]⟩
  have hS := start2 w (.int .i64 k) (.int .i64 n) (.string t) (.int .i64 0) (.int .i64 0) (.string ⟨#[]⟩) 24 24
  have hL0 : Lits ((w.alloc (.cells #[.int .i64 k, .int .i64 n, .string t] 24)).alloc (.cells #[.int .i64 0, .int .i64 0, .string ⟨#[]⟩] 24)) := (hL.alloc _).alloc _
  replace hE := Lib.hid hE
  replace ha := Lib.hid ha
  go_enter Tryz.func27, Tryz.ntmps27
  go_wp2_with (go_at_call 18; refine (cunary_is _ _ _ _ _ hL0 ha.out _ _ _ _ hE).mono ?_; rintro e w1 ⟨rfl, hb1⟩; have hS1 := keep2 (keep2 hS hb1) (below_new w1 (.cells #[.int .i64 k2, .int .i64 n2, .string t2] 24)); obtain ⟨ca0, ca1, ca2, ca3, ca4, ca5, ca6, ca7, ca8, ca9, ca10, ca11, hz, hB⟩ := id hS1)
  exact bodyPost_ret (v := .agg #[.int .i64 k2, .int .i64 n2, .string t2]) (by simp only [results, Tryz.results27]; go_simp) rfl ⟨rfl, below_setg hB (by omega)⟩

end Go.Proofs.YthdpgekjbkpomaaGreatDoor
