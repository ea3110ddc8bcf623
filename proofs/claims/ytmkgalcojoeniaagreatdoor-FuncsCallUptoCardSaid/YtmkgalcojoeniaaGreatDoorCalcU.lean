/- Walks: an operator of one value. -/
import Derived.Test.YtmkgalcojoeniaaGreatDoorCalcBa
import Derived.Test.YtmkgalcojoeniaaGreatDoorCalcM
set_option maxRecDepth 100000
set_option linter.unusedVariables false
set_option linter.unusedSimpArgs false
namespace Go.Proofs.YtmkgalcojoeniaaGreatDoor
open Go.RowKit

set_option maxHeartbeats 2000000 in
theorem cneg_is (k n : Int) (t : ByteArray) (w : World) (hL : Lits w) (ha : Val.inr n) (k2 n2 : Int)
    (hv : Hid ((if (Val.num ⟨k, n, t.data.toList⟩).kind = 0 then Val.zero else Val.fit (0 - (Val.num ⟨k, n, t.data.toList⟩).int)) = ⟨k2, n2, []⟩)) :
    Calls Tryz.prog 162 #[.agg #[.int .i64 k, .int .i64 n, .string t]] w (VRet k2 n2 ⟨#[]⟩ w) := by
  have hS := ofS1 (start2 w (.int .i64 k) (.int .i64 n) (.string t) (.int .i64 0) (.int .i64 0) (.string ⟨#[]⟩) 25 25)
  obtain ⟨k', n', hnum, hn', _, e2⟩ := num_form (k := k) (t := t) ha
  have hv2 : (if (Val.num ⟨1, 0, (⟨#[]⟩ : ByteArray).data.toList⟩).kind = 0 ∨ (Val.num ⟨k', n', (⟨#[]⟩ : ByteArray).data.toList⟩).kind = 0 then Val.zero else doV (qsub (Val.num ⟨1, 0, (⟨#[]⟩ : ByteArray).data.toList⟩).int (Val.num ⟨k', n', (⟨#[]⟩ : ByteArray).data.toList⟩).int)) = ⟨k2, n2, []⟩ := by
    have e0 : (⟨#[]⟩ : ByteArray).data.toList = [] := rfl
    have hv' := hv.out
    rw [hnum] at hv'
    simp only at hv'
    rw [e0, Val.num_mk 0, e2, doV_sub, ← hv']
    simp
  have h00 : Val.inr 0 := ⟨by decide, by decide⟩
  replace hnum := Lib.hid hnum
  replace hv2 := Lib.hid hv2
  replace hn' := Lib.hid hn'
  replace h00 := Lib.hid h00
  clear hv ha e2
  go_enter Tryz.func162, Tryz.ntmps162
  go_wp2_with fail
  go_region_held3 (fun W => W.cell? ⟨w.heap.size, 0, none⟩ = some (.int .i64 k) ∧ W.cell? ⟨w.heap.size, 1, none⟩ = some (.int .i64 n) ∧ W.cell? ⟨w.heap.size, 2, none⟩ = some (.string t) ∧ W.frozen? ⟨w.heap.size, 0, none⟩ = false ∧ W.frozen? ⟨w.heap.size, 1, none⟩ = false ∧ W.frozen? ⟨w.heap.size, 2, none⟩ = false ∧ W.cell? ⟨w.heap.size + 1, 0, none⟩ = some (peek W (w.heap.size + 1) 0) ∧ W.cell? ⟨w.heap.size + 1, 1, none⟩ = some (peek W (w.heap.size + 1) 1) ∧ W.cell? ⟨w.heap.size + 1, 2, none⟩ = some (peek W (w.heap.size + 1) 2) ∧ W.frozen? ⟨w.heap.size + 1, 0, none⟩ = false ∧ W.frozen? ⟨w.heap.size + 1, 1, none⟩ = false ∧ W.frozen? ⟨w.heap.size + 1, 2, none⟩ = false ∧ w.heap.size + 1 < W.heap.size ∧ Below w.heap.size w W) (first | assumption | exact keepP1 (by assumption) (by assumption) | exact keepPd1 (by assumption) | exact putP1 (by assumption)) (first
    | (go_at_call 81; refine (vint_any _ _).mono ?_; rintro e w1 ⟨rfl, hb1⟩)
    | (go_at_call 127; refine (cnum_is _ _ _ _ (hL.below (belowP1 (by assumption))) _ _ hnum).mono ?_; rintro e w2 ⟨rfl, hb2⟩)
    | (go_at_call 163; refine (csub_is _ _ _ _ _ _ _ (hL.below (belowP1 (by assumption))) h00.out hn'.out _ _ hv2).mono ?_; rintro e w3 ⟨rfl, hb3⟩; have hP3 := keepP1 (w := w) (by assumption) hb3))
  all_goals (
    rename_i hh
    have hB := belowP1 hh
    clear hh
    obtain ⟨cb0, cb1, cb2, cb3, cb4, cb5, cb6, cb7, cb8, cb9, cb10, cb11, hz2, hB2⟩ := hP3
    go_wp2
    exact bodyPost_ret (v := .agg #[.int .i64 k2, .int .i64 n2, .string ⟨#[]⟩]) (by simp only [results, Tryz.results162]; go_simp) rfl ⟨rfl, hB⟩)

theorem cplus_is (k n : Int) (t : ByteArray) (w : World) : Calls Tryz.prog 164 #[.agg #[.int .i64 k, .int .i64 n, .string t]] w (VRet k n t w) := by
  go_enter Tryz.func164, Tryz.ntmps164
  go_wp2
  exact bodyPost_ret (v := .agg #[.int .i64 k, .int .i64 n, .string t]) (by simp only [results, Tryz.results164]; go_simp) rfl ⟨rfl, (below_new w _).trans ((below_new _ _).mono (below_new w _).size)⟩
theorem cnot_m (k n : Int) (t : ByteArray) (w : World) (hL : Lits w) (ha : Val.inr n) (hr : Hid (Val.tru ⟨k, n, t.data.toList⟩ = -1)) : Calls Tryz.prog 165 #[.agg #[.int .i64 k, .int .i64 n, .string t]] w (VRet 0 0 ⟨#[]⟩ w) := by
  have hS := start2 w (.int .i64 k) (.int .i64 n) (.string t) (.int .i64 0) (.int .i64 0) (.string ⟨#[]⟩) 25 25
  have hL0 : Lits ((w.alloc (.cells #[.int .i64 k, .int .i64 n, .string t] 25)).alloc (.cells #[.int .i64 0, .int .i64 0, .string ⟨#[]⟩] 25)) := (hL.alloc _).alloc _
  go_enter Tryz.func165, Tryz.ntmps165
  go_wp2_with (first
    | (go_at_call 79; refine (ctru_is k n t _ ha.1 ha.2 hL0 (-1) false false hr (Lib.hid (by decide)) (Lib.hid (by decide))).mono ?_; rintro e w1 ⟨rfl, hb1⟩; have hS1 := keep2 hS hb1; obtain ⟨ca0, ca1, ca2, ca3, ca4, ca5, ca6, ca7, ca8, ca9, ca10, ca11, hz, hB⟩ := id hS1)
    | (go_at_call 166; refine (cthree_any _ _ _).mono ?_; rintro e w2 ⟨rfl, hb2⟩; have hS2 := keep2 hS1 hb2; obtain ⟨cb0, cb1, cb2, cb3, cb4, cb5, cb6, cb7, cb8, cb9, cb10, cb11, hz2, hB2⟩ := id hS2))
  exact bodyPost_ret (v := .agg #[.int .i64 0, .int .i64 0, .string ⟨#[]⟩]) (by simp only [results, Tryz.results165]; go_simp) rfl ⟨rfl, below_setg hB2 (by omega)⟩
theorem cnot_z (k n : Int) (t : ByteArray) (w : World) (hL : Lits w) (ha : Val.inr n) (hr : Hid (Val.tru ⟨k, n, t.data.toList⟩ = 0)) : Calls Tryz.prog 165 #[.agg #[.int .i64 k, .int .i64 n, .string t]] w (VRet 1 1 ⟨#[]⟩ w) := by
  have hS := start2 w (.int .i64 k) (.int .i64 n) (.string t) (.int .i64 0) (.int .i64 0) (.string ⟨#[]⟩) 25 25
  have hL0 : Lits ((w.alloc (.cells #[.int .i64 k, .int .i64 n, .string t] 25)).alloc (.cells #[.int .i64 0, .int .i64 0, .string ⟨#[]⟩] 25)) := (hL.alloc _).alloc _
  go_enter Tryz.func165, Tryz.ntmps165
  go_wp2_with (first
    | (go_at_call 79; refine (ctru_is k n t _ ha.1 ha.2 hL0 (0) false true hr (Lib.hid (by decide)) (Lib.hid (by decide))).mono ?_; rintro e w1 ⟨rfl, hb1⟩; have hS1 := keep2 hS hb1; obtain ⟨ca0, ca1, ca2, ca3, ca4, ca5, ca6, ca7, ca8, ca9, ca10, ca11, hz, hB⟩ := id hS1)
    | (go_at_call 166; refine (cthree_any _ _ _).mono ?_; rintro e w2 ⟨rfl, hb2⟩; have hS2 := keep2 hS1 hb2; obtain ⟨cb0, cb1, cb2, cb3, cb4, cb5, cb6, cb7, cb8, cb9, cb10, cb11, hz2, hB2⟩ := id hS2))
  exact bodyPost_ret (v := .agg #[.int .i64 1, .int .i64 1, .string ⟨#[]⟩]) (by simp only [results, Tryz.results165]; go_simp) rfl ⟨rfl, below_setg hB2 (by omega)⟩
theorem cnot_o (k n : Int) (t : ByteArray) (w : World) (hL : Lits w) (ha : Val.inr n) (hr : Hid (Val.tru ⟨k, n, t.data.toList⟩ = 1)) : Calls Tryz.prog 165 #[.agg #[.int .i64 k, .int .i64 n, .string t]] w (VRet 1 0 ⟨#[]⟩ w) := by
  have hS := start2 w (.int .i64 k) (.int .i64 n) (.string t) (.int .i64 0) (.int .i64 0) (.string ⟨#[]⟩) 25 25
  have hL0 : Lits ((w.alloc (.cells #[.int .i64 k, .int .i64 n, .string t] 25)).alloc (.cells #[.int .i64 0, .int .i64 0, .string ⟨#[]⟩] 25)) := (hL.alloc _).alloc _
  go_enter Tryz.func165, Tryz.ntmps165
  go_wp2_with (first
    | (go_at_call 79; refine (ctru_is k n t _ ha.1 ha.2 hL0 (1) true true hr (Lib.hid (by decide)) (Lib.hid (by decide))).mono ?_; rintro e w1 ⟨rfl, hb1⟩; have hS1 := keep2 hS hb1; obtain ⟨ca0, ca1, ca2, ca3, ca4, ca5, ca6, ca7, ca8, ca9, ca10, ca11, hz, hB⟩ := id hS1)
    | (go_at_call 166; refine (cthree_any _ _ _).mono ?_; rintro e w2 ⟨rfl, hb2⟩; have hS2 := keep2 hS1 hb2; obtain ⟨cb0, cb1, cb2, cb3, cb4, cb5, cb6, cb7, cb8, cb9, cb10, cb11, hz2, hB2⟩ := id hS2))
  exact bodyPost_ret (v := .agg #[.int .i64 1, .int .i64 0, .string ⟨#[]⟩]) (by simp only [results, Tryz.results165]; go_simp) rfl ⟨rfl, below_setg hB2 (by omega)⟩
theorem cnot_is (k n : Int) (t : ByteArray) (w : World) (hL : Lits w) (ha : Val.inr n) (k2 n2 : Int) (hv : Hid (Val.three (if Val.tru ⟨k, n, t.data.toList⟩ < 0 then -1 else 1 - Val.tru ⟨k, n, t.data.toList⟩) = ⟨k2, n2, []⟩)) : Calls Tryz.prog 165 #[.agg #[.int .i64 k, .int .i64 n, .string t]] w (VRet k2 n2 ⟨#[]⟩ w) := by
  have hv' := hv.out
  rcases Val.tru_cases ⟨k, n, t.data.toList⟩ with h | h | h
  · rw [h] at hv'
    simp only [Val.three, Val.zero] at hv'
    simp at hv'
    obtain ⟨rfl, rfl⟩ := hv'
    exact cnot_m k n t w hL ha (Lib.hid h)
  · rw [h] at hv'
    simp only [Val.three, Val.zero] at hv'
    simp at hv'
    obtain ⟨rfl, rfl⟩ := hv'
    exact cnot_z k n t w hL ha (Lib.hid h)
  · rw [h] at hv'
    simp only [Val.three, Val.zero] at hv'
    simp at hv'
    obtain ⟨rfl, rfl⟩ := hv'
    exact cnot_o k n t w hL ha (Lib.hid h)

theorem cunary_none (op k n : Int) (t : ByteArray) (w : World) (h : ¬ (op = 4 ∨ op = 5 ∨ op = 6)) :
    Calls Tryz.prog 128 #[.int .i64 op, .agg #[.int .i64 k, .int .i64 n, .string t]] w (VRet2 0 0 ⟨#[]⟩ 130 w) := by
  have hS := start2 w (.int .i64 k) (.int .i64 n) (.string t) (.int .i64 0) (.int .i64 0) (.string ⟨#[]⟩) 25 25
  have b4 : (op == 4) = false := by simp; omega
  have b5 : (op == 5) = false := by simp; omega
  have b6 : (op == 6) = false := by simp; omega
  clear h
  go_enter Tryz.func128, Tryz.ntmps128
  go_wp2_with (go_at_call 146; refine (cnull_any _).mono ?_; rintro e w2 ⟨rfl, hb2⟩; have hS2 := keep2 hS hb2; obtain ⟨cb0, cb1, cb2, cb3, cb4, cb5, cb6, cb7, cb8, cb9, cb10, cb11, hz2, hB2⟩ := id hS2)
  exact bodyPost_ret (v := .tuple #[.agg #[.int .i64 0, .int .i64 0, .string ⟨#[]⟩], .int .i64 130]) (by simp only [results, Tryz.results128]; go_simp) rfl ⟨rfl, below_setg hB2 (by omega)⟩
theorem cunary_bad4 (k n : Int) (t : ByteArray) (w : World) (hm : Val.may ⟨k, n, t.data.toList⟩ = false) :
    Calls Tryz.prog 128 #[.int .i64 4, .agg #[.int .i64 k, .int .i64 n, .string t]] w (VRet2 0 0 ⟨#[]⟩ 2 w) := by
  have hS := start2 w (.int .i64 k) (.int .i64 n) (.string t) (.int .i64 0) (.int .i64 0) (.string ⟨#[]⟩) 25 25
  replace hm := Lib.hid hm
  go_enter Tryz.func128, Tryz.ntmps128
  go_wp2_with (first
    | (go_at_call 18; refine (may_is _ _ _ _ hm).mono ?_; rintro e w1 ⟨rfl, hb1⟩; have hS1 := keep2 hS hb1)
    | (go_at_call 146; refine (cnull_any _).mono ?_; rintro e w2 ⟨rfl, hb2⟩; have hS2 := keep2 hS1 hb2; obtain ⟨cb0, cb1, cb2, cb3, cb4, cb5, cb6, cb7, cb8, cb9, cb10, cb11, hz2, hB2⟩ := id hS2))
  exact bodyPost_ret (v := .tuple #[.agg #[.int .i64 0, .int .i64 0, .string ⟨#[]⟩], .int .i64 2]) (by simp only [results, Tryz.results128]; go_simp) rfl ⟨rfl, below_setg hB2 (by omega)⟩
theorem cunary_4 (k n : Int) (t : ByteArray) (w : World) (hL : Lits w) (hm : Val.may ⟨k, n, t.data.toList⟩ = true) (k2 n2 : Int) (t2 : ByteArray) (hf : ∀ W, Lits W → Calls Tryz.prog 162 #[.agg #[.int .i64 k, .int .i64 n, .string t]] W (VRet k2 n2 t2 W)) :
    Calls Tryz.prog 128 #[.int .i64 4, .agg #[.int .i64 k, .int .i64 n, .string t]] w (VRet2 k2 n2 t2 0 w) := by
  have hS := start2 w (.int .i64 k) (.int .i64 n) (.string t) (.int .i64 0) (.int .i64 0) (.string ⟨#[]⟩) 25 25
  have hL0 : Lits ((w.alloc (.cells #[.int .i64 k, .int .i64 n, .string t] 25)).alloc (.cells #[.int .i64 0, .int .i64 0, .string ⟨#[]⟩] 25)) := (hL.alloc _).alloc _
  replace hm := Lib.hid hm
  go_enter Tryz.func128, Tryz.ntmps128
  go_wp2_with (first
    | (go_at_call 18; refine (may_is _ _ _ _ hm).mono ?_; rintro e w1 ⟨rfl, hb1⟩; have hS1 := keep2 hS hb1; obtain ⟨ca0, ca1, ca2, ca3, ca4, ca5, ca6, ca7, ca8, ca9, ca10, ca11, hz, hB⟩ := id hS1; have hL1 := hL0.below hb1)
    | (go_at_call 162; refine (hf _ hL1).mono ?_; rintro e w2 ⟨rfl, hb2⟩; have hS2 := keep2 hS1 hb2; obtain ⟨cb0, cb1, cb2, cb3, cb4, cb5, cb6, cb7, cb8, cb9, cb10, cb11, hz2, hB2⟩ := id hS2))
  exact bodyPost_ret (v := .tuple #[.agg #[.int .i64 k2, .int .i64 n2, .string t2], .int .i64 0]) (by simp only [results, Tryz.results128]; go_simp) rfl ⟨rfl, below_setg hB2 (by omega)⟩
theorem cunary_bad5 (k n : Int) (t : ByteArray) (w : World) (hm : Val.may ⟨k, n, t.data.toList⟩ = false) :
    Calls Tryz.prog 128 #[.int .i64 5, .agg #[.int .i64 k, .int .i64 n, .string t]] w (VRet2 0 0 ⟨#[]⟩ 2 w) := by
  have hS := start2 w (.int .i64 k) (.int .i64 n) (.string t) (.int .i64 0) (.int .i64 0) (.string ⟨#[]⟩) 25 25
  replace hm := Lib.hid hm
  go_enter Tryz.func128, Tryz.ntmps128
  go_wp2_with (first
    | (go_at_call 18; refine (may_is _ _ _ _ hm).mono ?_; rintro e w1 ⟨rfl, hb1⟩; have hS1 := keep2 hS hb1)
    | (go_at_call 146; refine (cnull_any _).mono ?_; rintro e w2 ⟨rfl, hb2⟩; have hS2 := keep2 hS1 hb2; obtain ⟨cb0, cb1, cb2, cb3, cb4, cb5, cb6, cb7, cb8, cb9, cb10, cb11, hz2, hB2⟩ := id hS2))
  exact bodyPost_ret (v := .tuple #[.agg #[.int .i64 0, .int .i64 0, .string ⟨#[]⟩], .int .i64 2]) (by simp only [results, Tryz.results128]; go_simp) rfl ⟨rfl, below_setg hB2 (by omega)⟩
theorem cunary_5 (k n : Int) (t : ByteArray) (w : World) (hL : Lits w) (hm : Val.may ⟨k, n, t.data.toList⟩ = true) (k2 n2 : Int) (t2 : ByteArray) (hf : ∀ W, Lits W → Calls Tryz.prog 164 #[.agg #[.int .i64 k, .int .i64 n, .string t]] W (VRet k2 n2 t2 W)) :
    Calls Tryz.prog 128 #[.int .i64 5, .agg #[.int .i64 k, .int .i64 n, .string t]] w (VRet2 k2 n2 t2 0 w) := by
  have hS := start2 w (.int .i64 k) (.int .i64 n) (.string t) (.int .i64 0) (.int .i64 0) (.string ⟨#[]⟩) 25 25
  have hL0 : Lits ((w.alloc (.cells #[.int .i64 k, .int .i64 n, .string t] 25)).alloc (.cells #[.int .i64 0, .int .i64 0, .string ⟨#[]⟩] 25)) := (hL.alloc _).alloc _
  replace hm := Lib.hid hm
  go_enter Tryz.func128, Tryz.ntmps128
  go_wp2_with (first
    | (go_at_call 18; refine (may_is _ _ _ _ hm).mono ?_; rintro e w1 ⟨rfl, hb1⟩; have hS1 := keep2 hS hb1; obtain ⟨ca0, ca1, ca2, ca3, ca4, ca5, ca6, ca7, ca8, ca9, ca10, ca11, hz, hB⟩ := id hS1; have hL1 := hL0.below hb1)
    | (go_at_call 164; refine (hf _ hL1).mono ?_; rintro e w2 ⟨rfl, hb2⟩; have hS2 := keep2 hS1 hb2; obtain ⟨cb0, cb1, cb2, cb3, cb4, cb5, cb6, cb7, cb8, cb9, cb10, cb11, hz2, hB2⟩ := id hS2))
  exact bodyPost_ret (v := .tuple #[.agg #[.int .i64 k2, .int .i64 n2, .string t2], .int .i64 0]) (by simp only [results, Tryz.results128]; go_simp) rfl ⟨rfl, below_setg hB2 (by omega)⟩
theorem cunary_bad6 (k n : Int) (t : ByteArray) (w : World) (hm : Val.may ⟨k, n, t.data.toList⟩ = false) :
    Calls Tryz.prog 128 #[.int .i64 6, .agg #[.int .i64 k, .int .i64 n, .string t]] w (VRet2 0 0 ⟨#[]⟩ 2 w) := by
  have hS := start2 w (.int .i64 k) (.int .i64 n) (.string t) (.int .i64 0) (.int .i64 0) (.string ⟨#[]⟩) 25 25
  replace hm := Lib.hid hm
  go_enter Tryz.func128, Tryz.ntmps128
  go_wp2_with (first
    | (go_at_call 18; refine (may_is _ _ _ _ hm).mono ?_; rintro e w1 ⟨rfl, hb1⟩; have hS1 := keep2 hS hb1)
    | (go_at_call 146; refine (cnull_any _).mono ?_; rintro e w2 ⟨rfl, hb2⟩; have hS2 := keep2 hS1 hb2; obtain ⟨cb0, cb1, cb2, cb3, cb4, cb5, cb6, cb7, cb8, cb9, cb10, cb11, hz2, hB2⟩ := id hS2))
  exact bodyPost_ret (v := .tuple #[.agg #[.int .i64 0, .int .i64 0, .string ⟨#[]⟩], .int .i64 2]) (by simp only [results, Tryz.results128]; go_simp) rfl ⟨rfl, below_setg hB2 (by omega)⟩
theorem cunary_6 (k n : Int) (t : ByteArray) (w : World) (hL : Lits w) (hm : Val.may ⟨k, n, t.data.toList⟩ = true) (k2 n2 : Int) (t2 : ByteArray) (hf : ∀ W, Lits W → Calls Tryz.prog 165 #[.agg #[.int .i64 k, .int .i64 n, .string t]] W (VRet k2 n2 t2 W)) :
    Calls Tryz.prog 128 #[.int .i64 6, .agg #[.int .i64 k, .int .i64 n, .string t]] w (VRet2 k2 n2 t2 0 w) := by
  have hS := start2 w (.int .i64 k) (.int .i64 n) (.string t) (.int .i64 0) (.int .i64 0) (.string ⟨#[]⟩) 25 25
  have hL0 : Lits ((w.alloc (.cells #[.int .i64 k, .int .i64 n, .string t] 25)).alloc (.cells #[.int .i64 0, .int .i64 0, .string ⟨#[]⟩] 25)) := (hL.alloc _).alloc _
  replace hm := Lib.hid hm
  go_enter Tryz.func128, Tryz.ntmps128
  go_wp2_with (first
    | (go_at_call 18; refine (may_is _ _ _ _ hm).mono ?_; rintro e w1 ⟨rfl, hb1⟩; have hS1 := keep2 hS hb1; obtain ⟨ca0, ca1, ca2, ca3, ca4, ca5, ca6, ca7, ca8, ca9, ca10, ca11, hz, hB⟩ := id hS1; have hL1 := hL0.below hb1)
    | (go_at_call 165; refine (hf _ hL1).mono ?_; rintro e w2 ⟨rfl, hb2⟩; have hS2 := keep2 hS1 hb2; obtain ⟨cb0, cb1, cb2, cb3, cb4, cb5, cb6, cb7, cb8, cb9, cb10, cb11, hz2, hB2⟩ := id hS2))
  exact bodyPost_ret (v := .tuple #[.agg #[.int .i64 k2, .int .i64 n2, .string t2], .int .i64 0]) (by simp only [results, Tryz.results128]; go_simp) rfl ⟨rfl, below_setg hB2 (by omega)⟩
/-- WHAT Unary ANSWERS -/
theorem cunary_is (op k n : Int) (t : ByteArray) (w : World) (hL : Lits w) (ha : Val.inr n) (k2 n2 : Int) (t2 : ByteArray) (E : Int) (hv : Hid (Val.unary op ⟨k, n, t.data.toList⟩ = (⟨k2, n2, t2.data.toList⟩, E))) :
    Calls Tryz.prog 128 #[.int .i64 op, .agg #[.int .i64 k, .int .i64 n, .string t]] w (VRet2 k2 n2 t2 E w) := by
  have hv' := hv.out
  rw [Val.unary] at hv'
  by_cases ho : op = 4 ∨ op = 5 ∨ op = 6
  · rw [if_pos ho] at hv'
    cases hm : Val.may ⟨k, n, t.data.toList⟩ with
    | false =>
      rw [if_neg (by rw [hm]; decide), Prod.mk.injEq] at hv'
      obtain ⟨h1, rfl⟩ := hv'
      obtain ⟨rfl, rfl, rfl⟩ := zero_form h1
      rcases ho with rfl | rfl | rfl
      · exact cunary_bad4 k n t w hm
      · exact cunary_bad5 k n t w hm
      · exact cunary_bad6 k n t w hm
    | true =>
      rw [if_pos hm] at hv'
      rcases ho with rfl | rfl | rfl
      · rw [if_pos rfl, Prod.mk.injEq] at hv'
        obtain ⟨h1, rfl⟩ := hv'
        have ht : t2 = ⟨#[]⟩ := text_nil (by
          have : (if (Val.num ⟨k, n, t.data.toList⟩).kind = 0 then Val.zero else Val.fit (0 - (Val.num ⟨k, n, t.data.toList⟩).int)).text = [] := by
            split
            · rfl
            · unfold Val.fit; split <;> rfl
          rw [h1] at this; exact this)
        subst ht
        exact cunary_4 k n t w hL hm _ _ _ (fun W hW => cneg_is k n t W hW ha k2 n2 (Lib.hid h1))
      · rw [if_neg (by decide), if_pos rfl, Prod.mk.injEq] at hv'
        obtain ⟨h1, rfl⟩ := hv'
        simp only [Val.V.mk.injEq] at h1
        obtain ⟨rfl, rfl, ht⟩ := h1
        have := bytes_inj' ht
        subst this
        exact cunary_5 k n t w hL hm _ _ _ (fun W hW => cplus_is k n t W)
      · rw [if_neg (by decide), if_neg (by decide), Prod.mk.injEq] at hv'
        obtain ⟨h1, rfl⟩ := hv'
        have ht : t2 = ⟨#[]⟩ := text_nil (by
          have : (Val.three (if Val.tru ⟨k, n, t.data.toList⟩ < 0 then -1 else 1 - Val.tru ⟨k, n, t.data.toList⟩)).text = [] := by
            unfold Val.three; repeat' split
            all_goals rfl
          rw [h1] at this; exact this)
        subst ht
        exact cunary_6 k n t w hL hm _ _ _ (fun W hW => cnot_is k n t W hW ha k2 n2 (Lib.hid h1))
  · rw [if_neg ho, Prod.mk.injEq] at hv'
    obtain ⟨h1, rfl⟩ := hv'
    obtain ⟨rfl, rfl, rfl⟩ := zero_form h1
    exact cunary_none op k n t w ho

end Go.Proofs.YtmkgalcojoeniaaGreatDoor
