/- Walks: a value as a number, as a text, whether it is true: of package calc. -/
import Derived.Test.YtmkgalcojoeniaaGreatDoorCalcW2
set_option maxRecDepth 100000
set_option linter.unusedVariables false
set_option linter.unusedSimpArgs false
namespace Go.Proofs.YtmkgalcojoeniaaGreatDoor
open Go.RowKit

theorem vbytes_ok (k : Int) (s : ByteArray) (w : World) (h : s.size ≤ 400) : Calls Tryz.prog 171 #[.int .i64 k, .string s] w (VRet2 k 0 s 0 w) := by
  have b : decide ((s.size : Int) > 400) = false := decide_eq_false (by omega)
  go_enter Tryz.func171, Tryz.ntmps171
  go_wp2
  refine bodyPost_ret (v := .tuple #[.agg #[.int .i64 k, .int .i64 0, .string s], .int .i64 0]) (by simp only [results, Tryz.results171]; go_simp) rfl ⟨rfl, ?_⟩
  first | exact below_new _ _ | exact below_setg (below_new _ _) (Nat.le_refl _)
theorem vbytes_long (k : Int) (s : ByteArray) (w : World) (h : 400 < s.size) : Calls Tryz.prog 171 #[.int .i64 k, .string s] w (VRet2 0 0 ⟨#[]⟩ 3 w) := by
  have b : decide ((s.size : Int) > 400) = true := decide_eq_true (by omega)
  go_enter Tryz.func171, Tryz.ntmps171
  go_wp2
  refine bodyPost_ret (v := .tuple #[.agg #[.int .i64 0, .int .i64 0, .string ⟨#[]⟩], .int .i64 3]) (by simp only [results, Tryz.results171]; go_simp) rfl ⟨rfl, ?_⟩
  first | exact below_new _ _ | exact below_setg (below_new _ _) (Nat.le_refl _)
theorem vtext_ok (s : ByteArray) (w : World) (h : s.size ≤ 400) : Calls Tryz.prog 130 #[.string s] w (VRet2 2 0 s 0 w) := by
  have hS := start1 w (.int .i64 0) (.int .i64 0) (.string ⟨#[]⟩) 25
  go_enter Tryz.func130, Tryz.ntmps130
  go_wp2_with (go_at_call 171; refine (vbytes_ok _ _ _ h).mono ?_; rintro e w1 ⟨rfl, hb⟩; have hS1 := keep1 hS hb; obtain ⟨ca0, ca1, ca2, ca3, ca4, ca5, hz, hB⟩ := id hS1)
  refine bodyPost_ret (v := .tuple #[.agg #[.int .i64 2, .int .i64 0, .string s], .int .i64 0]) (by simp only [results, Tryz.results130]; go_simp) rfl ⟨rfl, below_setg hB (Nat.le_refl _)⟩
theorem vtext_long (s : ByteArray) (w : World) (h : 400 < s.size) : Calls Tryz.prog 130 #[.string s] w (VRet2 0 0 ⟨#[]⟩ 3 w) := by
  have hS := start1 w (.int .i64 0) (.int .i64 0) (.string ⟨#[]⟩) 25
  go_enter Tryz.func130, Tryz.ntmps130
  go_wp2_with (go_at_call 171; refine (vbytes_long _ _ _ h).mono ?_; rintro e w1 ⟨rfl, hb⟩; have hS1 := keep1 hS hb; obtain ⟨ca0, ca1, ca2, ca3, ca4, ca5, hz, hB⟩ := id hS1)
  refine bodyPost_ret (v := .tuple #[.agg #[.int .i64 0, .int .i64 0, .string ⟨#[]⟩], .int .i64 3]) (by simp only [results, Tryz.results130]; go_simp) rfl ⟨rfl, below_setg hB (Nat.le_refl _)⟩
theorem vblob_ok (s : ByteArray) (w : World) (h : s.size ≤ 400) : Calls Tryz.prog 141 #[.string s] w (VRet2 3 0 s 0 w) := by
  have hS := start1 w (.int .i64 0) (.int .i64 0) (.string ⟨#[]⟩) 25
  go_enter Tryz.func141, Tryz.ntmps141
  go_wp2_with (go_at_call 171; refine (vbytes_ok _ _ _ h).mono ?_; rintro e w1 ⟨rfl, hb⟩; have hS1 := keep1 hS hb; obtain ⟨ca0, ca1, ca2, ca3, ca4, ca5, hz, hB⟩ := id hS1)
  refine bodyPost_ret (v := .tuple #[.agg #[.int .i64 3, .int .i64 0, .string s], .int .i64 0]) (by simp only [results, Tryz.results141]; go_simp) rfl ⟨rfl, below_setg hB (Nat.le_refl _)⟩

theorem ctext_ok (s : ByteArray) (w : World) (h : s.size ≤ 400) : Calls Tryz.prog 147 #[.string s] w (VRet 2 0 s w) := by
  have hS := start1 w (.int .i64 0) (.int .i64 0) (.string ⟨#[]⟩) 25
  go_enter Tryz.func147, Tryz.ntmps147
  go_wp2_with (go_at_call 130; refine (vtext_ok _ _ h).mono ?_; rintro e w1 ⟨rfl, hb⟩; have hS1 := keep1 hS (hb.trans (((Below.refl _ w1).alloc (Nat.le_refl _) (.cells #[.int .i64 2, .int .i64 0, .string s] 25)).mono hb.size)); obtain ⟨ca0, ca1, ca2, ca3, ca4, ca5, hz, hB⟩ := id hS1)
  refine bodyPost_ret (v := .agg #[.int .i64 2, .int .i64 0, .string s]) (by simp only [results, Tryz.results147]; go_simp) rfl ⟨rfl, below_setg hB (Nat.le_refl _)⟩
theorem ctext_long (s : ByteArray) (w : World) (h : 400 < s.size) : Calls Tryz.prog 147 #[.string s] w (VRet 0 0 ⟨#[]⟩ w) := by
  have hS := start1 w (.int .i64 0) (.int .i64 0) (.string ⟨#[]⟩) 25
  go_enter Tryz.func147, Tryz.ntmps147
  go_wp2_with (first
    | (go_at_call 130; refine (vtext_long _ _ h).mono ?_; rintro e w1 ⟨rfl, hb⟩; have hS1 := keep1 hS (hb.trans (((Below.refl _ w1).alloc (Nat.le_refl _) (.cells #[.int .i64 0, .int .i64 0, .string ⟨#[]⟩] 25)).mono hb.size)))
    | (go_at_call 146; refine (cnull_any _).mono ?_; rintro e w2 ⟨rfl, hb2⟩; have hS2 := keep1 hS1 hb2; obtain ⟨ca0, ca1, ca2, ca3, ca4, ca5, hz, hB⟩ := id hS2))
  refine bodyPost_ret (v := .agg #[.int .i64 0, .int .i64 0, .string ⟨#[]⟩]) (by simp only [results, Tryz.results147]; go_simp) rfl ⟨rfl, below_setg hB (Nat.le_refl _)⟩

theorem cnumber_is (s : ByteArray) (w : World) (hs : s.size ≤ 1048576) (hL : Lits w) (k n : Int) (hv : Hid (Val.pnum s.data.toList = ⟨k, n, []⟩)) : Calls Tryz.prog 161 #[.string s] w (VRet k n ⟨#[]⟩ w) := by
  have hS := start1 w (.int .i64 0) (.int .i64 0) (.string ⟨#[]⟩) 25
  go_enter Tryz.func161, Tryz.ntmps161
  go_wp2_with fail
  refine (parse_any s _ hs (hL.alloc _)).mono ?_
  rintro e w1 ⟨hb, ⟨m, hm, rfl⟩ | ⟨hno, m, T, v, rfl⟩⟩
  · have hv' := (Val.pnum_ok hm).symm.trans hv.out
    simp only [Val.V.mk.injEq, and_true] at hv'
    obtain ⟨rfl, rfl⟩ := hv'
    have hS1 := keep1 hS hb
    clear hm hv
    go_wp2_with (go_at_call 81; refine (vint_any _ _).mono ?_; rintro e w2 ⟨rfl, hb2⟩; have hS2 := keep1 hS1 hb2; obtain ⟨ca0, ca1, ca2, ca3, ca4, ca5, hz, hB⟩ := id hS2)
    refine bodyPost_ret (v := .agg #[.int .i64 1, .int .i64 m, .string ⟨#[]⟩]) (by simp only [results, Tryz.results161]; go_simp) rfl ⟨rfl, below_setg hB (Nat.le_refl _)⟩
  · have hv' := (Val.pnum_no hno).symm.trans hv.out
    simp only [Val.zero, Val.V.mk.injEq, and_true] at hv'
    obtain ⟨rfl, rfl⟩ := hv'
    have hS1 := keep1 hS hb
    clear hno hv
    go_wp2_with (go_at_call 146; refine (cnull_any _).mono ?_; rintro e w2 ⟨rfl, hb2⟩; have hS2 := keep1 hS1 hb2; obtain ⟨ca0, ca1, ca2, ca3, ca4, ca5, hz, hB⟩ := id hS2)
    refine bodyPost_ret (v := .agg #[.int .i64 0, .int .i64 0, .string ⟨#[]⟩]) (by simp only [results, Tryz.results161]; go_simp) rfl ⟨rfl, below_setg hB (Nat.le_refl _)⟩

end Go.Proofs.YtmkgalcojoeniaaGreatDoor
