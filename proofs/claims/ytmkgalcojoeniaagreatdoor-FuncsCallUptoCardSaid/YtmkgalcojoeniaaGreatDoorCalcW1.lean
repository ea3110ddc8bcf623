/- Walks: what package calc reads of a value: small things, the digits ahead of a text. -/
import Derived.Test.YtmkgalcojoeniaaGreatDoorPlain
import Derived.Test.YtmkgalcojoeniaaGreatDoorBlk
import Derived.Test.YtmkgalcojoeniaaGreatDoorCmpW6
set_option maxRecDepth 100000
set_option linter.unusedVariables false
set_option linter.unusedSimpArgs false
namespace Go.Proofs.YtmkgalcojoeniaaGreatDoor
open Go.RowKit

/-- a call answers with a value -/
def VRet (k n : Int) (t : ByteArray) (w : World) (e : Ending) (w' : World) : Prop := e = .returned (.agg #[.int .i64 k, .int .i64 n, .string t]) ∧ Below w.heap.size w w'
/-- a call answers with a value and a number -/
def VRet2 (k n : Int) (t : ByteArray) (E : Int) (w : World) (e : Ending) (w' : World) : Prop := e = .returned (.tuple #[.agg #[.int .i64 k, .int .i64 n, .string t], .int .i64 E]) ∧ Below w.heap.size w w'
theorem below_new (w : World) (o : Obj) : Below w.heap.size w (w.alloc o) := (Below.refl _ _).alloc (Nat.le_refl _) _

theorem cnull_any (w : World) : Calls Tryz.prog 146 #[] w (VRet 0 0 ⟨#[]⟩ w) := by
  go_enter Tryz.func146, Tryz.ntmps146
  go_wp2
  refine bodyPost_ret (v := .agg #[.int .i64 0, .int .i64 0, .string ⟨#[]⟩]) (by simp only [results, Tryz.results146]; go_simp) rfl ⟨rfl, ?_⟩
  first | exact below_new _ _ | exact below_setg (below_new _ _) (Nat.le_refl _)
theorem rnull_any (w : World) : Calls Tryz.prog 108 #[] w (VRet 0 0 ⟨#[]⟩ w) := by
  go_enter Tryz.func108, Tryz.ntmps108
  go_wp2
  refine bodyPost_ret (v := .agg #[.int .i64 0, .int .i64 0, .string ⟨#[]⟩]) (by simp only [results, Tryz.results108]; go_simp) rfl ⟨rfl, ?_⟩
  first | exact below_new _ _ | exact below_setg (below_new _ _) (Nat.le_refl _)
theorem rint_any (n : Int) (w : World) : Calls Tryz.prog 20 #[.int .i64 n] w (VRet 1 n ⟨#[]⟩ w) := by
  go_enter Tryz.func20, Tryz.ntmps20
  go_wp2
  refine bodyPost_ret (v := .agg #[.int .i64 1, .int .i64 n, .string ⟨#[]⟩]) (by simp only [results, Tryz.results20]; go_simp) rfl ⟨rfl, ?_⟩
  first | exact below_new _ _ | exact below_setg (below_new _ _) (Nat.le_refl _)

theorem ctruth_any (b : Bool) (w : World) : Calls Tryz.prog 199 #[.bool b] w (VRet 1 (if b = true then 1 else 0) ⟨#[]⟩ w) := by
  have hS := start1 w (.int .i64 0) (.int .i64 0) (.string ⟨#[]⟩) 25
  cases b
  all_goals (
    go_enter Tryz.func199, Tryz.ntmps199
    go_wp2_with (go_at_call 81; refine (vint_any _ _).mono ?_; rintro e w1 ⟨rfl, hb⟩; have hS1 := keep1 hS hb; obtain ⟨ca0, ca1, ca2, ca3, ca4, ca5, hz, hB⟩ := id hS1))
  · refine bodyPost_ret (v := .agg #[.int .i64 1, .int .i64 0, .string ⟨#[]⟩]) (by simp only [results, Tryz.results199]; go_simp) rfl ⟨rfl, ?_⟩
    exact below_setg hB (Nat.le_refl _)
  · refine bodyPost_ret (v := .agg #[.int .i64 1, .int .i64 1, .string ⟨#[]⟩]) (by simp only [results, Tryz.results199]; go_simp) rfl ⟨rfl, ?_⟩
    exact below_setg hB (Nat.le_refl _)
theorem rbool_any (b : Bool) (w : World) : Calls Tryz.prog 50 #[.bool b] w (VRet 1 (if b = true then 1 else 0) ⟨#[]⟩ w) := by
  have hS := start1 w (.int .i64 0) (.int .i64 0) (.string ⟨#[]⟩) 25
  cases b
  all_goals (
    go_enter Tryz.func50, Tryz.ntmps50
    go_wp2_with (go_at_call 20; refine (rint_any _ _).mono ?_; rintro e w1 ⟨rfl, hb⟩; have hS1 := keep1 hS hb; obtain ⟨ca0, ca1, ca2, ca3, ca4, ca5, hz, hB⟩ := id hS1))
  · refine bodyPost_ret (v := .agg #[.int .i64 1, .int .i64 0, .string ⟨#[]⟩]) (by simp only [results, Tryz.results50]; go_simp) rfl ⟨rfl, ?_⟩
    exact below_setg hB (Nat.le_refl _)
  · refine bodyPost_ret (v := .agg #[.int .i64 1, .int .i64 1, .string ⟨#[]⟩]) (by simp only [results, Tryz.results50]; go_simp) rfl ⟨rfl, ?_⟩
    exact below_setg hB (Nat.le_refl _)

/-- what 'three' makes of a truth value that is known, or not -/
theorem cthree_any (b kn : Bool) (w : World) : Calls Tryz.prog 166 #[.bool b, .bool kn] w (VRet (if kn = true then 1 else 0) (if kn = true then (if b = true then 1 else 0) else 0) ⟨#[]⟩ w) := by
  have hS := start1 w (.int .i64 0) (.int .i64 0) (.string ⟨#[]⟩) 25
  cases kn
  · go_enter Tryz.func166, Tryz.ntmps166
    go_wp2_with (go_at_call 146; refine (cnull_any _).mono ?_; rintro e w1 ⟨rfl, hb⟩; have hS1 := keep1 hS hb; obtain ⟨ca0, ca1, ca2, ca3, ca4, ca5, hz, hB⟩ := id hS1)
    refine bodyPost_ret (v := .agg #[.int .i64 0, .int .i64 0, .string ⟨#[]⟩]) (by simp only [results, Tryz.results166]; go_simp) rfl ⟨rfl, ?_⟩
    exact below_setg hB (Nat.le_refl _)
  · obtain ⟨r, hr⟩ : ∃ r : Int, (if b = true then (1 : Int) else 0) = r := ⟨_, rfl⟩
    have hc := ctruth_any b
    rw [hr] at hc
    simp only [if_true, hr]
    clear hr
    go_enter Tryz.func166, Tryz.ntmps166
    go_wp2_with (go_at_call 199; refine (hc _).mono ?_; rintro e w1 ⟨rfl, hb⟩; have hS1 := keep1 hS hb; obtain ⟨ca0, ca1, ca2, ca3, ca4, ca5, hz, hB⟩ := id hS1)
    refine bodyPost_ret (v := .agg #[.int .i64 1, .int .i64 r, .string ⟨#[]⟩]) (by simp only [results, Tryz.results166]; go_simp) rfl ⟨rfl, ?_⟩
    exact below_setg hB (Nat.le_refl _)

end Go.Proofs.YtmkgalcojoeniaaGreatDoor
