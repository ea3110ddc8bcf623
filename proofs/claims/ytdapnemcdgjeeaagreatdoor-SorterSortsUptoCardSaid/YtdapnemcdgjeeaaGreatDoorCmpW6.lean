/- Walks: Cmp of any two values. -/
import Derived.Test.YtdapnemcdgjeeaaGreatDoorCmpW5
import Derived.Test.YtdapnemcdgjeeaaGreatDoorLits
set_option maxRecDepth 100000
set_option linter.unusedVariables false
set_option linter.unusedSimpArgs false
namespace Go.Proofs.YtdapnemcdgjeeaaGreatDoor
open Go.RowKit

theorem vcmp_is (ka na : Int) (ta : ByteArray) (kb nb : Int) (tb : ByteArray) (c : Int) (w : World) (hsa : ta.size ≤ 1048576) (hsb : tb.size ≤ 1048576) (r : Int) (hr : Hid (Val.cmp ⟨ka, na, ta.data.toList⟩ ⟨kb, nb, tb.data.toList⟩ c = r)) :
    Calls Tryz.prog 65 #[.agg #[.int .i64 ka, .int .i64 na, .string ta], .agg #[.int .i64 kb, .int .i64 nb, .string tb], .int .i64 c] w (CmpP r w) := by
  cases ha : Val.may ⟨ka, na, ta.data.toList⟩ with
  | false =>
    have : r = 0 := by rw [← hr.out, cmp_not (by rw [ha]; simp)]
    rw [this]
    exact vcmp_not1 ka na ta kb nb tb c w (Lib.hid ha)
  | true =>
    cases hbm : Val.may ⟨kb, nb, tb.data.toList⟩ with
    | false =>
      have : r = 0 := by rw [← hr.out, cmp_not (by rw [hbm]; simp)]
      rw [this]
      exact vcmp_not2 ka na ta kb nb tb c w (Lib.hid ha) (Lib.hid hbm)
    | true =>
      by_cases hk : ka = kb
      · have hkB : (ka != kb) = false := by simp [hk]
        by_cases h2 : ka = 2
        · have h2B : (ka == 2) = true := by simp [h2]
          have e := (cmp_text (c := c) ha hbm hk h2).symm.trans hr.out
          exact vcmp_text ka na ta kb nb tb c w (Lib.hid ha) (Lib.hid hbm) hkB h2B hsa hsb r (Lib.hid e)
        · have h2B : (ka == 2) = false := by simp [h2]
          have e := (cmp_else (c := c) ha hbm hk h2).symm.trans hr.out
          exact vcmp_else ka na ta kb nb tb c w (Lib.hid ha) (Lib.hid hbm) hkB h2B _ _ r (Lib.hid rfl) (Lib.hid rfl) (Lib.hid e)
      · have hkB : (ka != kb) = true := by simp [hk]
        have e := (cmp_kinds (c := c) ha hbm hk).symm.trans hr.out
        exact vcmp_kind ka na ta kb nb tb c w (Lib.hid ha) (Lib.hid hbm) hkB r (Lib.hid e)
theorem rcmp_is (ka na : Int) (ta : ByteArray) (kb nb : Int) (tb : ByteArray) (c : Int) (w : World) (hsa : ta.size ≤ 1048576) (hsb : tb.size ≤ 1048576) (r : Int) (hr : Hid (Val.cmp ⟨ka, na, ta.data.toList⟩ ⟨kb, nb, tb.data.toList⟩ c = r)) :
    Calls Tryz.prog 59 #[.agg #[.int .i64 ka, .int .i64 na, .string ta], .agg #[.int .i64 kb, .int .i64 nb, .string tb], .int .i64 c] w (CmpP r w) := by
  cases ha : Val.may ⟨ka, na, ta.data.toList⟩ with
  | false =>
    have : r = 0 := by rw [← hr.out, cmp_not (by rw [ha]; simp)]
    rw [this]
    exact rcmp_not1 ka na ta kb nb tb c w (Lib.hid ha)
  | true =>
    cases hbm : Val.may ⟨kb, nb, tb.data.toList⟩ with
    | false =>
      have : r = 0 := by rw [← hr.out, cmp_not (by rw [hbm]; simp)]
      rw [this]
      exact rcmp_not2 ka na ta kb nb tb c w (Lib.hid ha) (Lib.hid hbm)
    | true =>
      by_cases hk : ka = kb
      · have hkB : (ka != kb) = false := by simp [hk]
        by_cases h2 : ka = 2
        · have h2B : (ka == 2) = true := by simp [h2]
          have e := (cmp_text (c := c) ha hbm hk h2).symm.trans hr.out
          exact rcmp_text ka na ta kb nb tb c w (Lib.hid ha) (Lib.hid hbm) hkB h2B hsa hsb _ _ (Lib.hid rfl) (Lib.hid rfl) r (Lib.hid e)
        · have h2B : (ka == 2) = false := by simp [h2]
          have e := (cmp_else (c := c) ha hbm hk h2).symm.trans hr.out
          exact rcmp_else ka na ta kb nb tb c w (Lib.hid ha) (Lib.hid hbm) hkB h2B _ r (Lib.hid rfl) e
      · have hkB : (ka != kb) = true := by simp [hk]
        have e := (cmp_kinds (c := c) ha hbm hk).symm.trans hr.out
        have ra := Val.may_iff.1 ha
        have rb := Val.may_iff.1 hbm
        simp only at ra rb
        have : r = if decide (ka < kb) = true then -1 else 1 := by
          rw [← e]
          simp only [Lib.compareInt, decide_eq_true_eq]
          split
          · rfl
          · rw [if_pos (by omega)]
        rw [this]
        exact rcmp_kind ka na ta kb nb tb c w (Lib.hid ha) (Lib.hid hbm) hkB (by omega) (by omega) (by omega) (by omega) _ rfl

theorem litsT {w W : World} {ka na : Int} {ta : ByteArray} {kb nb : Int} {tb : ByteArray} (h : W.cell? ⟨w.heap.size, 0, none⟩ = some (.int .i64 ka) ∧ W.cell? ⟨w.heap.size, 1, none⟩ = some (.int .i64 na) ∧ W.cell? ⟨w.heap.size, 2, none⟩ = some (.string ta) ∧ W.cell? ⟨w.heap.size + 1, 0, none⟩ = some (.int .i64 kb) ∧ W.cell? ⟨w.heap.size + 1, 1, none⟩ = some (.int .i64 nb) ∧ W.cell? ⟨w.heap.size + 1, 2, none⟩ = some (.string tb) ∧ w.heap.size + 1 < W.heap.size ∧ Below w.heap.size w W) (hL : Lits w) : Lits W := hL.below h.2.2.2.2.2.2.2

end Go.Proofs.YtdapnemcdgjeeaaGreatDoor
