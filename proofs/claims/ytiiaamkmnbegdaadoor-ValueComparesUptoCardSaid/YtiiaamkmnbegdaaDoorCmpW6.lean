/- Walks: Cmp of any two values, Equal, and the law ValueCompares. -/
import Derived.Test.YtiiaamkmnbegdaaDoorCmpW5
namespace Go.Proofs.YtiiaamkmnbegdaaDoor
set_option maxRecDepth 100000
set_option linter.unusedVariables false
set_option linter.unusedSimpArgs false
open Go.RowKit

theorem vcmp_is (ka na : Int) (ta : ByteArray) (kb nb : Int) (tb : ByteArray) (c : Int) (w : World) (hsa : ta.size ≤ 1048576) (hsb : tb.size ≤ 1048576) (r : Int) (hr : Hid (Val.cmp ⟨ka, na, ta.data.toList⟩ ⟨kb, nb, tb.data.toList⟩ c = r)) :
    Calls Tryd.prog 35 #[.agg #[.int .i64 ka, .int .i64 na, .string ta], .agg #[.int .i64 kb, .int .i64 nb, .string tb], .int .i64 c] w (CmpP r w) := by
  cases ha : Val.may ⟨ka, na, ta.data.toList⟩ with
  | false =>
    have : r = 0 := by rw [← hr.out, cmp_not (by rw [ha]; simp)]
    rw [this]
    exact vcmp_not1 ka na ta kb nb tb c w (Lib.hid ha)
  | true =>
    cases hbm : Val.may ⟨kb, nb, tb.data.toList⟩ with
    | false =>
      have : r = 0 := by rw [← hr.out, cmp_not (by rw [hbm]; simp)]
      rw [this]
      exact vcmp_not2 ka na ta kb nb tb c w (Lib.hid ha) (Lib.hid hbm)
    | true =>
      by_cases hk : ka = kb
      · have hkB : (ka != kb) = false := by simp [hk]
        by_cases h2 : ka = 2
        · have h2B : (ka == 2) = true := by simp [h2]
          have e := (cmp_text (c := c) ha hbm hk h2).symm.trans hr.out
          exact vcmp_text ka na ta kb nb tb c w (Lib.hid ha) (Lib.hid hbm) hkB h2B hsa hsb r (Lib.hid e)
        · have h2B : (ka == 2) = false := by simp [h2]
          have e := (cmp_else (c := c) ha hbm hk h2).symm.trans hr.out
          exact vcmp_else ka na ta kb nb tb c w (Lib.hid ha) (Lib.hid hbm) hkB h2B _ _ r (Lib.hid rfl) (Lib.hid rfl) (Lib.hid e)
      · have hkB : (ka != kb) = true := by simp [hk]
        have e := (cmp_kinds (c := c) ha hbm hk).symm.trans hr.out
        exact vcmp_kind ka na ta kb nb tb c w (Lib.hid ha) (Lib.hid hbm) hkB r (Lib.hid e)
theorem rcmp_is (ka na : Int) (ta : ByteArray) (kb nb : Int) (tb : ByteArray) (c : Int) (w : World) (hsa : ta.size ≤ 1048576) (hsb : tb.size ≤ 1048576) (r : Int) (hr : Hid (Val.cmp ⟨ka, na, ta.data.toList⟩ ⟨kb, nb, tb.data.toList⟩ c = r)) :
    Calls Tryd.prog 36 #[.agg #[.int .i64 ka, .int .i64 na, .string ta], .agg #[.int .i64 kb, .int .i64 nb, .string tb], .int .i64 c] w (CmpP r w) := by
  cases ha : Val.may ⟨ka, na, ta.data.toList⟩ with
  | false =>
    have : r = 0 := by rw [← hr.out, cmp_not (by rw [ha]; simp)]
    rw [this]
    exact rcmp_not1 ka na ta kb nb tb c w (Lib.hid ha)
  | true =>
    cases hbm : Val.may ⟨kb, nb, tb.data.toList⟩ with
    | false =>
      have : r = 0 := by rw [← hr.out, cmp_not (by rw [hbm]; simp)]
      rw [this]
      exact rcmp_not2 ka na ta kb nb tb c w (Lib.hid ha) (Lib.hid hbm)
    | true =>
      by_cases hk : ka = kb
      · have hkB : (ka != kb) = false := by simp [hk]
        by_cases h2 : ka = 2
        · have h2B : (ka == 2) = true := by simp [h2]
          have e := (cmp_text (c := c) ha hbm hk h2).symm.trans hr.out
          exact rcmp_text ka na ta kb nb tb c w (Lib.hid ha) (Lib.hid hbm) hkB h2B hsa hsb _ _ (Lib.hid rfl) (Lib.hid rfl) r (Lib.hid e)
        · have h2B : (ka == 2) = false := by simp [h2]
          have e := (cmp_else (c := c) ha hbm hk h2).symm.trans hr.out
          exact rcmp_else ka na ta kb nb tb c w (Lib.hid ha) (Lib.hid hbm) hkB h2B _ r (Lib.hid rfl) e
      · have hkB : (ka != kb) = true := by simp [hk]
        have e := (cmp_kinds (c := c) ha hbm hk).symm.trans hr.out
        have ra := Val.may_iff.1 ha
        have rb := Val.may_iff.1 hbm
        simp only at ra rb
        have : r = if decide (ka < kb) = true then -1 else 1 := by
          rw [← e]
          simp only [Lib.compareInt, decide_eq_true_eq]
          split
          · rfl
          · rw [if_pos (by omega)]
        rw [this]
        exact rcmp_kind ka na ta kb nb tb c w (Lib.hid ha) (Lib.hid hbm) hkB (by omega) (by omega) (by omega) (by omega) _ rfl

theorem vequal_is (a b : ByteArray) (c : Int) (w : World) (ha : a.size ≤ 1048576) (hb : b.size ≤ 1048576) (q : Bool) (hq : Hid ((Val.texts a.data.toList b.data.toList c == 0) = q)) :
    Calls Tryd.prog 37 #[.string a, .string b, .int .i64 c] w fun e w' => e = .returned (.bool q) ∧ Below w.heap.size w w' := by
  go_enter Tryd.func37, Tryd.ntmps37
  go_wp2_with (go_at_call 65; refine (vtexts_any _ _ _ _ ha hb).mono ?_; rintro e w1 ⟨rfl, hb1⟩; have hq' := hq.out)
  go_ret
  exact ⟨by first | rfl | exact ret_bool rfl, hb1⟩

theorem litsT {w W : World} {ka na : Int} {ta : ByteArray} {kb nb : Int} {tb : ByteArray} (h : W.cell? ⟨w.heap.size, 0, none⟩ = some (.int .i64 ka) ∧ W.cell? ⟨w.heap.size, 1, none⟩ = some (.int .i64 na) ∧ W.cell? ⟨w.heap.size, 2, none⟩ = some (.string ta) ∧ W.cell? ⟨w.heap.size + 1, 0, none⟩ = some (.int .i64 kb) ∧ W.cell? ⟨w.heap.size + 1, 1, none⟩ = some (.int .i64 nb) ∧ W.cell? ⟨w.heap.size + 1, 2, none⟩ = some (.string tb) ∧ w.heap.size + 1 < W.heap.size ∧ Below w.heap.size w W) (hL : Lits w) : Lits W := hL.below h.2.2.2.2.2.2.2

set_option maxHeartbeats 4000000 in
theorem value_compares (ka na : Int) (ta : ByteArray) (kb nb : Int) (tb : ByteArray) (c : Int) (w : World) (hsa : ta.size ≤ 1048576) (hsb : tb.size ≤ 1048576) (hL : Lits w) :
    Calls Tryd.prog 12 #[.agg #[.int .i64 ka, .int .i64 na, .string ta], .agg #[.int .i64 kb, .int .i64 nb, .string tb], .int .i64 c] w fun e w' => e = .returned (.bool true) ∧ Below w.heap.size w w' := by
  obtain ⟨r, hr⟩ : ∃ r, Val.cmp ⟨ka, na, ta.data.toList⟩ ⟨kb, nb, tb.data.toList⟩ c = r := ⟨_, rfl⟩
  obtain ⟨q, hq⟩ : ∃ q, (Val.texts ta.data.toList tb.data.toList c == 0) = q := ⟨_, rfl⟩
  obtain ⟨fa, hfa⟩ : ∃ f, bs (Txt.fold ta.data.toList c) = f := ⟨_, rfl⟩
  obtain ⟨fb, hfb⟩ : ∃ f, bs (Txt.fold tb.data.toList c) = f := ⟨_, rfl⟩
  have hf : (fa.toList == fb.toList) = q := by
    rw [← hq, Lib.toList_data, Lib.toList_data, ← hfa, ← hfb, Bool.eq_iff_iff, beq_iff_eq, beq_iff_eq, Val.texts, Val.cb_zero]
    simp [bs]
  replace hr := Lib.hid hr
  replace hq := Lib.hid hq
  replace hfa := Lib.hid hfa
  replace hfb := Lib.hid hfb
  go_enter Tryd.func12, Tryd.ntmps12
  go_wp2_with fail
  obtain ⟨W0, hW0⟩ : ∃ W0, ((w.alloc (.cells #[.int .i64 ka, .int .i64 na, .string ta] 42)).alloc (.cells #[.int .i64 kb, .int .i64 nb, .string tb] 42)) = W0 := ⟨_, rfl⟩
  have H0 : W0.cell? ⟨w.heap.size, 0, none⟩ = some (.int .i64 ka) ∧ W0.cell? ⟨w.heap.size, 1, none⟩ = some (.int .i64 na) ∧ W0.cell? ⟨w.heap.size, 2, none⟩ = some (.string ta) ∧ W0.cell? ⟨w.heap.size + 1, 0, none⟩ = some (.int .i64 kb) ∧ W0.cell? ⟨w.heap.size + 1, 1, none⟩ = some (.int .i64 nb) ∧ W0.cell? ⟨w.heap.size + 1, 2, none⟩ = some (.string tb) ∧ w.heap.size + 1 < W0.heap.size ∧ Below w.heap.size w W0 := by
    subst hW0
    have hbz := Below.refl ((w.alloc (.cells #[.int .i64 ka, .int .i64 na, .string ta] 42)).alloc (.cells #[.int .i64 kb, .int .i64 nb, .string tb] 42)).heap.size ((w.alloc (.cells #[.int .i64 ka, .int .i64 na, .string ta] 42)).alloc (.cells #[.int .i64 kb, .int .i64 nb, .string tb] 42))
    obtain ⟨c0, c1, c2, _, _, _⟩ := cells3 hbz (two_lt _ _ _).1 (heap_two _ _ _).1
    obtain ⟨d0, d1, d2, _, _, _⟩ := cells3 hbz (two_lt _ _ _).2 (heap_two _ _ _).2
    exact ⟨c0, c1, c2, d0, d1, d2, (two_lt _ _ _).2, two_below _ _ _ hbz⟩
  rw [hW0]
  go_region_held3 (fun W => W.cell? ⟨w.heap.size, 0, none⟩ = some (.int .i64 ka) ∧ W.cell? ⟨w.heap.size, 1, none⟩ = some (.int .i64 na) ∧ W.cell? ⟨w.heap.size, 2, none⟩ = some (.string ta) ∧ W.cell? ⟨w.heap.size + 1, 0, none⟩ = some (.int .i64 kb) ∧ W.cell? ⟨w.heap.size + 1, 1, none⟩ = some (.int .i64 nb) ∧ W.cell? ⟨w.heap.size + 1, 2, none⟩ = some (.string tb) ∧ w.heap.size + 1 < W.heap.size ∧ Below w.heap.size w W) (first | assumption | exact keepT (by assumption) (by assumption) | exact keepT0 (by assumption)) (first
    | (go_at_call 24; refine (head2_any _ (litsT (by assumption) hL)).mono ?_; rintro e w3 ⟨rfl, hb3⟩)
    | (go_at_call 35; refine (vcmp_is _ _ _ _ _ _ _ _ hsa hsb r hr).mono ?_; rintro e w3 ⟨rfl, hb3⟩)
    | (go_at_call 36; refine (rcmp_is _ _ _ _ _ _ _ _ hsa hsb r hr).mono ?_; rintro e w3 ⟨rfl, hb3⟩)
    | (go_at_call 37; refine (vequal_is _ _ _ _ hsa hsb q hq).mono ?_; rintro e w3 ⟨rfl, hb3⟩)
    | (go_at_call 38; refine (rfold_is _ _ _ _ (by assumption) (by assumption)).mono ?_; rintro e w3 ⟨rfl, hb3⟩))
  all_goals (
    go_wp2
    go_ret
    exact ⟨rfl, by rename_i hh; exact hh.2.2.2.2.2.2.2⟩)

end Go.Proofs.YtiiaamkmnbegdaaDoor
