/- Walks: the law CalcLogic where a value may not be. -/
import Derived.Test.YthdpgekjbkpomaaGreatDoorCalcTw
import Derived.Test.YthdpgekjbkpomaaGreatDoorBlkK
set_option maxRecDepth 100000
set_option linter.unusedVariables false
set_option linter.unusedSimpArgs false
namespace Go.Proofs.YthdpgekjbkpomaaGreatDoor
open Go.RowKit

theorem calc_logic_bad1 (ka na : Int) (ta : ByteArray) (kb nb : Int) (tb : ByteArray) (c : Int) (w : World) (hL : Lits w) (hm1 : Val.may ⟨ka, na, ta.data.toList⟩ = false) :
    Calls Tryz.prog 7 #[.agg #[.int .i64 ka, .int .i64 na, .string ta], .agg #[.int .i64 kb, .int .i64 nb, .string tb], .int .i64 c] w fun e w' => e = .returned (.bool true) ∧ Below w.heap.size w w' := by
  have hS := startK2 (start2 w (.int .i64 ka) (.int .i64 na) (.string ta) (.int .i64 kb) (.int .i64 nb) (.string tb) 24 24)
  replace hm1 := Lib.hid hm1
  go_enter Tryz.func7, Tryz.ntmps7
  go_wp2_with (first
    | (go_at_call 13; refine (head3_any _ (hL.below (belowK2 hS))).mono ?_; rintro e w1 ⟨rfl, hb1⟩; have hS1 := keepK2 hS hb1; obtain ⟨ka00, ka01, ka02, ka03, ka10, ka11, ka12, ka13, kas, kaB⟩ := id hS1)
    | (go_at_call 25; refine (rmay_is _ _ _ _ hm1).mono ?_; rintro e w2 ⟨rfl, hb2⟩; have hS2 := keepK2 hS1 hb2; obtain ⟨kb00, kb01, kb02, kb03, kb10, kb11, kb12, kb13, kbs, kbB⟩ := id hS2))
  go_ret
  exact ⟨rfl, belowK2 hS2⟩
theorem calc_logic_bad2 (ka na : Int) (ta : ByteArray) (kb nb : Int) (tb : ByteArray) (c : Int) (w : World) (hL : Lits w) (hm1 : Val.may ⟨ka, na, ta.data.toList⟩ = true) (hm2 : Val.may ⟨kb, nb, tb.data.toList⟩ = false) :
    Calls Tryz.prog 7 #[.agg #[.int .i64 ka, .int .i64 na, .string ta], .agg #[.int .i64 kb, .int .i64 nb, .string tb], .int .i64 c] w fun e w' => e = .returned (.bool true) ∧ Below w.heap.size w w' := by
  have hS := startK2 (start2 w (.int .i64 ka) (.int .i64 na) (.string ta) (.int .i64 kb) (.int .i64 nb) (.string tb) 24 24)
  replace hm1 := Lib.hid hm1
  replace hm2 := Lib.hid hm2
  go_enter Tryz.func7, Tryz.ntmps7
  go_wp2_with (first
    | (go_at_call 13; refine (head3_any _ (hL.below (belowK2 hS))).mono ?_; rintro e w1 ⟨rfl, hb1⟩; have hS1 := keepK2 hS hb1; obtain ⟨ka00, ka01, ka02, ka03, ka10, ka11, ka12, ka13, kas, kaB⟩ := id hS1)
    | (go_at_call 25; first
      | (have hq9 := hS2; refine (rmay_is _ _ _ _ hm2).mono ?_; rintro e w3 ⟨rfl, hb3⟩; have hS3 := keepK2 hS2 hb3)
      | (refine (rmay_is _ _ _ _ hm1).mono ?_; rintro e w2 ⟨rfl, hb2⟩; have hS2 := keepK2 hS1 hb2; obtain ⟨kb00, kb01, kb02, kb03, kb10, kb11, kb12, kb13, kbs, kbB⟩ := id hS2)))
  go_ret
  exact ⟨rfl, belowK2 hS3⟩

end Go.Proofs.YthdpgekjbkpomaaGreatDoor
