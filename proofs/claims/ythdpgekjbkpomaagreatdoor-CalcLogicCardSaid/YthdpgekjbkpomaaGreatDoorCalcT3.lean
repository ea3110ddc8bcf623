/- Walks: 'three' and 'truth' where their results are named. -/
import Derived.Test.YthdpgekjbkpomaaGreatDoorCalcW1
set_option maxRecDepth 100000
set_option linter.unusedVariables false
set_option linter.unusedSimpArgs false
namespace Go.Proofs.YthdpgekjbkpomaaGreatDoor
open Go.RowKit

theorem cthree_yes (b : Bool) (n : Int) (hn : Hid ((if b = true then (1 : Int) else 0) = n)) (w : World) : Calls Tryz.prog 54 #[.bool b, .bool true] w (VRet 1 n ⟨#[]⟩ w) :=
  (cthree_any b true w).mono fun _ _ ⟨h1, h2⟩ => ⟨by rw [h1, ← hn.out]; simp, h2⟩
theorem cthree_no (b : Bool) (w : World) : Calls Tryz.prog 54 #[.bool b, .bool false] w (VRet 0 0 ⟨#[]⟩ w) :=
  (cthree_any b false w).mono fun _ _ ⟨h1, h2⟩ => ⟨by rw [h1]; simp, h2⟩
theorem ctruth_is (b : Bool) (n : Int) (hn : Hid ((if b = true then (1 : Int) else 0) = n)) (w : World) : Calls Tryz.prog 63 #[.bool b] w (VRet 1 n ⟨#[]⟩ w) :=
  (ctruth_any b w).mono fun _ _ ⟨h1, h2⟩ => ⟨by rw [h1, hn.out], h2⟩

end Go.Proofs.YthdpgekjbkpomaaGreatDoor
