/- Walks: Glob (package funcs). -/
import Derived.Test.YtmkgalcojoeniaaGreatDoorGbW2
import Derived.Test.YtmkgalcojoeniaaGreatDoorLkM
set_option maxRecDepth 100000
set_option linter.unusedVariables false
set_option linter.unusedSimpArgs false
namespace Go.Proofs.YtmkgalcojoeniaaGreatDoor
open Go.RowKit

theorem globas_any (t : ByteArray) (W : World) (ht : t.size ≤ 400) : Calls Tryz.prog 52 #[.string t] W fun e w' => (e = .returned (.string (bs t.data.toList)) ∧ Below W.heap.size W w') ∧ t.data.toList.length ≤ 400 := by
  go_enter Tryz.func52, Tryz.ntmps52
  go_wp2
  go_ret
  exact ⟨⟨rfl, Below.refl _ _⟩, ht⟩

set_option maxHeartbeats 2000000 in
theorem fglob_is (ka na : Int) (ta : ByteArray) (kb nb : Int) (tb : ByteArray) (w : World) (hL : Lits w) (ha : Val.inr na) (hb : Val.inr nb) (k n : Int) (hv : Hid (matchV (fun l => l) Fit.globL ⟨ka, na, ta.data.toList⟩ ⟨kb, nb, tb.data.toList⟩ = ⟨k, n, []⟩)) :
    Calls Tryz.prog 24 #[.agg #[.int .i64 ka, .int .i64 na, .string ta], .agg #[.int .i64 kb, .int .i64 nb, .string tb]] w (VRet k n ⟨#[]⟩ w) := by
  have hS0 : M3 w (((w.alloc (.cells #[.int .i64 ka, .int .i64 na, .string ta] 25)).alloc (.cells #[.int .i64 kb, .int .i64 nb, .string tb] 25)).alloc (.cells #[.int .i64 0, .int .i64 0, .string ⟨#[]⟩] 25)) ka na ta kb nb tb := M3.new ..
  have hmt := matched_is (PS := Fit.globL) (AS := (fun l => l)) 51 52 (enters_of Tryz.func52 (by kernel_rfl) rfl) (enters_of Tryz.func51 (by kernel_rfl) rfl) (fun t W h => globas_any t W h) (fun t W h => glob_any t W (by omega)) ⟨fun t h => h, fun t h => Nat.le_trans (Fit.globL_len _) h⟩ ka na ta kb nb tb _ (((hL.alloc (.cells #[.int .i64 ka, .int .i64 na, .string ta] 25)).alloc (.cells #[.int .i64 kb, .int .i64 nb, .string tb] 25)).alloc (.cells #[.int .i64 0, .int .i64 0, .string ⟨#[]⟩] 25)) ha hb k n hv
  obtain ⟨a0, a1, a2, a3, a4, a5⟩ := hS0.1.cells
  obtain ⟨a6, a7, a8, a9, a10, a11⟩ := hS0.2.1.cells
  replace hmt := Lib.hid hmt
  clear ha hb hv hL
  go_enter Tryz.func24, Tryz.ntmps24
  go_wp2_with (go_at_call 44; refine hmt.out.mono ?_; rintro e w1 ⟨rfl, hb1⟩; have hS1 := hS0.on hb1; obtain ⟨b0, b1, b2, b3, b4, b5⟩ := hS1.2.2.1.cells)
  exact bodyPost_ret (v := .agg #[.int .i64 k, .int .i64 n, .string ⟨#[]⟩]) (by simp only [results, Tryz.results24]; go_simp) rfl ⟨rfl, below_put hS1.2.2.2 (by omega)⟩

end Go.Proofs.YtmkgalcojoeniaaGreatDoor
