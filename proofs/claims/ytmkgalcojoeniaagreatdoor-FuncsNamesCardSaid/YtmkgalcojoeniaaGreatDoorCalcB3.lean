/- Walks: a difference, two texts put together, what compares two values, the logic of three values. -/
import Derived.Test.YtmkgalcojoeniaaGreatDoorCalcB2
import Derived.Test.YtmkgalcojoeniaaGreatDoorBlk
import Derived.Deep.RegionHeld3
set_option maxRecDepth 100000
set_option linter.unusedVariables false
set_option linter.unusedSimpArgs false
namespace Go.Proofs.YtmkgalcojoeniaaGreatDoor
open Go.RowKit

set_option maxHeartbeats 2000000 in
theorem csub_is (ka na : Int) (ta : ByteArray) (kb nb : Int) (tb : ByteArray) (w : World) (hL : Lits w) (ha : Val.inr na) (hb : Val.inr nb) (k n : Int)
    (hv : Hid ((if (Val.num ⟨ka, na, ta.data.toList⟩).kind = 0 ∨ (Val.num ⟨kb, nb, tb.data.toList⟩).kind = 0 then Val.zero else doV (qsub (Val.num ⟨ka, na, ta.data.toList⟩).int (Val.num ⟨kb, nb, tb.data.toList⟩).int)) = ⟨k, n, []⟩)) :
    Calls Tryz.prog 163 #[.agg #[.int .i64 ka, .int .i64 na, .string ta], .agg #[.int .i64 kb, .int .i64 nb, .string tb]] w (VRet k n ⟨#[]⟩ w) := by
  have hS := ofS2 (start3 w (.int .i64 ka) (.int .i64 na) (.string ta) (.int .i64 kb) (.int .i64 nb) (.string tb) (.int .i64 0) (.int .i64 0) (.string ⟨#[]⟩) 25 25 25)
  have hah := Lib.hid ha
  have hbh := Lib.hid hb
  clear ha hb
  go_enter Tryz.func163, Tryz.ntmps163
  go_wp2_with fail
  go_region_held3 (fun W => W.cell? ⟨w.heap.size, 0, none⟩ = some (.int .i64 ka) ∧ W.cell? ⟨w.heap.size, 1, none⟩ = some (.int .i64 na) ∧ W.cell? ⟨w.heap.size, 2, none⟩ = some (.string ta) ∧ W.frozen? ⟨w.heap.size, 0, none⟩ = false ∧ W.frozen? ⟨w.heap.size, 1, none⟩ = false ∧ W.frozen? ⟨w.heap.size, 2, none⟩ = false ∧ W.cell? ⟨w.heap.size + 1, 0, none⟩ = some (.int .i64 kb) ∧ W.cell? ⟨w.heap.size + 1, 1, none⟩ = some (.int .i64 nb) ∧ W.cell? ⟨w.heap.size + 1, 2, none⟩ = some (.string tb) ∧ W.frozen? ⟨w.heap.size + 1, 0, none⟩ = false ∧ W.frozen? ⟨w.heap.size + 1, 1, none⟩ = false ∧ W.frozen? ⟨w.heap.size + 1, 2, none⟩ = false ∧ W.cell? ⟨w.heap.size + 1 + 1, 0, none⟩ = some (peek W (w.heap.size + 1 + 1) 0) ∧ W.cell? ⟨w.heap.size + 1 + 1, 1, none⟩ = some (peek W (w.heap.size + 1 + 1) 1) ∧ W.cell? ⟨w.heap.size + 1 + 1, 2, none⟩ = some (peek W (w.heap.size + 1 + 1) 2) ∧ W.frozen? ⟨w.heap.size + 1 + 1, 0, none⟩ = false ∧ W.frozen? ⟨w.heap.size + 1 + 1, 1, none⟩ = false ∧ W.frozen? ⟨w.heap.size + 1 + 1, 2, none⟩ = false ∧ w.heap.size + 1 + 1 < W.heap.size ∧ Below w.heap.size w W) (first | assumption | exact keepP2 (by assumption) (by assumption) | exact keepPd2 (by assumption) | exact putP2 (by assumption)) (first
    | (go_at_call 197; refine (both_any _ _).mono ?_; rintro e w1 ⟨g, rfl, hg, hgl, hb1⟩)
    | (go_at_call 220; refine (both_is 198 qsub (fun _ _ => by kernel_rfl) (fun x y w hx hy => csub_any x y w hx hy) _ _ _ _ _ _ _ _ (hL.below (belowP2 (by assumption))) hg hgl hah.out hbh.out _ _ hv).mono ?_; rintro e w2 ⟨rfl, hb2⟩; have hP2 := keepP2 (w := w) (by assumption) hb2))
  all_goals (
    rename_i hh
    have hB := belowP2 hh
    clear hh
    obtain ⟨cb0, cb1, cb2, cb3, cb4, cb5, cb6, cb7, cb8, cb9, cb10, cb11, cb12, cb13, cb14, cb15, cb16, cb17, hz2, hB2⟩ := hP2
    go_wp2
    exact bodyPost_ret (v := .agg #[.int .i64 k, .int .i64 n, .string ⟨#[]⟩]) (by simp only [results, Tryz.results163]; go_simp) rfl ⟨rfl, hB⟩)

end Go.Proofs.YtmkgalcojoeniaaGreatDoor
