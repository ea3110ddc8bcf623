/- The world's shape gives the library's variable a number. -/
import Derived.Test.YtiiaamkmnbegdaaDoorPrtW
import Derived.Shelf.Vars
namespace Go.Proofs.YtiiaamkmnbegdaaDoor
set_option maxRecDepth 100000
open Go.RowKit

theorem maxL_shaped {w : World} (h : w.ShapedOpen Tryd.prog) : MaxL w := by
  obtain ⟨m, hm⟩ := Go.Proofs.cell_of_shapedOpen_int (zero := #[.int .i64 0]) (t := 3) (g := 0) h (of_decide_eq_true (by kernel_rfl)) (by kernel_rfl) rfl (by kernel_rfl) (by kernel_rfl) Tryd.underlying3
  refine ⟨m, hm, ?_⟩
  rcases Nat.lt_or_ge 0 w.heap.size with h' | h'
  · exact h'
  · simp [World.cell?, Array.getElem?_eq_none h'] at hm

end Go.Proofs.YtiiaamkmnbegdaaDoor
