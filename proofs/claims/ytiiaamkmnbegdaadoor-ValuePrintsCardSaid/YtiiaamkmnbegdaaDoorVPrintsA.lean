/- Walks: the law ValuePrints, of a value of any size. -/
import Derived.Test.YtiiaamkmnbegdaaDoorPrtIt
namespace Go.Proofs.YtiiaamkmnbegdaaDoor
set_option maxRecDepth 100000
set_option linter.unusedVariables false
set_option linter.unusedSimpArgs false
open Go.RowKit

theorem value_prints (k n : Int) (t : ByteArray) (w : World) (h0 : -9223372036854775808 ≤ n) (h1 : n ≤ 9223372036854775807) (hL : Lits w) :
    Calls Tryd.prog 7 #[.agg #[.int .i64 k, .int .i64 n, .string t]] w fun e w' => e = .returned (.bool true) ∧ Below w.heap.size w w' := by
  obtain ⟨⟨y, E⟩, hp⟩ : ∃ q, Val.print ⟨k, n, t.data.toList⟩ = q := ⟨_, rfl⟩
  replace hp := Lib.hid hp
  go_enter Tryd.func7, Tryd.ntmps7
  go_wp2_with (first
    | (go_at_call 22; refine (vprint_it k n t _ hp h0 h1 (hL.alloc _)).mono ?_; rintro e w1 ⟨rfl, hb1⟩; obtain ⟨c0, c1, c2, _, _, _⟩ := cells3 hb1 (by simp) (heap_new _ _); have hB1 : Below w.heap.size w w1 := ((Below.refl _ w).alloc (Nat.le_refl _) _).trans (hb1.mono (by simp)); have hL1 := (hL.alloc _).below hb1)
    | (go_at_call 23; refine (rprint_it k n t _ hp h0 h1 hL1).mono ?_; rintro e w2 ⟨rfl, hb2⟩)
    | (go_at_call 24; refine (head2_any _ (hL1.below hb2)).mono ?_; rintro e w3 ⟨rfl, hb3⟩))
  go_ret
  exact ⟨rfl, (hB1.trans (hb2.mono hB1.size)).trans (hb3.mono (Nat.le_trans hB1.size hb2.size))⟩

end Go.Proofs.YtiiaamkmnbegdaaDoor
