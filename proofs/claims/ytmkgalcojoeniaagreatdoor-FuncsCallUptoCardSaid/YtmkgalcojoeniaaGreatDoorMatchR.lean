/- Walks: the reference's Match at LIKE. -/
import Derived.Test.YtmkgalcojoeniaaGreatDoorFitsK
import Derived.Test.YtmkgalcojoeniaaGreatDoorLkM
import Derived.Test.YtmkgalcojoeniaaGreatDoorCalcRa
set_option maxRecDepth 100000
set_option linter.unusedVariables false
set_option linter.unusedSimpArgs false
namespace Go.Proofs.YtmkgalcojoeniaaGreatDoor
open Go.RowKit

theorem rlower_any (s : ByteArray) (w : World) (hs : s.size ≤ 1048576) (t : ByteArray) (ht : Hid (bs (s.data.toList.map Txt.lower) = t)) : Calls Tryz.prog 15 #[.string s] w fun e w' => e = .returned (.string t) ∧ Below w.heap.size w w' := by
  have hf := fold_one s w (by omega)
  rw [ht.out] at hf
  go_enter Tryz.func15, Tryz.ntmps15
  go_wp2_with (go_at_call 38; refine hf.mono ?_; rintro e w1 ⟨rfl, hb1⟩)
  go_ret
  exact ⟨rfl, hb1⟩
def madeI (N : Nat) : Array Value := madeCells #[.int .i64 0] N
theorem madeI_at (N j : Nat) (h : j < N) : (madeI N)[j]? = some (.int .i64 0) := by
  unfold madeI madeCells
  simp [h, Nat.mod_one]
theorem Memo.new (W : World) (n m : Nat) (val : Nat → Nat → Bool) : Memo (W.alloc (.cells (madeI ((n + 1) * (m + 1))) 3)) W.heap.size n m val := by
  have hh := heap_new W (.cells (madeI ((n + 1) * (m + 1))) 3)
  obtain ⟨W', hW'⟩ : ∃ W', W.alloc (.cells (madeI ((n + 1) * (m + 1))) 3) = W' := ⟨_, rfl⟩
  rw [hW'] at hh ⊢
  refine ⟨(Array.getElem?_eq_some_iff.1 hh).1, fun i j hi hj => ⟨0, ?_, ?_, .inl rfl⟩⟩
  · rw [cell_of_row _ _ _ _ _ _ hh]; exact madeI_at _ _ (place_lt hi hj)
  · simp [World.frozen?, hh]

end Go.Proofs.YtmkgalcojoeniaaGreatDoor
