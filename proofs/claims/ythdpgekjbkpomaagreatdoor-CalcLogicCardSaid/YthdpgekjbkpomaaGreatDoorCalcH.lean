/- Walks: the head of the laws of layer 3. -/
import Derived.Test.YthdpgekjbkpomaaGreatDoorCalcB5
import Derived.Test.YthdpgekjbkpomaaGreatDoorCalcU
set_option maxRecDepth 100000
set_option linter.unusedVariables false
set_option linter.unusedSimpArgs false
namespace Go.Proofs.YthdpgekjbkpomaaGreatDoor
open Go.RowKit

/-- a block of three cells, kept over all that lies above -/
theorem keepV {w0 W W' : World} {B g : Nat} {x y z : Value} (h : W.cell? ⟨g, 0, none⟩ = some x ∧ W.cell? ⟨g, 1, none⟩ = some y ∧ W.cell? ⟨g, 2, none⟩ = some z ∧ g < W.heap.size ∧ B ≤ W.heap.size ∧ Below B w0 W) (hb : Below W.heap.size W W') :
    W'.cell? ⟨g, 0, none⟩ = some x ∧ W'.cell? ⟨g, 1, none⟩ = some y ∧ W'.cell? ⟨g, 2, none⟩ = some z ∧ g < W'.heap.size ∧ B ≤ W'.heap.size ∧ Below B w0 W' := by
  obtain ⟨h0, h1, h2, h3, h4, h5⟩ := h
  exact ⟨(hb.cell (p := ⟨g, 0, none⟩) h3).trans h0, (hb.cell (p := ⟨g, 1, none⟩) h3).trans h1, (hb.cell (p := ⟨g, 2, none⟩) h3).trans h2, Nat.lt_of_lt_of_le h3 hb.size, Nat.le_trans h4 hb.size, below_step h5 h4 hb⟩
theorem keepVd {w0 W : World} {B g : Nat} {x y z : Value} (h : W.cell? ⟨g, 0, none⟩ = some x ∧ W.cell? ⟨g, 1, none⟩ = some y ∧ W.cell? ⟨g, 2, none⟩ = some z ∧ g < W.heap.size ∧ B ≤ W.heap.size ∧ Below B w0 W) :
    W.drew.cell? ⟨g, 0, none⟩ = some x ∧ W.drew.cell? ⟨g, 1, none⟩ = some y ∧ W.drew.cell? ⟨g, 2, none⟩ = some z ∧ g < W.drew.heap.size ∧ B ≤ W.drew.heap.size ∧ Below B w0 W.drew := by
  obtain ⟨h0, h1, h2, h3, h4, h5⟩ := h
  exact ⟨h0, h1, h2, h3, h4, h5.drew⟩
theorem startV {w0 w : World} {B : Nat} (k n : Int) (t : ByteArray) (hb : Below B w0 w) (hB : B ≤ w.heap.size) : (w.alloc (.cells #[.int .i64 k, .int .i64 n, .string t] 24)).cell? ⟨w.heap.size, 0, none⟩ = some (.int .i64 k) ∧ (w.alloc (.cells #[.int .i64 k, .int .i64 n, .string t] 24)).cell? ⟨w.heap.size, 1, none⟩ = some (.int .i64 n) ∧ (w.alloc (.cells #[.int .i64 k, .int .i64 n, .string t] 24)).cell? ⟨w.heap.size, 2, none⟩ = some (.string t) ∧ w.heap.size < (w.alloc (.cells #[.int .i64 k, .int .i64 n, .string t] 24)).heap.size ∧ B ≤ (w.alloc (.cells #[.int .i64 k, .int .i64 n, .string t] 24)).heap.size ∧ Below B w0 (w.alloc (.cells #[.int .i64 k, .int .i64 n, .string t] 24)) := by
  obtain ⟨x0, x1, x2, _, _, _⟩ := cells3 (Below.refl (w.alloc (.cells #[.int .i64 k, .int .i64 n, .string t] 24)).heap.size (w.alloc (.cells #[.int .i64 k, .int .i64 n, .string t] 24))) (by simp) (heap_new w (.cells #[.int .i64 k, .int .i64 n, .string t] 24))
  exact ⟨x0, x1, x2, by simp, by simp; omega, hb.alloc hB _⟩

set_option maxHeartbeats 1000000 in
theorem head3_any (w : World) (hL : Lits w) : Calls Tryz.prog 13 #[] w fun e w' => e = .returned (.bool true) ∧ Below w.heap.size w w' := by
  have e5 : Val.binary 7 ⟨1, 2, (⟨#[]⟩ : ByteArray).data.toList⟩ ⟨1, 3, (⟨#[]⟩ : ByteArray).data.toList⟩ 0 = (⟨1, 5, (⟨#[]⟩ : ByteArray).data.toList⟩, 0) := by decide
  have e6 : Val.unary 7 ⟨1, 5, (⟨#[]⟩ : ByteArray).data.toList⟩ = (⟨0, 0, (⟨#[]⟩ : ByteArray).data.toList⟩, 130) := by decide
  replace e5 := Lib.hid e5
  replace e6 := Lib.hid e6
  go_enter Tryz.func13, Tryz.ntmps13
  go_wp2_with (first
    | (go_at_call_of 36 (Value.int IntKind.i64 2); refine (rint_any _ _).mono ?_; rintro e w1 ⟨rfl, hb1⟩)
    | (go_at_call_of 36 (Value.int IntKind.i64 3); refine (rint_any _ _).mono ?_; rintro e w2 ⟨rfl, hb2⟩; have hL2 := (hL.below hb1).below hb2)
    | (go_at_call 20; refine (cbinary_is 7 1 2 ⟨#[]⟩ 1 3 ⟨#[]⟩ 0 _ hL2 (by decide) (by decide) 1 5 ⟨#[]⟩ 0 e5).mono ?_; rintro e w3 ⟨rfl, hb3⟩; have hB3 := (hb1.trans (hb2.mono hb1.size)).trans (hb3.mono (Nat.le_trans hb1.size hb2.size)); have hV3 := startV 1 5 ⟨#[]⟩ hB3 (Nat.le_trans (Nat.le_trans hb1.size hb2.size) hb3.size); obtain ⟨c0, c1, c2, hz, hz', hB⟩ := id hV3; have hL3 := (hL2.below hb3).alloc (.cells #[.int .i64 1, .int .i64 5, .string ⟨#[]⟩] 24))
    | (go_at_call 18; refine (cunary_is 7 1 5 ⟨#[]⟩ _ hL3 (by decide) 0 0 ⟨#[]⟩ 130 e6).mono ?_; rintro e w4 ⟨rfl, hb4⟩; have hV4 := keepV (keepV hV3 hb4) (below_new w4 (.cells #[.int .i64 0, .int .i64 0, .string ⟨#[]⟩] 24))))
  go_region_held3 (fun W => W.cell? ⟨w3.heap.size, 0, none⟩ = some (.int .i64 1) ∧ W.cell? ⟨w3.heap.size, 1, none⟩ = some (.int .i64 5) ∧ W.cell? ⟨w3.heap.size, 2, none⟩ = some (.string ⟨#[]⟩) ∧ w3.heap.size < W.heap.size ∧ w.heap.size ≤ W.heap.size ∧ Below w.heap.size w W) (first | assumption | exact keepV (by assumption) (by assumption) | exact keepVd (by assumption)) (first
    | (go_at_call 36; refine (rint_any _ _).mono ?_; rintro e w5 ⟨rfl, hb5⟩))
  all_goals (
    go_wp2
    go_ret
    exact ⟨rfl, by rename_i hh; exact hh.2.2.2.2.2⟩)

end Go.Proofs.YthdpgekjbkpomaaGreatDoor
