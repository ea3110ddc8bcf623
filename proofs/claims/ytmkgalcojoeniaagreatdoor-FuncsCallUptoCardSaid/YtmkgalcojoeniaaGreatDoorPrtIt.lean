/- Print of both sides, whatever a value's size. -/
import Derived.Test.YtmkgalcojoeniaaGreatDoorValW
set_option maxRecDepth 100000
set_option linter.unusedVariables false
set_option linter.unusedSimpArgs false
namespace Go.Proofs.YtmkgalcojoeniaaGreatDoor
open Go.RowKit

theorem may_size {k n : Int} {t : ByteArray} (h : Val.may ⟨k, n, t.data.toList⟩ = true) : t.size ≤ 1048576 := by
  have e : t.data.toList.length = t.size := rfl
  have := Val.may_iff.1 h
  simp only at this
  rcases this with h | h | h
  · rw [h.2.2] at e; simp at e; omega
  · rw [h.2] at e; simp at e; omega
  · omega
theorem vprint_it {y : List UInt8} {E : Nat} (k n : Int) (t : ByteArray) (w : World) (h : Hid (Val.print ⟨k, n, t.data.toList⟩ = (y, E))) (h0 : -9223372036854775808 ≤ n) (h1 : n ≤ 9223372036854775807) (hL : Lits w) :
    Calls Tryz.prog 43 #[.agg #[.int .i64 k, .int .i64 n, .string t]] w fun e w' => e = .returned (.tuple #[.string (bs y), .int .i64 (E : Int)]) ∧ Below w.heap.size w w' := by
  cases hm : Val.may ⟨k, n, t.data.toList⟩ with
  | false => exact (vprint_no k n t w hm).mono fun _ _ ⟨h2, h3⟩ => ⟨by rw [h2, h.out], h3⟩
  | true => exact vprint_is k n t w h (may_size hm) h0 h1 hL
theorem rprint_it {y : List UInt8} {E : Nat} (k n : Int) (t : ByteArray) (w : World) (h : Hid (Val.print ⟨k, n, t.data.toList⟩ = (y, E))) (h0 : -9223372036854775808 ≤ n) (h1 : n ≤ 9223372036854775807) (hL : Lits w) :
    Calls Tryz.prog 60 #[.agg #[.int .i64 k, .int .i64 n, .string t]] w fun e w' => e = .returned (.tuple #[.string (bs y), .int .i64 (E : Int)]) ∧ Below w.heap.size w w' := by
  cases hm : Val.may ⟨k, n, t.data.toList⟩ with
  | false => exact (rprint_no k n t w hm).mono fun _ _ ⟨h2, h3⟩ => ⟨by rw [h2, h.out], h3⟩
  | true => exact rprint_is k n t w h (may_size hm) h0 h1 hL

end Go.Proofs.YtmkgalcojoeniaaGreatDoor
