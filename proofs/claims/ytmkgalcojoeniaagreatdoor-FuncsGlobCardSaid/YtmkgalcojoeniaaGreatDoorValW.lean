/- Walks: May of package value and of the reference of layer 2. Walks: Print of package value. Walks: hex, guess and Read of package value. Walks: Read of package value. Walks: Digit and Print of the reference of layer 2. Walks: Print of the reference of layer 2 at a text, and whatever the kind; head of the statements of layer 2. -/
import Derived.Test.YtmkgalcojoeniaaGreatDoorPlain
import Derived.Test.YtmkgalcojoeniaaGreatDoorBuild
import Derived.Test.YtmkgalcojoeniaaGreatDoorLits
set_option maxRecDepth 100000
set_option linter.unusedVariables false
set_option linter.unusedSimpArgs false
namespace Go.Proofs.YtmkgalcojoeniaaGreatDoor
open Go.RowKit

theorem may_any (k n : Int) (t : ByteArray) (w : World) :
    Calls Tryz.prog 18 #[.agg #[.int .i64 k, .int .i64 n, .string t]] w fun e w' => e = .returned (.bool (Val.may ⟨k, n, t.data.toList⟩)) ∧ Below w.heap.size w w' := by
  have hl : t.data.toList.length = t.size := rfl
  go_enter Tryz.func18, Tryz.ntmps18
  go_wp2
  all_goals go_ret
  all_goals (refine ⟨ret_bool ?_, (Below.refl _ w).alloc (Nat.le_refl _) _⟩; rw [Bool.eq_iff_iff])
  all_goals simp_all [Val.may, Lib.toList_data]
  all_goals (try omega)

theorem rmay_any (k n : Int) (t : ByteArray) (w : World) :
    Calls Tryz.prog 57 #[.agg #[.int .i64 k, .int .i64 n, .string t]] w fun e w' => e = .returned (.bool (Val.may ⟨k, n, t.data.toList⟩)) ∧ Below w.heap.size w w' := by
  have hl : t.data.toList.length = t.size := rfl
  go_enter Tryz.func57, Tryz.ntmps57
  go_wp2
  all_goals go_ret
  all_goals (refine ⟨ret_bool ?_, (Below.refl _ w).alloc (Nat.le_refl _) _⟩; rw [Bool.eq_iff_iff])
  all_goals simp_all [Val.may, Lib.toList_data]
  all_goals (try omega)

theorem may_is {b : Bool} (k n : Int) (t : ByteArray) (w : World) (h : Hid (Val.may ⟨k, n, t.data.toList⟩ = b)) :
    Calls Tryz.prog 18 #[.agg #[.int .i64 k, .int .i64 n, .string t]] w fun e w' => e = .returned (.bool b) ∧ Below w.heap.size w w' :=
  (may_any k n t w).mono fun _ _ ⟨h1, h2⟩ => ⟨by rw [h1, h.out], h2⟩

theorem rmay_is {b : Bool} (k n : Int) (t : ByteArray) (w : World) (h : Hid (Val.may ⟨k, n, t.data.toList⟩ = b)) :
    Calls Tryz.prog 57 #[.agg #[.int .i64 k, .int .i64 n, .string t]] w fun e w' => e = .returned (.bool b) ∧ Below w.heap.size w w' :=
  (rmay_any k n t w).mono fun _ _ ⟨h1, h2⟩ => ⟨by rw [h1, h.out], h2⟩

end Go.Proofs.YtmkgalcojoeniaaGreatDoor

namespace Go.Proofs.YtmkgalcojoeniaaGreatDoor
open Go.RowKit

/-- what Print answers -/
def VPrintP (k n : Int) (t : ByteArray) (w : World) (e : Ending) (w' : World) : Prop :=
  e = .returned (.tuple #[.string (bs (Val.print ⟨k, n, t.data.toList⟩).1), .int .i64 ((Val.print ⟨k, n, t.data.toList⟩).2 : Int)]) ∧ Below w.heap.size w w'

end Go.Proofs.YtmkgalcojoeniaaGreatDoor

namespace Go.Proofs.YtmkgalcojoeniaaGreatDoor
open Go.RowKit

/-- what hex answers, as far as its caller looks -/
def HexP (s : ByteArray) (w : World) (e : Ending) (w' : World) : Prop :=
  ∃ x, e = .returned (.tuple #[.string x, .bool (Txt.unhex s.data.toList []).2]) ∧ ((Txt.unhex s.data.toList []).2 = true → x = bs (Txt.unhex s.data.toList []).1) ∧ Below w.heap.size w w'

theorem vint_any (n : Int) (w : World) :
    Calls Tryz.prog 81 #[.int .i64 n] w fun e w' => e = .returned (.agg #[.int .i64 1, .int .i64 n, .string ⟨#[]⟩]) ∧ Below w.heap.size w w' := by
  go_enter Tryz.func81, Tryz.ntmps81
  go_wp2
  refine bodyPost_ret (v := .agg #[.int .i64 1, .int .i64 n, .string ⟨#[]⟩]) (by simp only [results, Tryz.results81]; go_simp) rfl ?_
  refine ⟨rfl, ?_⟩
  repeat (first | exact Below.refl _ _ | refine Below.setCell ?_ (by simp) _ | refine Below.alloc ?_ (by simp) _)

/-- what guess answers -/
def GuessP (s : ByteArray) (w : World) (e : Ending) (w' : World) : Prop :=
  e = .returned (.agg #[.int .i64 (Val.guess s.data.toList).kind, .int .i64 (Val.guess s.data.toList).int, .string (bs (Val.guess s.data.toList).text)]) ∧ Below w.heap.size w w'

end Go.Proofs.YtmkgalcojoeniaaGreatDoor

namespace Go.Proofs.YtmkgalcojoeniaaGreatDoor
open Go.RowKit

/-- what Read answers -/
def ReadP (s : ByteArray) (w : World) (e : Ending) (w' : World) : Prop :=
  e = .returned (.tuple #[.agg #[.int .i64 (Val.read s.data.toList).1.kind, .int .i64 (Val.read s.data.toList).1.int, .string (bs (Val.read s.data.toList).1.text)], .int .i64 ((Val.read s.data.toList).2 : Int)]) ∧ Below w.heap.size w w'

end Go.Proofs.YtmkgalcojoeniaaGreatDoor

namespace Go.Proofs.YtmkgalcojoeniaaGreatDoor
open Go.RowKit

/-- what the reference's Print answers -/
def RPrintP (k n : Int) (t : ByteArray) (w : World) (e : Ending) (w' : World) : Prop :=
  e = .returned (.tuple #[.string (bs (Val.print ⟨k, n, t.data.toList⟩).1), .int .i64 ((Val.print ⟨k, n, t.data.toList⟩).2 : Int)]) ∧ Below w.heap.size w w'
end Go.Proofs.YtmkgalcojoeniaaGreatDoor

namespace Go.Proofs.YtmkgalcojoeniaaGreatDoor
open Go.RowKit

end Go.Proofs.YtmkgalcojoeniaaGreatDoor

