/- What the walks ask of the library: ReplaceAll, the variable that it reads, texts put together. -/
import Derived.Test.YtdapnemcdgjeeaaGreatDoorProg
import Derived.Test.YtdapnemcdgjeeaaGreatDoorShelf
import Derived.Test.YtdapnemcdgjeeaaGreatDoorPlain
import Derived.Test.YtdapnemcdgjeeaaGreatDoorBase
set_option maxRecDepth 100000
set_option linter.unusedVariables false
set_option linter.unusedSimpArgs false
namespace Go.Proofs.YtdapnemcdgjeeaaGreatDoor
open Go.RowKit

/-- the library's variable that tells how long a text it searches at once holds some number -/
def MaxL (w : World) : Prop := ∃ m, w.cell? ⟨0, 0, none⟩ = some (.int .i64 m) ∧ 0 < w.heap.size
theorem MaxL.below {w w' : World} (h : MaxL w) (hb : Below w.heap.size w w') : MaxL w' := by
  obtain ⟨m, h1, h2⟩ := h
  exact ⟨m, (hb.cell (p := ⟨0, 0, none⟩) h2).trans h1, Nat.lt_of_lt_of_le h2 hb.size⟩
theorem MaxL.alloc {w : World} (h : MaxL w) (o : Obj) : MaxL (w.alloc o) := h.below ((Below.refl _ w).alloc (Nat.le_refl _) o)

theorem bs_app (a b : List UInt8) : bs a ++ bs b = bs (a ++ b) := by
  apply ByteArray.ext
  simp [bs, ByteArray.data_append]
theorem bs_one (c : UInt8) : (⟨#[c]⟩ : ByteArray) = bs [c] := rfl
theorem bs_two (c d : UInt8) : (⟨#[c, d]⟩ : ByteArray) = bs [c, d] := rfl

theorem toList_own (l : List UInt8) : (bs l).toList = l := Lib.toList_data (bs l)

end Go.Proofs.YtdapnemcdgjeeaaGreatDoor
