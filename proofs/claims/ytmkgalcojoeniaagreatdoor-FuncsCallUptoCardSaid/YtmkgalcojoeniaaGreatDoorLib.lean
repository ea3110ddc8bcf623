/- What the walks ask of the library: ReplaceAll, the variable that it reads, texts put together. -/
import Derived.Test.YtmkgalcojoeniaaGreatDoorProg
import Derived.Test.YtmkgalcojoeniaaGreatDoorShelf
import Derived.Test.YtmkgalcojoeniaaGreatDoorPlain
import Derived.Test.YtmkgalcojoeniaaGreatDoorBase
set_option maxRecDepth 100000
set_option linter.unusedVariables false
set_option linter.unusedSimpArgs false
namespace Go.Proofs.YtmkgalcojoeniaaGreatDoor
open Go.RowKit

/-- the library's variable that tells how long a text it searches at once holds some number -/
def MaxL (w : World) : Prop := ∃ m, w.cell? ⟨0, 0, none⟩ = some (.int .i64 m) ∧ 0 < w.heap.size
theorem MaxL.below {w w' : World} (h : MaxL w) (hb : Below w.heap.size w w') : MaxL w' := by
  obtain ⟨m, h1, h2⟩ := h
  exact ⟨m, (hb.cell (p := ⟨0, 0, none⟩) h2).trans h1, Nat.lt_of_lt_of_le h2 hb.size⟩
theorem MaxL.alloc {w : World} (h : MaxL w) (o : Obj) : MaxL (w.alloc o) := h.below ((Below.refl _ w).alloc (Nat.le_refl _) o)

theorem bs_app (a b : List UInt8) : bs a ++ bs b = bs (a ++ b) := by
  apply ByteArray.ext
  simp [bs, ByteArray.data_append]
theorem bs_one (c : UInt8) : (⟨#[c]⟩ : ByteArray) = bs [c] := rfl
theorem replace_any (t : ByteArray) (w : World) (hM : MaxL w) (hs : t.size ≤ 1048576) :
    Calls Tryz.prog 93 #[.string t, .string ⟨#[39]⟩, .string ⟨#[39, 39]⟩] w fun e w' => e = .returned (.string (bs (Tok.dbl t.data.toList))) ∧ Below w.heap.size w w' := by
  obtain ⟨m, h1, _⟩ := hM
  have hc := Lib.countB_le (⟨#[39]⟩ : ByteArray) (by decide) t.size t (Nat.le_refl _)
  refine (Tryz.strings_ReplaceAll t ⟨#[39]⟩ ⟨#[39, 39]⟩ m w (by omega) h1 (by decide) ?_).mono fun e w' ⟨he, hb⟩ => ⟨?_, hb⟩
  · have e2 : (⟨#[39, 39]⟩ : ByteArray).size = 2 := rfl
    rw [e2]; omega
  · rw [he]
    have := Tok.replaceAll_dbl t.data.toList
    show Ending.returned (.string (bs (Lib.replaceAll t.data.toList [39] [39, 39]))) = _
    rw [this]

end Go.Proofs.YtmkgalcojoeniaaGreatDoor
