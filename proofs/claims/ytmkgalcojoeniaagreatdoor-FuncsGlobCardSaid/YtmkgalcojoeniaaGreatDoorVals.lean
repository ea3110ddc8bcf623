/- A slice of values in memory that was there. -/
import Derived.Test.YtmkgalcojoeniaaGreatDoorValW
set_option maxRecDepth 100000
set_option linter.unusedVariables false
set_option linter.unusedSimpArgs false
namespace Go.Proofs.YtmkgalcojoeniaaGreatDoor
open Go.RowKit

/-- a slice of values in memory that was there -/
def ValsAt (W : World) (p : Option Addr) (N : Nat) (vs : List Val.V) : Prop :=
  vs.length = N ∧ (vs = [] ∨ ∃ b off, p = some ⟨b, off, none⟩ ∧ b < W.heap.size ∧ ∀ k v, vs[k]? = some v → W.cell? ⟨b, off + k * 3, none⟩ = some (.int .i64 v.kind) ∧ W.cell? ⟨b, off + k * 3 + 1, none⟩ = some (.int .i64 v.int) ∧ W.cell? ⟨b, off + k * 3 + 2, none⟩ = some (.string (bs v.text)))
theorem ValsAt.below {W W' : World} {p : Option Addr} {N : Nat} {vs : List Val.V} (h : ValsAt W p N vs) (hb : Below W.heap.size W W') : ValsAt W' p N vs := by
  obtain ⟨h1, h2⟩ := h
  refine ⟨h1, ?_⟩
  rcases h2 with h2 | ⟨b, off, rfl, hl, hc⟩
  · exact .inl h2
  · refine .inr ⟨b, off, rfl, Nat.lt_of_lt_of_le hl hb.size, fun k g hk => ?_⟩
    obtain ⟨c0, c1, c2⟩ := hc k g hk
    exact ⟨(hb.cell (p := ⟨b, _, none⟩) hl).trans c0, (hb.cell (p := ⟨b, _, none⟩) hl).trans c1, (hb.cell (p := ⟨b, _, none⟩) hl).trans c2⟩

/-- the cells of values -/
def valC (l : List Val.V) : List Value := l.flatMap fun v => [.int .i64 v.kind, .int .i64 v.int, .string (bs v.text)]
/-- may a row be: the error's number -/
def vcheck (vs : List Val.V) : Nat := if vs.all Val.may = true then (if 16 < vs.length then 3 else 0) else 2
end Go.Proofs.YtmkgalcojoeniaaGreatDoor
