/- Walks: the reference's Fits: what has been found so far, in memory; what is known is answered. Walks: the reference's Fits, case by case: LIKE. Walks: the reference's Fits at LIKE: its cases joined. -/
import Derived.Test.YtmkgalcojoeniaaGreatDoorBlk
import Derived.Test.YtmkgalcojoeniaaGreatDoorFitP
import Derived.Test.YtmkgalcojoeniaaGreatDoorBelow
import Derived.Laws.MakeOwn
import Derived.BigQuiet
import Derived.Deep.QuietTactic
set_option maxRecDepth 100000
set_option linter.unusedVariables false
set_option linter.unusedSimpArgs false
namespace Go.Proofs.YtmkgalcojoeniaaGreatDoor
open Go.RowKit

def codeB (b : Bool) : Int := if b = true then 2 else 1
/-- what has been found so far: 0 nothing, 1 no, 2 yes -/
def Memo (W : World) (gk n m : Nat) (val : Nat → Nat → Bool) : Prop := gk < W.heap.size ∧ ∀ i j, i ≤ n → j ≤ m → ∃ v : Int, W.cell? ⟨gk, i * (m + 1) + j, none⟩ = some (.int .i64 v) ∧ W.frozen? ⟨gk, i * (m + 1) + j, none⟩ = false ∧ (v = 0 ∨ v = codeB (val i j))
theorem place_inj {m i j i' j' : Nat} (hj : j ≤ m) (hj' : j' ≤ m) (h : i * (m + 1) + j = i' * (m + 1) + j') : i = i' ∧ j = j' := by
  have e1 : (i * (m + 1) + j) / (m + 1) = i := by
    rw [Nat.mul_comm, Nat.mul_add_div (by omega), Nat.div_eq_of_lt (by omega), Nat.add_zero]
  have e2 : (i' * (m + 1) + j') / (m + 1) = i' := by
    rw [Nat.mul_comm, Nat.mul_add_div (by omega), Nat.div_eq_of_lt (by omega), Nat.add_zero]
  have : i = i' := by rw [← e1, ← e2, h]
  subst this
  exact ⟨rfl, by omega⟩
theorem place_lt {n m i j : Nat} (hi : i ≤ n) (hj : j ≤ m) : i * (m + 1) + j < (n + 1) * (m + 1) := by
  have := Nat.mul_le_mul_right (m + 1) hi
  rw [Nat.succ_mul]
  omega
theorem Memo.on {W W' : World} {gk n m : Nat} {val : Nat → Nat → Bool} (h : Memo W gk n m val) (hb : Below W.heap.size W W') : Memo W' gk n m val :=
  ⟨Nat.lt_of_lt_of_le h.1 hb.size, fun i j hi hj => by
    obtain ⟨v, h1, h2, h3⟩ := h.2 i j hi hj
    exact ⟨v, (hb.cell (p := ⟨gk, _, none⟩) h.1).trans h1, (hb.frozen (p := ⟨gk, _, none⟩) h.1).trans h2, h3⟩⟩
theorem Memo.drew {W : World} {gk n m : Nat} {val : Nat → Nat → Bool} (h : Memo W gk n m val) : Memo W.drew gk n m val := h.on (Below.refl _ _).drew
theorem Memo.set {W : World} {gk n m : Nat} {val : Nat → Nat → Bool} (h : Memo W gk n m val) {i j : Nat} (hi : i ≤ n) (hj : j ≤ m) (hv : val i j = false) : Memo (W.setCell ⟨gk, i * (m + 1) + j, none⟩ (.int .i64 1)) gk n m val := by
  refine ⟨by simp [World.setCell]; exact h.1, fun i' j' hi' hj' => ?_⟩
  obtain ⟨v, h1, h2, h3⟩ := h.2 i' j' hi' hj'
  by_cases e : i * (m + 1) + j = i' * (m + 1) + j'
  · obtain ⟨rfl, rfl⟩ := place_inj hj hj' e
    exact ⟨1, cs h1, by rw [World.frozen?_setCell]; exact h2, .inr (by rw [hv]; rfl)⟩
  · exact ⟨v, (co (fun h => e (congrArg Addr.off h))).trans h1, by rw [World.frozen?_setCell]; exact h2, h3⟩
/-- what Fits answers -/
def RetFits (gk N n m : Nat) (val : Nat → Nat → Bool) (b : Bool) (w : World) (e : Ending) (w' : World) : Prop := e = .returned (.tuple #[.slice (some ⟨gk, 0, none⟩) N N, .bool b]) ∧ Memo w' gk n m val ∧ Below gk w w'

end Go.Proofs.YtmkgalcojoeniaaGreatDoor

namespace Go.Proofs.YtmkgalcojoeniaaGreatDoor
open Go.RowKit
end Go.Proofs.YtmkgalcojoeniaaGreatDoor

namespace Go.Proofs.YtmkgalcojoeniaaGreatDoor
open Go.RowKit

/-- does the text from i on fit the pattern of LIKE from j on? -/
def valL (s p : ByteArray) (i j : Nat) : Bool := Fit.fit (Fit.like (p.data.toList.drop j)) (s.data.toList.drop i)
end Go.Proofs.YtmkgalcojoeniaaGreatDoor

