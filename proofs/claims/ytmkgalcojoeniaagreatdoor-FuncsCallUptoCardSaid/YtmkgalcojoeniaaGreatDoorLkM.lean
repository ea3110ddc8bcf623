/- Walks: matched, Like (package funcs). Walks: matched, joined; Like (package funcs). -/
import Derived.Test.YtmkgalcojoeniaaGreatDoorLk
import Derived.Test.YtmkgalcojoeniaaGreatDoorCalcWs
import Derived.RegionTactic
import Derived.Deep.RegionWith
set_option maxRecDepth 100000
set_option linter.unusedVariables false
set_option linter.unusedSimpArgs false
namespace Go.Proofs.YtmkgalcojoeniaaGreatDoor
open Go.RowKit

/-- a value in a block of its own -/
def V3 (W : World) (g : Nat) (k n : Int) (t : ByteArray) : Prop := W.heap[g]? = some (.cells #[.int .i64 k, .int .i64 n, .string t] 25 (0, 0))
theorem V3.lt {W : World} {g : Nat} {k n : Int} {t : ByteArray} (h : V3 W g k n t) : g < W.heap.size := (Array.getElem?_eq_some_iff.1 h).1
theorem V3.on {W W' : World} {g : Nat} {k n : Int} {t : ByteArray} (h : V3 W g k n t) (hb : Below W.heap.size W W') : V3 W' g k n t := (hb.block g h.lt).trans h
theorem V3.new (W : World) (k n : Int) (t : ByteArray) : V3 (W.alloc (.cells #[.int .i64 k, .int .i64 n, .string t] 25)) W.heap.size k n t := heap_new W _
theorem V3.alloc {W : World} {g : Nat} {k n : Int} {t : ByteArray} (h : V3 W g k n t) (o : Obj) : V3 (W.alloc o) g k n t := h.on (below_new W o)
theorem heap_cell1 {W : World} {g : Nat} {cs : Array Value} {T : TypeId} (i : Nat) (v : Value) (h : W.heap[g]? = some (.cells cs T (0, 0))) : (W.setCell ⟨g, i, none⟩ v).heap[g]? = some (.cells (cs.setIfInBounds i v) T (0, 0)) := by
  show (W.heap.modify g _)[g]? = _
  rw [Array.getElem?_modify, if_pos rfl, h]
  rfl
theorem V3.put {W : World} {g : Nat} {k n : Int} {t : ByteArray} (h : V3 W g k n t) (k' n' : Int) (t' : ByteArray) : V3 (((W.setCell ⟨g, 0, none⟩ (.int .i64 k')).setCell ⟨g, 1, none⟩ (.int .i64 n')).setCell ⟨g, 2, none⟩ (.string t')) g k' n' t' :=
  heap_cell1 2 _ (heap_cell1 1 _ (heap_cell1 0 _ h))
theorem V3.other {W : World} {g g' : Nat} {k n : Int} {t : ByteArray} (h : V3 W g k n t) (hne : g ≠ g') (a b c : Value) : V3 (((W.setCell ⟨g', 0, none⟩ a).setCell ⟨g', 1, none⟩ b).setCell ⟨g', 2, none⟩ c) g k n t :=
  ((Below.heap_setCell _ _ _ _ hne).trans ((Below.heap_setCell _ _ _ _ hne).trans (Below.heap_setCell _ _ _ _ hne))).trans h
theorem V3.cells {w : World} {g : Nat} {k n : Int} {t : ByteArray} (h : V3 w g k n t) :
    w.cell? ⟨g, 0, none⟩ = some (.int .i64 k) ∧ w.cell? ⟨g, 1, none⟩ = some (.int .i64 n) ∧ w.cell? ⟨g, 2, none⟩ = some (.string t) ∧ w.frozen? ⟨g, 0, none⟩ = false ∧ w.frozen? ⟨g, 1, none⟩ = false ∧ w.frozen? ⟨g, 2, none⟩ = false := by
  refine ⟨cell_of_row w g 0 _ _ _ h, cell_of_row w g 1 _ _ _ h, cell_of_row w g 2 _ _ _ h, ?_, ?_, ?_⟩ <;> simp [World.frozen?, show w.heap[g]? = _ from h]
theorem below_put {B : Nat} {w W : World} {g : Nat} {a b c : Value} (h : Below B w W) (hg : B ≤ g) : Below B w (((W.setCell ⟨g, 0, none⟩ a).setCell ⟨g, 1, none⟩ b).setCell ⟨g, 2, none⟩ c) := ((h.setCell hg _).setCell hg _).setCell hg _
theorem size_put {W : World} {g : Nat} {a b c : Value} : (((W.setCell ⟨g, 0, none⟩ a).setCell ⟨g, 1, none⟩ b).setCell ⟨g, 2, none⟩ c).heap.size = W.heap.size := by simp [World.setCell]

/-- what matched's blocks hold -/
def M3 (w W : World) (k1 n1 : Int) (t1 : ByteArray) (k2 n2 : Int) (t2 : ByteArray) : Prop := V3 W w.heap.size k1 n1 t1 ∧ V3 W (w.heap.size + 1) k2 n2 t2 ∧ V3 W (w.heap.size + 1 + 1) 0 0 ⟨#[]⟩ ∧ Below w.heap.size w W
theorem M3.on {w W W' : World} {k1 n1 : Int} {t1 : ByteArray} {k2 n2 : Int} {t2 : ByteArray} (h : M3 w W k1 n1 t1 k2 n2 t2) (hb : Below W.heap.size W W') : M3 w W' k1 n1 t1 k2 n2 t2 := ⟨h.1.on hb, h.2.1.on hb, h.2.2.1.on hb, below_step h.2.2.2 h.2.2.2.size hb⟩
end Go.Proofs.YtmkgalcojoeniaaGreatDoor

namespace Go.Proofs.YtmkgalcojoeniaaGreatDoor
open Go.RowKit

theorem M3.new (w : World) (k1 n1 : Int) (t1 : ByteArray) (k2 n2 : Int) (t2 : ByteArray) : M3 w (((w.alloc (.cells #[.int .i64 k1, .int .i64 n1, .string t1] 25)).alloc (.cells #[.int .i64 k2, .int .i64 n2, .string t2] 25)).alloc (.cells #[.int .i64 0, .int .i64 0, .string ⟨#[]⟩] 25)) k1 n1 t1 k2 n2 t2 := by
  refine ⟨(((V3.new w _ _ _).alloc _).alloc _), ?_, ?_, (((Below.refl _ w).alloc (Nat.le_refl _) _).alloc (by simp) _).alloc (by simp; omega) _⟩
  · have := (V3.new (w.alloc (.cells #[.int .i64 k1, .int .i64 n1, .string t1] 25)) k2 n2 t2).alloc (.cells #[.int .i64 0, .int .i64 0, .string ⟨#[]⟩] 25)
    rw [World.size_alloc] at this; exact this
  · have := V3.new ((w.alloc (.cells #[.int .i64 k1, .int .i64 n1, .string t1] 25)).alloc (.cells #[.int .i64 k2, .int .i64 n2, .string t2] 25)) 0 0 ⟨#[]⟩
    rw [World.size_alloc, World.size_alloc] at this; exact this
/-- whether a value's text fits another one's pattern, as a value -/
def matchV (AS : List UInt8 → List UInt8) (PS : List UInt8 → List Fit.P) (a b : Val.V) : Val.V :=
  if (Val.pshow a).kind = 0 ∨ (Val.pshow b).kind = 0 then Val.zero else Val.pbool (Fit.fit (PS (Val.pshow b).text) (AS (Val.pshow a).text))
theorem pshow_form (v : Val.V) (hi : Val.inr v.int) : Val.pshow v = ⟨0, 0, (⟨#[]⟩ : ByteArray).data.toList⟩ ∨ ∃ t : ByteArray, Val.pshow v = ⟨2, 0, t.data.toList⟩ ∧ t.size ≤ 400 := by
  by_cases h : Val.may v = true ∧ v.kind ≠ 0
  · by_cases h1 : v.kind = 1
    · exact .inr ⟨bs (Lib.itoa v.int), Val.pshow_int h.1 h1, by have := Val.itoa_len v.int hi.1 hi.2; rw [bs_size]; omega⟩
    · refine .inr ⟨bs v.text, Val.pshow_text h.1 h.2 h1, ?_⟩
      rw [bs_size]
      rcases Val.may_iff.1 h.1 with ⟨a, _⟩ | ⟨a, _⟩ | ⟨_, _, a⟩
      · exact absurd a h.2
      · exact absurd a h1
      · exact a
  · refine .inl (Val.pshow_not ?_)
    by_cases hm : Val.may v = true
    · right; apply Classical.byContradiction; intro h0; exact h ⟨hm, h0⟩
    · left; simpa using hm

end Go.Proofs.YtmkgalcojoeniaaGreatDoor

