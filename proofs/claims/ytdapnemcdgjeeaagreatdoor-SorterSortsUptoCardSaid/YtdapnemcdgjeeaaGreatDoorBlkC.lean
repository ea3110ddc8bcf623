/- Blocks of cells in memory; what a call may turn. -/
import Derived.Test.YtdapnemcdgjeeaaGreatDoorProg
import Derived.Test.YtdapnemcdgjeeaaGreatDoorBase
import Derived.Deep.RegionHeld3
import Derived.Deep.RegionLaw
import Derived.Deep.CutRange
set_option maxRecDepth 100000
set_option linter.unusedVariables false
set_option linter.unusedSimpArgs false
namespace Go.Proofs.YtdapnemcdgjeeaaGreatDoor
open Go.RowKit

/-- a block of cells of which nothing is shared -/
def Blk (W : World) (b : Nat) (T : TypeId) (vs : Array Value) : Prop := W.heap[b]? = some (.cells vs T (0, 0))
theorem Blk.lt {W : World} {b : Nat} {T : TypeId} {vs : Array Value} (h : Blk W b T vs) : b < W.heap.size := (Array.getElem?_eq_some_iff.1 h).1
theorem Blk.on {W W' : World} {b : Nat} {T : TypeId} {vs : Array Value} (h : Blk W b T vs) (hb : Below W.heap.size W W') : Blk W' b T vs := (hb.block b h.lt).trans h
theorem Blk.cell {W : World} {b : Nat} {T : TypeId} {vs : Array Value} (h : Blk W b T vs) (i : Nat) : W.cell? ⟨b, i, none⟩ = vs[i]? := by
  unfold Blk at h
  simp [World.cell?, h]
theorem Blk.free {W : World} {b : Nat} {T : TypeId} {vs : Array Value} (h : Blk W b T vs) (i : Nat) : W.frozen? ⟨b, i, none⟩ = false := by
  unfold Blk at h
  simp [World.frozen?, h]
theorem Blk.set {W : World} {b : Nat} {T : TypeId} {vs : Array Value} (h : Blk W b T vs) (i : Nat) (v : Value) : Blk (W.setCell ⟨b, i, none⟩ v) b T (vs.setIfInBounds i v) := by
  show (W.heap.modify b _)[b]? = _
  rw [Array.getElem?_modify, if_pos rfl, h]
  rfl
theorem Blk.other {W : World} {b b' : Nat} {T : TypeId} {vs : Array Value} (h : Blk W b T vs) (hne : b ≠ b') (i : Nat) (v : Value) : Blk (W.setCell ⟨b', i, none⟩ v) b T vs := (Below.heap_setCell _ _ _ _ hne).trans h
theorem Blk.alloc {W : World} {b : Nat} {T : TypeId} {vs : Array Value} (h : Blk W b T vs) (o : Obj) : Blk (W.alloc o) b T vs := (Below.heap_alloc W o b h.lt).trans h
theorem Blk.new (W : World) (T : TypeId) (vs : Array Value) : Blk (W.alloc (.cells vs T)) W.heap.size T vs := heap_new W _
theorem Blk.drew {W : World} {b : Nat} {T : TypeId} {vs : Array Value} (h : Blk W b T vs) : Blk W.drew b T vs := h

/-- what has turned lies in fp, or is new -/
structure Turned (fp : Nat → Prop) (w w' : World) : Prop where
  os : w'.os = w.os
  tape : w'.tape = w.tape
  output : w'.output = w.output
  size : w.heap.size ≤ w'.heap.size
  block : ∀ k, k < w.heap.size → ¬ fp k → w'.heap[k]? = w.heap[k]?
theorem Turned.refl (fp : Nat → Prop) (w : World) : Turned fp w w := ⟨rfl, rfl, rfl, Nat.le_refl _, fun _ _ _ => rfl⟩
theorem Turned.trans {fp : Nat → Prop} {a b c : World} (h : Turned fp a b) (k : Turned fp b c) : Turned fp a c :=
  ⟨k.os.trans h.os, k.tape.trans h.tape, k.output.trans h.output, Nat.le_trans h.size k.size, fun i hi hf => (k.block i (Nat.lt_of_lt_of_le hi h.size) hf).trans (h.block i hi hf)⟩
theorem Turned.of {fp : Nat → Prop} {w w' : World} (h : Below w.heap.size w w') : Turned fp w w' := ⟨h.os, h.tape, h.output, h.size, fun k hk _ => h.block k hk⟩
theorem Turned.wide {fp fp' : Nat → Prop} {w w' : World} (h : Turned fp w w') (hf : ∀ k, k < w.heap.size → fp k → fp' k) : Turned fp' w w' := ⟨h.os, h.tape, h.output, h.size, fun k hk hn => h.block k hk fun x => hn (hf k hk x)⟩
theorem Turned.below {fp : Nat → Prop} {w w' : World} {B : Nat} (h : Turned fp w w') (hB : B ≤ w.heap.size) (hf : ∀ k, k < w.heap.size → fp k → B ≤ k) : Below B w w' := ⟨h.os, h.tape, h.output, h.size, fun k hk => h.block k (Nat.lt_of_lt_of_le hk hB) fun x => by have := hf k (Nat.lt_of_lt_of_le hk hB) x; omega⟩
theorem Turned.set {fp : Nat → Prop} {w w' : World} (h : Turned fp w w') {b : Nat} (hb : fp b ∨ w.heap.size ≤ b) (i : Nat) (v : Value) : Turned fp w (w'.setCell ⟨b, i, none⟩ v) :=
  ⟨h.os, h.tape, h.output, by simpa using h.size, fun k hk hn => (Below.heap_setCell _ _ _ _ (fun e => by subst e; rcases hb with hb | hb; exact hn hb; omega)).trans (h.block k hk hn)⟩
theorem Turned.alloc {fp : Nat → Prop} {w w' : World} (h : Turned fp w w') (o : Obj) : Turned fp w (w'.alloc o) :=
  ⟨h.os, h.tape, h.output, by simp; have := h.size; omega, fun k hk hn => (Below.heap_alloc _ _ _ (Nat.lt_of_lt_of_le hk h.size)).trans (h.block k hk hn)⟩
theorem Turned.drew {fp : Nat → Prop} {w w' : World} (h : Turned fp w w') : Turned fp w w'.drew := ⟨h.os, h.tape, h.output, h.size, h.block⟩
theorem Blk.turned {W W' : World} {b : Nat} {T : TypeId} {vs : Array Value} {fp : Nat → Prop} (h : Blk W b T vs) (ht : Turned fp W W') (hf : ¬ fp b) : Blk W' b T vs := (ht.block b h.lt hf).trans h

theorem newB (w : World) (o : Obj) : Below w.heap.size w (w.alloc o) := (Below.refl _ _).alloc (Nat.le_refl _) o
theorem stepB {w W W' : World} (h : Below w.heap.size w W) (hb : Below W.heap.size W W') : Below w.heap.size w W' := h.trans (hb.mono h.size)
end Go.Proofs.YtdapnemcdgjeeaaGreatDoor
