/- Gatherers in memory: blocks, what a call may turn; what the summer takes. -/
import Derived.Test.YtdapnemcdgjeeaaGreatDoorAggP
import Derived.Test.YtdapnemcdgjeeaaGreatDoorProg
import Derived.Test.YtdapnemcdgjeeaaGreatDoorBase
import Derived.Deep.RegionHeld3
import Derived.Deep.RegionLaw
import Derived.Deep.CutRange
import Derived.Laws.Externs
set_option maxRecDepth 100000
set_option linter.unusedVariables false
set_option linter.unusedSimpArgs false
namespace Go.Proofs.YtdapnemcdgjeeaaGreatDoor
open Go.RowKit
open Go.Proofs.YtdapnemcdgjeeaaGreatDoor.Ag (Gat)

/-- a block of cells of which nothing is shared -/
def Blk (W : World) (b : Nat) (T : TypeId) (vs : Array Value) : Prop := W.heap[b]? = some (.cells vs T (0, 0))
theorem Blk.lt {W : World} {b : Nat} {T : TypeId} {vs : Array Value} (h : Blk W b T vs) : b < W.heap.size := (Array.getElem?_eq_some_iff.1 h).1
theorem Blk.on {W W' : World} {b : Nat} {T : TypeId} {vs : Array Value} (h : Blk W b T vs) (hb : Below W.heap.size W W') : Blk W' b T vs := (hb.block b h.lt).trans h
theorem Blk.cell {W : World} {b : Nat} {T : TypeId} {vs : Array Value} (h : Blk W b T vs) (i : Nat) : W.cell? ⟨b, i, none⟩ = vs[i]? := by
  unfold Blk at h
  simp [World.cell?, h]
theorem Blk.free {W : World} {b : Nat} {T : TypeId} {vs : Array Value} (h : Blk W b T vs) (i : Nat) : W.frozen? ⟨b, i, none⟩ = false := by
  unfold Blk at h
  simp [World.frozen?, h]
theorem Blk.set {W : World} {b : Nat} {T : TypeId} {vs : Array Value} (h : Blk W b T vs) (i : Nat) (v : Value) : Blk (W.setCell ⟨b, i, none⟩ v) b T (vs.setIfInBounds i v) := by
  show (W.heap.modify b _)[b]? = _
  rw [Array.getElem?_modify, if_pos rfl, h]
  rfl
theorem Blk.other {W : World} {b b' : Nat} {T : TypeId} {vs : Array Value} (h : Blk W b T vs) (hne : b ≠ b') (i : Nat) (v : Value) : Blk (W.setCell ⟨b', i, none⟩ v) b T vs := (Below.heap_setCell _ _ _ _ hne).trans h
theorem Blk.alloc {W : World} {b : Nat} {T : TypeId} {vs : Array Value} (h : Blk W b T vs) (o : Obj) : Blk (W.alloc o) b T vs := (Below.heap_alloc W o b h.lt).trans h
theorem Blk.new (W : World) (T : TypeId) (vs : Array Value) : Blk (W.alloc (.cells vs T)) W.heap.size T vs := heap_new W _
theorem Blk.drew {W : World} {b : Nat} {T : TypeId} {vs : Array Value} (h : Blk W b T vs) : Blk W.drew b T vs := h

/-- what has turned lies in fp, or is new -/
structure Turned (fp : Nat → Prop) (w w' : World) : Prop where
  os : w'.os = w.os
  tape : w'.tape = w.tape
  output : w'.output = w.output
  size : w.heap.size ≤ w'.heap.size
  block : ∀ k, k < w.heap.size → ¬ fp k → w'.heap[k]? = w.heap[k]?
theorem Turned.refl (fp : Nat → Prop) (w : World) : Turned fp w w := ⟨rfl, rfl, rfl, Nat.le_refl _, fun _ _ _ => rfl⟩
theorem Turned.trans {fp : Nat → Prop} {a b c : World} (h : Turned fp a b) (k : Turned fp b c) : Turned fp a c :=
  ⟨k.os.trans h.os, k.tape.trans h.tape, k.output.trans h.output, Nat.le_trans h.size k.size, fun i hi hf => (k.block i (Nat.lt_of_lt_of_le hi h.size) hf).trans (h.block i hi hf)⟩
theorem Turned.of {fp : Nat → Prop} {w w' : World} (h : Below w.heap.size w w') : Turned fp w w' := ⟨h.os, h.tape, h.output, h.size, fun k hk _ => h.block k hk⟩
theorem Turned.wide {fp fp' : Nat → Prop} {w w' : World} (h : Turned fp w w') (hf : ∀ k, k < w.heap.size → fp k → fp' k) : Turned fp' w w' := ⟨h.os, h.tape, h.output, h.size, fun k hk hn => h.block k hk fun x => hn (hf k hk x)⟩
theorem Turned.below {fp : Nat → Prop} {w w' : World} {B : Nat} (h : Turned fp w w') (hB : B ≤ w.heap.size) (hf : ∀ k, k < w.heap.size → fp k → B ≤ k) : Below B w w' := ⟨h.os, h.tape, h.output, h.size, fun k hk => h.block k (Nat.lt_of_lt_of_le hk hB) fun x => by have := hf k (Nat.lt_of_lt_of_le hk hB) x; omega⟩
theorem Turned.set {fp : Nat → Prop} {w w' : World} (h : Turned fp w w') {b : Nat} (hb : fp b ∨ w.heap.size ≤ b) (i : Nat) (v : Value) : Turned fp w (w'.setCell ⟨b, i, none⟩ v) :=
  ⟨h.os, h.tape, h.output, by simpa using h.size, fun k hk hn => (Below.heap_setCell _ _ _ _ (fun e => by subst e; rcases hb with hb | hb; exact hn hb; omega)).trans (h.block k hk hn)⟩
theorem Turned.alloc {fp : Nat → Prop} {w w' : World} (h : Turned fp w w') (o : Obj) : Turned fp w (w'.alloc o) :=
  ⟨h.os, h.tape, h.output, by simp; have := h.size; omega, fun k hk hn => (Below.heap_alloc _ _ _ (Nat.lt_of_lt_of_le hk h.size)).trans (h.block k hk hn)⟩
theorem Turned.drew {fp : Nat → Prop} {w w' : World} (h : Turned fp w w') : Turned fp w w'.drew := ⟨h.os, h.tape, h.output, h.size, h.block⟩
theorem Blk.turned {W W' : World} {b : Nat} {T : TypeId} {vs : Array Value} {fp : Nat → Prop} (h : Blk W b T vs) (ht : Turned fp W W') (hf : ¬ fp b) : Blk W' b T vs := (ht.block b h.lt hf).trans h

theorem newB (w : World) (o : Obj) : Below w.heap.size w (w.alloc o) := (Below.refl _ _).alloc (Nat.le_refl _) o
theorem stepB {w W W' : World} (h : Below w.heap.size w W) (hb : Below W.heap.size W W') : Below w.heap.size w W' := h.trans (hb.mono h.size)

/-- what a callee that makes a value says -/
def ValR (k n : Int) (t : ByteArray) (w : World) (e : Ending) (w' : World) : Prop := e = .returned (.agg #[.int .i64 k, .int .i64 n, .string t]) ∧ Below w.heap.size w w'
theorem add64 (x y c : Nat) (hc : c ≤ 1) (hx : x < 18446744073709551616) (hy : y < 18446744073709551616) (w : World) :
    (callFunc 210 #[.int .u64 (x : Int), .int .u64 (y : Int), .int .u64 (c : Int)]).run Tryz.prog w =
      .ok (.value (.tuple #[.int .u64 (((x + y + c) % 18446744073709551616 : Nat) : Int), .int .u64 (((x + y + c) / 18446744073709551616 : Nat) : Int)])) w := by
  rw [run_callFunc_extern (fn := Tryz.f210) Tryz.func210 (by kernel_rfl) (by kernel_rfl) (by kernel_rfl) (e := add64Entry) (by kernel_rfl), run_add64 x y c (by omega) (by omega) (by omega) (by omega)]
  simp only [Result.andThen]
  congr 5 <;> omega
set_option maxHeartbeats 400000 in
theorem sum_take_none (b : Nat) (vs : Array Value) (k i : Int) (t : ByteArray) (W : World) (hB : Blk W b 130 vs)
    (hN : ∀ W', Below W.heap.size W W' → Calls Tryz.prog 209 #[.agg #[.int .i64 k, .int .i64 i, .string t]] W' (ValR 0 0 ⟨#[]⟩ W')) :
    Calls Tryz.prog 208 #[.pointer (some ⟨b, 0, none⟩), .agg #[.int .i64 k, .int .i64 i, .string t]] W fun e w' => e = .returned (.tuple #[]) ∧ Below W.heap.size W w' := by
  have hb0 := newB W (.cells #[.int .i64 k, .int .i64 i, .string t] 33)
  go_enter Tryz.func208, Tryz.ntmps208
  go_wp2_with (go_at_call 209; refine (hN _ hb0).mono ?_; rintro e w1 ⟨rfl, hb1⟩)
  refine bodyPost_ret (v := .tuple #[]) (by simp only [results, Tryz.results208]; go_simp) rfl ?_
  exact ⟨rfl, (stepB hb0 hb1).alloc (Nat.le_trans hb0.size hb1.size) _⟩
set_option maxHeartbeats 1000000 in
theorem sum_take_some (b hi lo : Nat) (s : Bool) (k i : Int) (t : ByteArray) (n : Int) (y y2 lo' cr hi' : Nat) (hyn : IntKind.u64.wrap n = (y : Int)) (hyn2 : IntKind.u64.wrap (n / 9223372036854775808) = (y2 : Int)) (hy2 : y2 < 18446744073709551616) (hcr : cr ≤ 1) (hl' : (lo + y + 0) % 18446744073709551616 = lo') (hc' : (lo + y + 0) / 18446744073709551616 = cr) (hh' : (hi + y2 + cr) % 18446744073709551616 = hi') (hlo : lo < 18446744073709551616) (hhi : hi < 18446744073709551616) (hy : y < 18446744073709551616) (W : World) (hB : Blk W b 130 #[.int .u64 (hi : Int), .int .u64 (lo : Int), .bool s])
    (hN : ∀ W', Below W.heap.size W W' → Calls Tryz.prog 209 #[.agg #[.int .i64 k, .int .i64 i, .string t]] W' (ValR 1 n ⟨#[]⟩ W')) :
    Calls Tryz.prog 208 #[.pointer (some ⟨b, 0, none⟩), .agg #[.int .i64 k, .int .i64 i, .string t]] W fun e w' => e = .returned (.tuple #[]) ∧ Blk w' b 130 #[.int .u64 (hi' : Int), .int .u64 (lo' : Int), .bool true] ∧ Turned (· = b) W w' := by
  have hb0 := newB W (.cells #[.int .i64 k, .int .i64 i, .string t] 33)
  go_enter Tryz.func208, Tryz.ntmps208
  go_wp2_with (go_at_call 209; refine (hN _ hb0).mono ?_; rintro e w1 ⟨rfl, hb1⟩)
  have hB1 := ((hB.alloc _).on hb1).alloc (.cells #[.int .i64 1, .int .i64 n, .string ⟨#[]⟩] 33)
  have hV1 := Blk.new w1 33 #[.int .i64 1, .int .i64 n, .string ⟨#[]⟩]
  have hT1 := Turned.of (fp := (· = b)) (stepB hb0 (stepB hb1 (newB w1 (.cells #[.int .i64 1, .int .i64 n, .string ⟨#[]⟩] 33))))
  obtain ⟨v, hv⟩ : ∃ v, w1.heap.size = v := ⟨_, rfl⟩
  obtain ⟨W1, hW1⟩ : ∃ x, w1.alloc (.cells #[.int .i64 1, .int .i64 n, .string ⟨#[]⟩] 33) = x := ⟨_, rfl⟩
  rw [hv] at hV1 ⊢
  rw [hW1] at hB1 hV1 hT1 ⊢
  have c1 := hB1.cell 1
  have v1 := hV1.cell 1
  simp only [List.getElem?_toArray, List.getElem?_cons_zero, List.getElem?_cons_succ] at c1 v1
  have ha := add64 lo y 0 (by omega) hlo hy
  have ha2 := add64 hi y2 cr hcr hhi hy2
  rw [hl'] at ha
  rw [hc'] at ha
  rw [hh'] at ha2
  replace ha : ∀ w, (callFunc 210 #[.int .u64 (lo : Int), .int .u64 (y : Int), .int .u64 0]).run Tryz.prog w = .ok (.value (.tuple #[.int .u64 (lo' : Int), .int .u64 (cr : Int)])) w := ha
  go_region
  have c0 := hB1.cell 0
  have f0 := hB1.free 0
  have f1 := hB1.free 1
  have f2 := hB1.free 2
  simp only [List.getElem?_toArray, List.getElem?_cons_zero, List.getElem?_cons_succ] at c0
  go_wp2_with fail
  go_region
  have c2 := hB1.cell 2
  simp only [List.getElem?_toArray, List.getElem?_cons_zero, List.getElem?_cons_succ] at c2
  go_wp2
  go_end0
  exact ⟨rfl, ((hB1.set 0 _).set 1 _).set 2 _, (((hT1.set (.inl rfl) 0 _).set (.inl rfl) 1 _).set (.inl rfl) 2 _).drew.drew⟩
end Go.Proofs.YtdapnemcdgjeeaaGreatDoor
