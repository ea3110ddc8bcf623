/- Walks: Copy of the reference of layer 2; Text and Blob of package value. -/
import Derived.Test.YtdapnemcdgjeeaaDoorVals
import Derived.Deep.AppendSrc
set_option maxRecDepth 100000
set_option linter.unusedVariables false
set_option linter.unusedSimpArgs false
namespace Go.Proofs.YtdapnemcdgjeeaaDoor
open Go.RowKit

theorem val_info : (Tryd.prog.info? 52).map (fun i => (i.zero, i.size, i.bytes)) = some (some (.agg #[.int .i64 0, .int .i64 0, .string ⟨#[]⟩]), 3, 32) := by kernel_rfl
theorem valC_one (vs : List Val.V) : ∀ u ∈ valC vs, u.oneCell' = true := by
  intro u hu
  obtain ⟨v, _, h⟩ := List.mem_flatMap.1 hu
  simp at h
  rcases h with rfl | rfl | rfl <;> rfl
theorem valC_get {vs : List Val.V} {j : Nat} {u : Value} (h : (valC vs)[j]? = some u) : ∃ k v, vs[k]? = some v ∧ (j = k * 3 ∧ u = .int .i64 v.kind ∨ j = k * 3 + 1 ∧ u = .int .i64 v.int ∨ j = k * 3 + 2 ∧ u = .string (bs v.text)) := by
  have hl := (List.getElem?_eq_some_iff.1 h).1
  rw [valC_len] at hl
  have hk : j / 3 < vs.length := by omega
  obtain ⟨v, hv⟩ : ∃ v, vs[j / 3]? = some v := ⟨_, List.getElem?_eq_getElem hk⟩
  obtain ⟨q0, q1, q2⟩ := valC_at vs (j / 3) v hv
  refine ⟨j / 3, v, hv, ?_⟩
  by_cases h0 : j % 3 = 0
  · have e : j / 3 * 3 = j := by omega
    rw [e, h] at q0
    exact .inl ⟨e.symm, Option.some.inj q0⟩
  · by_cases h1 : j % 3 = 1
    · have e : j / 3 * 3 + 1 = j := by omega
      rw [e, h] at q1
      exact .inr (.inl ⟨e.symm, Option.some.inj q1⟩)
    · have e : j / 3 * 3 + 2 = j := by omega
      rw [e, h] at q2
      exact .inr (.inr ⟨e.symm, Option.some.inj q2⟩)

/-- what Copy answers -/
def CopyP (N : Nat) (vs : List Val.V) (w : World) (e : Ending) (w' : World) : Prop :=
  ∃ p c, e = .returned (.slice p N c) ∧ w'.ownsRow w.heap.size 52 3 (.slice p N c) N (valC vs) ∧ Below w.heap.size w w'

theorem append_none (p : Option Addr) (c : Nat) (ty : TypeId) (w : World) : (Builtin.append_ #[34, 34] ty #[.slice none 0 0, .slice p 0 c]).run Tryd.prog w = .ok (.slice none 0 0) w := by
  obtain ⟨i, hi, hz, hs, hb⟩ := info_parts val_info
  cases p with
  | none =>
    have src : Src Tryd.prog i.size 34 (.slice none 0 c) 0 [] w := Src.ofNil w Tryd.underlying34 c
    simp [Builtin.append_, run_underlying Tryd.underlying34, sizeOf, typeInfo, hi, src.len, src.cells, Builtin.firstCells]
  | some a =>
    have src : Src Tryd.prog i.size 34 (.slice (some a) 0 c) 0 [] w := Src.ofSlice w Tryd.underlying34 a 0 c [] (by simp) (by simp) (by simp)
    have h2 : (loadCells a 0).run Tryd.prog w = .ok #[] w := by simp [loadCells, loadCellsFrom]
    simp [Builtin.append_, run_underlying Tryd.underlying34, sizeOf, typeInfo, hi, src.len, src.cells, Builtin.firstCells, h2]
theorem wpList_append_empty {W : World} {ops : Array Oper} {rest : List Oper} {o : Oper} {a : Act} {Q : Exit → Act → World → Prop} (hgd : o.guard = none) (s x : Operand)
    (ho : o.op = .call { callee := .builtin .append, args := #[s, x], argTypes := #[34, 34] }) (p : Option Addr) (c : Nat) (hs : a.eval s = .slice none 0 0) (hx : a.eval x = .slice p 0 c)
    (h : wpList Tryd.prog ops Q rest (a.put o.dst (.slice none 0 0)) W) : wpList Tryd.prog ops Q (o :: rest) a W := by
  refine wpList_plain hgd fun K hK => ?_
  have hr := append_none p c o.type W
  unfold Oper.wp execOp
  simp only [ho, resolve, invoke, builtin, Sem.run_bind, Sem.run_pure, Result.andThen_ok, List.map_toArray, List.map_cons, List.map_nil, hs, hx, hr]
  exact hK _ _ h
theorem vshape {w : World} {base : Nat} {e : TypeId} {size : Nat} {v : Value} {n : Nat} {xs : List Value} (h : w.ownsRow base e size v n xs) : ∃ p c, v = .slice p n c := by
  rcases h.2 with ⟨rfl, rfl⟩ | ⟨g, cap, cur, rfl, _⟩
  · exact ⟨_, _, rfl⟩
  · exact ⟨_, _, rfl⟩

end Go.Proofs.YtdapnemcdgjeeaaDoor
