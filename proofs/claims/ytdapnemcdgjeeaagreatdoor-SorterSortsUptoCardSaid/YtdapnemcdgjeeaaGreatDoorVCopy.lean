/- Walks: Copy of the reference of layer 2; Text and Blob of package value. -/
import Derived.Test.YtdapnemcdgjeeaaGreatDoorVals
import Derived.Deep.AppendSrc
set_option maxRecDepth 100000
set_option linter.unusedVariables false
set_option linter.unusedSimpArgs false
namespace Go.Proofs.YtdapnemcdgjeeaaGreatDoor
open Go.RowKit

theorem val_info : (Tryz.prog.info? 33).map (fun i => (i.zero, i.size, i.bytes)) = some (some (.agg #[.int .i64 0, .int .i64 0, .string ⟨#[]⟩]), 3, 32) := by kernel_rfl
theorem valC_one (vs : List Val.V) : ∀ u ∈ valC vs, u.oneCell' = true := by
  intro u hu
  obtain ⟨v, _, h⟩ := List.mem_flatMap.1 hu
  simp at h
  rcases h with rfl | rfl | rfl <;> rfl
theorem valC_get {vs : List Val.V} {j : Nat} {u : Value} (h : (valC vs)[j]? = some u) : ∃ k v, vs[k]? = some v ∧ (j = k * 3 ∧ u = .int .i64 v.kind ∨ j = k * 3 + 1 ∧ u = .int .i64 v.int ∨ j = k * 3 + 2 ∧ u = .string (bs v.text)) := by
  have hl := (List.getElem?_eq_some_iff.1 h).1
  rw [valC_len] at hl
  have hk : j / 3 < vs.length := by omega
  obtain ⟨v, hv⟩ : ∃ v, vs[j / 3]? = some v := ⟨_, List.getElem?_eq_getElem hk⟩
  obtain ⟨q0, q1, q2⟩ := valC_at vs (j / 3) v hv
  refine ⟨j / 3, v, hv, ?_⟩
  by_cases h0 : j % 3 = 0
  · have e : j / 3 * 3 = j := by omega
    rw [e, h] at q0
    exact .inl ⟨e.symm, Option.some.inj q0⟩
  · by_cases h1 : j % 3 = 1
    · have e : j / 3 * 3 + 1 = j := by omega
      rw [e, h] at q1
      exact .inr (.inl ⟨e.symm, Option.some.inj q1⟩)
    · have e : j / 3 * 3 + 2 = j := by omega
      rw [e, h] at q2
      exact .inr (.inr ⟨e.symm, Option.some.inj q2⟩)

/-- what Copy answers -/
def CopyP (N : Nat) (vs : List Val.V) (w : World) (e : Ending) (w' : World) : Prop :=
  ∃ p c, e = .returned (.slice p N c) ∧ w'.ownsRow w.heap.size 33 3 (.slice p N c) N (valC vs) ∧ Below w.heap.size w w'

theorem append_none (p : Option Addr) (c : Nat) (ty : TypeId) (w : World) : (Builtin.append_ #[30, 30] ty #[.slice none 0 0, .slice p 0 c]).run Tryz.prog w = .ok (.slice none 0 0) w := by
  obtain ⟨i, hi, hz, hs, hb⟩ := info_parts val_info
  cases p with
  | none =>
    have src : Src Tryz.prog i.size 30 (.slice none 0 c) 0 [] w := Src.ofNil w Tryz.underlying30 c
    simp [Builtin.append_, run_underlying Tryz.underlying30, sizeOf, typeInfo, hi, src.len, src.cells, Builtin.firstCells]
  | some a =>
    have src : Src Tryz.prog i.size 30 (.slice (some a) 0 c) 0 [] w := Src.ofSlice w Tryz.underlying30 a 0 c [] (by simp) (by simp) (by simp)
    have h2 : (loadCells a 0).run Tryz.prog w = .ok #[] w := by simp [loadCells, loadCellsFrom]
    simp [Builtin.append_, run_underlying Tryz.underlying30, sizeOf, typeInfo, hi, src.len, src.cells, Builtin.firstCells, h2]
theorem wpList_append_empty {W : World} {ops : Array Oper} {rest : List Oper} {o : Oper} {a : Act} {Q : Exit → Act → World → Prop} (hgd : o.guard = none) (s x : Operand)
    (ho : o.op = .call { callee := .builtin .append, args := #[s, x], argTypes := #[30, 30] }) (p : Option Addr) (c : Nat) (hs : a.eval s = .slice none 0 0) (hx : a.eval x = .slice p 0 c)
    (h : wpList Tryz.prog ops Q rest (a.put o.dst (.slice none 0 0)) W) : wpList Tryz.prog ops Q (o :: rest) a W := by
  refine wpList_plain hgd fun K hK => ?_
  have hr := append_none p c o.type W
  unfold Oper.wp execOp
  simp only [ho, resolve, invoke, builtin, Sem.run_bind, Sem.run_pure, Result.andThen_ok, List.map_toArray, List.map_cons, List.map_nil, hs, hx, hr]
  exact hK _ _ h
theorem vshape {w : World} {base : Nat} {e : TypeId} {size : Nat} {v : Value} {n : Nat} {xs : List Value} (h : w.ownsRow base e size v n xs) : ∃ p c, v = .slice p n c := by
  rcases h.2 with ⟨rfl, rfl⟩ | ⟨g, cap, cur, rfl, _⟩
  · exact ⟨_, _, rfl⟩
  · exact ⟨_, _, rfl⟩

set_option maxHeartbeats 400000 in
theorem rcopy_any (p : Option Addr) (N c : Nat) (vs : List Val.V) (w : World) (hA : ValsAt w p N vs) (hN : N ≤ 1048576) :
    Calls Tryz.prog 15 #[.slice p N c] w (CopyP N vs w) := by
  rcases hA.2 with h0 | ⟨b, off, rfl, hbl, hcell⟩
  · have hz : N = 0 := by rw [← hA.1, h0]; rfl
    subst hz
    go_enter Tryz.func15, Tryz.ntmps15
    go_wp2_with (at_builtin; refine wpList_append_empty rfl _ _ rfl p c rfl rfl ?_)
    go_ret
    exact ⟨_, _, rfl, by rw [h0]; exact World.ownsRow_nil _ _ _ _, Below.refl _ _⟩
  · obtain ⟨i, hi, hz, hs, hby⟩ := info_parts val_info
    have hl : (valC vs).length = N * 3 := by rw [valC_len, hA.1]
    have hcs : ∀ (j : Nat) (u : Value), (valC vs)[j]? = some u → w.cell? ((⟨b, off, none⟩ : Addr).add j) = some u := by
      intro j u hj
      obtain ⟨k, v, hv, hc⟩ := valC_get hj
      obtain ⟨c0, c1, c2⟩ := hcell k v hv
      rw [Addr.add_lit]
      rcases hc with ⟨rfl, rfl⟩ | ⟨rfl, rfl⟩ | ⟨rfl, rfl⟩
      · exact c0
      · rw [← Nat.add_assoc]; exact c1
      · rw [← Nat.add_assoc]; exact c2
    have hown0 : w.ownsRow w.heap.size 33 3 (.slice none 0 0) 0 [] := World.ownsRow_nil _ _ _ _
    go_enter Tryz.func15, Tryz.ntmps15
    go_wp2_with (at_builtin; refine wpList_append_own _ rfl _ _ 30 rfl w.heap.size 33 i _ 3 32 Tryz.underlying30 hi hz hs hby rfl (by decide) _ _ _ rfl hown0 ⟨b, off, none⟩ N c (valC vs) rfl hl hcs (valC_one vs) (by unfold maxLen; omega) (by omega) (Nat.le_refl _) ?_)
    intro v' w' hown' hgrow _
    obtain ⟨p', c', rfl⟩ := vshape hown'
    go_wp2
    go_ret
    refine ⟨p', c', rfl, by simpa using hown', ?_⟩
    exact (Below.refl _ w).grown hgrow (Nat.le_refl _) (fun k hk => by simp [Value.ownBlock] at hk)

end Go.Proofs.YtdapnemcdgjeeaaGreatDoor
