/- A slice of keys that came in: its cells. -/
import Derived.Test.YtdapnemcdgjeeaaGreatDoorOpenRows
import Derived.ChangeSlices
set_option maxRecDepth 100000
set_option linter.unusedVariables false
set_option linter.unusedSimpArgs false
namespace Go.Proofs.YtdapnemcdgjeeaaGreatDoor
open Go.ChangeShapes Go.WideShapes Go.ChangeAt Go.RowKit Go.Deep

theorem keyCells : Tryz.prog.cellsOf 107 = 3 := by kernel_rfl
theorem intCells2 : Tryz.prog.cellsOf 3 = 1 := by kernel_rfl
theorem collCells2 : Tryz.prog.cellsOf 37 = 1 := by kernel_rfl
theorem boolCells2 : Tryz.prog.cellsOf 4 = 1 := by kernel_rfl
set_option maxRecDepth 100000 in
theorem open_keys {H : Type} {enc : TypeId × Value → H} {W : World} {q : Option Addr} {N c : Nat} {d : DataW H} {ps : List MemPlace} (hd : DataW.Trod enc Tryz.prog W 0 (fun _ => true) true 23 (.slice q N c) d ps) (hb : Rows.uptoBulk d ≤ 1048576) :
    ∃ ks, KeysAt W q N ks ∧ N ≤ 1048576 := by
  obtain ⟨n, hn⟩ := hd
  rcases open_slice Tryz.underlying23 hn with ⟨hc, _⟩ | ⟨a, len, cap, m, k, D, Pl, hc, _, hl, hm, hmm, hx, hall⟩
  · simp [Value.cells] at hc
    obtain ⟨rfl, rfl, rfl⟩ := hc
    exact ⟨[], ⟨rfl, .inl rfl⟩, by omega⟩
  · simp [Value.cells] at hc
    obtain ⟨rfl, rfl, rfl⟩ := hc
    simp only [if_true] at hmm
    have hxd : d = .slice ((List.range N).map D) ((List.range (m - N)).map fun j => D (N + j)) := (Prod.mk.inj hx).1
    have each : ∀ i, i < N → ∃ g : Ord.Key, W.cell? (a.add (i * 3)) = some (.int .i64 g.col) ∧ W.cell? (a.add (i * 3 + 1)) = some (.int .i64 g.coll) ∧ W.cell? (a.add (i * 3 + 2)) = some (.bool g.desc) := by
      intro i hi
      obtain ⟨cs', h1, h2⟩ := hall i (by omega)
      rw [keyCells] at h1
      obtain ⟨_, hlen, hcell⟩ := World.cells?_some h1
      obtain ⟨y0, y1, y2, n', hx', _, g0, g1, g2⟩ := trod_struct3 Tryz.underlying107 h2
      obtain ⟨v0, v1, v2, rfl⟩ := three2 hlen
      have e0 := hcell 0 (by omega)
      have e1 := hcell 1 (by omega)
      have e2 := hcell 2 (by omega)
      rw [add_add] at e0 e1 e2
      simp only [intCells2, collCells2, boolCells2, List.drop, List.take] at g0 g1 g2
      obtain ⟨z0, i0, j0, w0⟩ := DataW.trod_int Tryz.underlying3 g0
      obtain ⟨z1, i1, j1, w1⟩ := DataW.trod_int Tryz.underlying37 g1
      obtain ⟨z2, i2, j2, _⟩ := DataW.trod_bool Tryz.underlying4 g2
      simp only [List.cons.injEq, and_true] at i0 i1 i2
      subst i0 i1 i2
      exact ⟨⟨z0, z1, z2⟩, by simpa using e0, by simpa using e1, by simpa using e2⟩
    haveI : Inhabited Ord.Key := ⟨⟨0, 0, false⟩⟩
    obtain ⟨G, hG⟩ := choose_lt each
    rw [hxd] at hb
    simp only [Rows.uptoBulk] at hb
    have hlen : N ≤ 1048576 := by
      have := bulk_lenV ((List.range N).map D)
      simp at this; omega
    refine ⟨(List.range N).map G, ⟨by simp, ?_⟩, hlen⟩
    by_cases h0 : N = 0
    · subst h0; exact .inl rfl
    · right
      obtain ⟨b, off, spot⟩ := a
      have hspot : spot = none := by simpa [Addr.add] using World.cell?_spot (hG 0 (by omega)).1
      subst hspot
      refine ⟨b, off, rfl, by have := cell_ltV (hG 0 (by omega)).1; simpa [Addr.add_lit] using this, fun k g hk => ?_⟩
      have hkl : k < N := by
        have := (List.getElem?_eq_some_iff.1 hk).1
        simpa using this
      rw [List.getElem?_map, List.getElem?_range hkl] at hk
      simp only [Option.map_some, Option.some.injEq] at hk
      subst hk
      obtain ⟨c0, c1, c2⟩ := hG k hkl
      rw [Addr.add_lit] at c0 c1 c2
      exact ⟨c0, by rw [Nat.add_assoc]; exact c1, by rw [Nat.add_assoc]; exact c2⟩
end Go.Proofs.YtdapnemcdgjeeaaGreatDoor
