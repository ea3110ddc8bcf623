/- A slice of values that came in: its cells, and what the bound on its reading gives. -/
import Derived.Test.YtdapnemcdgjeeaaGreatDoorOpenVal
import Derived.Test.YtdapnemcdgjeeaaGreatDoorVals
set_option maxRecDepth 100000
set_option linter.unusedVariables false
set_option linter.unusedSimpArgs false
namespace Go.Proofs.YtdapnemcdgjeeaaGreatDoor
open Go.ChangeShapes Go.WideShapes Go.ChangeAt Go.RowKit Go.Deep

theorem bulk_partV {H : Type} {d : DataW H} {l : List (DataW H)} (h : d ∈ l) : Rows.uptoBulk d ≤ Rows.uptoBulkAll l := by
  induction l with
  | nil => cases h
  | cons x r ih =>
    simp only [Rows.uptoBulkAll]
    rcases List.mem_cons.1 h with e | e
    · subst e; omega
    · have := ih e; omega
theorem bulk_oneV {H : Type} (d : DataW H) : 1 ≤ Rows.uptoBulk d := by
  cases d with
  | lit l => cases l <;> simp [Rows.uptoBulk]
  | nil => simp [Rows.uptoBulk]
  | ptr d => simp [Rows.uptoBulk]
  | slice elems spare => simp [Rows.uptoBulk]
  | agg parts => simp [Rows.uptoBulk]
  | iface t d => simp [Rows.uptoBulk]
  | map entries => simp [Rows.uptoBulk]
  | held h => simp [Rows.uptoBulk]
theorem bulk_lenV {H : Type} (l : List (DataW H)) : l.length ≤ Rows.uptoBulkAll l := by
  induction l with
  | nil => simp [Rows.uptoBulkAll]
  | cons x r ih => have := bulk_oneV x; simp only [Rows.uptoBulkAll, List.length_cons]; omega

theorem cell_ltV {w : World} {a : Addr} {v : Value} (h : w.cell? a = some v) : a.block < w.heap.size := by
  unfold World.cell? at h
  cases hb : w.heap[a.block]? with
  | none => simp [hb] at h
  | some o => exact (Array.getElem?_eq_some_iff.1 hb).1

set_option maxRecDepth 100000 in
theorem open_vals {H : Type} {enc : TypeId × Value → H} {W : World} {q : Option Addr} {N c : Nat} {d : DataW H} {ps : List MemPlace} (hd : DataW.Trod enc Tryz.prog W 0 (fun _ => true) true 30 (.slice q N c) d ps) (hb : Rows.uptoBulk d ≤ 1048576) :
    ∃ gs, ValsAt W q N gs ∧ N ≤ 1048576 ∧ ∀ g ∈ gs, g.text.length ≤ 1048576 ∧ -9223372036854775808 ≤ g.int ∧ g.int ≤ 9223372036854775807 := by
  obtain ⟨n, hn⟩ := hd
  rcases open_slice Tryz.underlying30 hn with ⟨hc, _⟩ | ⟨a, len, cap, m, k, D, Pl, hc, _, hl, hm, hmm, hx, hall⟩
  · simp [Value.cells] at hc
    obtain ⟨rfl, rfl, rfl⟩ := hc
    exact ⟨[], ⟨rfl, .inl rfl⟩, by omega, by simp⟩
  · simp [Value.cells] at hc
    obtain ⟨rfl, rfl, rfl⟩ := hc
    simp only [if_true] at hmm
    have hxd : d = .slice ((List.range N).map D) ((List.range (m - N)).map fun j => D (N + j)) := (Prod.mk.inj hx).1
    have each : ∀ i, i < N → ∃ g : Val.V, W.cell? (a.add (i * 3)) = some (.int .i64 g.kind) ∧ W.cell? (a.add (i * 3 + 1)) = some (.int .i64 g.int) ∧ W.cell? (a.add (i * 3 + 2)) = some (.string (bs g.text)) ∧ D i = .agg [.lit (.int .i64 g.kind), .lit (.int .i64 g.int), .lit (.string g.text)] ∧ -9223372036854775808 ≤ g.int ∧ g.int ≤ 9223372036854775807 := by
      intro i hi
      obtain ⟨cs', h1, h2⟩ := hall i (by omega)
      rw [valCells] at h1
      obtain ⟨_, hlen, hcell⟩ := World.cells?_some h1
      obtain ⟨y0, y1, y2, n', hx', _, g0, g1, g2⟩ := trod_struct3 Tryz.underlying33 h2
      obtain ⟨v0, v1, v2, rfl⟩ := three2 hlen
      have e0 := hcell 0 (by omega)
      have e1 := hcell 1 (by omega)
      have e2 := hcell 2 (by omega)
      rw [add_add] at e0 e1 e2
      simp only [kindCells2, int64Cells, strCells2, List.drop, List.take] at g0 g1 g2
      obtain ⟨z0, i0, j0, _⟩ := DataW.trod_int Tryz.underlying31 g0
      obtain ⟨z1, i1, j1, w1⟩ := DataW.trod_int Tryz.underlying2 g1
      obtain ⟨z2, i2, j2, _⟩ := DataW.trod_string Tryz.underlying9 g2
      simp only [List.cons.injEq, and_true] at i0 i1 i2
      subst i0 i1 i2
      subst j0 j1 j2
      have hD := (Prod.mk.inj hx').1
      have hw : -9223372036854775808 ≤ z1 ∧ z1 ≤ 9223372036854775807 := by simpa [Lit.wf, IntKind.min, IntKind.max, IntKind.signed, IntKind.bits] using w1
      exact ⟨⟨z0, z1, z2.data.toList⟩, by simpa using e0, by simpa using e1, by rw [bs_of]; simpa using e2, hD, hw⟩
    haveI : Inhabited Val.V := ⟨⟨0, 0, []⟩⟩
    obtain ⟨G, hG⟩ := choose_lt each
    rw [hxd] at hb
    simp only [Rows.uptoBulk] at hb
    have hlen : N ≤ 1048576 := by
      have := bulk_lenV ((List.range N).map D)
      simp at this; omega
    refine ⟨(List.range N).map G, ⟨by simp, ?_⟩, hlen, ?_⟩
    · by_cases h0 : N = 0
      · subst h0; exact .inl rfl
      · right
        obtain ⟨b, off, spot⟩ := a
        have hspot : spot = none := by simpa [Addr.add] using World.cell?_spot (hG 0 (by omega)).1
        subst hspot
        refine ⟨b, off, rfl, by have := cell_ltV (hG 0 (by omega)).1; simpa [Addr.add_lit] using this, fun k g hk => ?_⟩
        have hkl : k < N := by
          have := (List.getElem?_eq_some_iff.1 hk).1
          simpa using this
        rw [List.getElem?_map, List.getElem?_range hkl] at hk
        simp only [Option.map_some, Option.some.injEq] at hk
        subst hk
        obtain ⟨c0, c1, c2, _⟩ := hG k hkl
        rw [Addr.add_lit] at c0 c1 c2
        exact ⟨c0, by rw [Nat.add_assoc]; exact c1, by rw [Nat.add_assoc]; exact c2⟩
    · intro g hg
      obtain ⟨k, hk, rfl⟩ := List.mem_map.1 hg
      have hk := List.mem_range.1 hk
      have hD := (hG k hk).2.2.2.1
      have hw := (hG k hk).2.2.2.2
      refine ⟨?_, hw⟩
      have h1 := bulk_partV (List.mem_map_of_mem (f := D) (List.mem_range.2 hk))
      rw [hD] at h1
      simp only [Rows.uptoBulk, Rows.uptoBulkAll] at h1
      omega

end Go.Proofs.YtdapnemcdgjeeaaGreatDoor
