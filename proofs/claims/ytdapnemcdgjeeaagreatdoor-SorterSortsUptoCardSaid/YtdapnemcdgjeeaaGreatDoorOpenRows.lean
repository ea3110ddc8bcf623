/- Slices of rows that came in: their cells, and what the bound on their reading gives. -/
import Derived.Test.YtdapnemcdgjeeaaGreatDoorOpenVals
import Derived.Test.YtdapnemcdgjeeaaGreatDoorCmpd
import Derived.ChangeSlices
set_option maxRecDepth 100000
set_option linter.unusedVariables false
set_option linter.unusedSimpArgs false
namespace Go.Proofs.YtdapnemcdgjeeaaGreatDoor
open Go.ChangeShapes Go.WideShapes Go.ChangeAt Go.RowKit Go.Deep

theorem rowCells1 : Tryz.prog.cellsOf 30 = 1 := by kernel_rfl
set_option maxRecDepth 100000 in
theorem open_valsK {H : Type} {enc : TypeId × Value → H} {W : World} {q : Option Addr} {N c : Nat} {d : DataW H} {ps : List MemPlace} (hd : DataW.Trod enc Tryz.prog W 0 (fun _ => true) true 30 (.slice q N c) d ps) (hb : Rows.uptoBulk d ≤ 1048576) :
    ∃ gs, ValsAt W q N gs ∧ SlOk q N c ∧ N ≤ 1048576 ∧ ∀ g ∈ gs, g.text.length ≤ 1048576 ∧ Val.inr g.kind ∧ Val.inr g.int := by
  obtain ⟨n, hn⟩ := hd
  rcases open_slice Tryz.underlying30 hn with ⟨hc, _⟩ | ⟨a, len, cap, m, k, D, Pl, hc, _, hl, hm, hmm, hx, hall⟩
  · simp [Value.cells] at hc
    obtain ⟨rfl, rfl, rfl⟩ := hc
    exact ⟨[], ⟨rfl, .inl rfl⟩, ⟨Nat.le_refl _, fun _ => rfl⟩, by omega, by simp⟩
  · simp [Value.cells] at hc
    obtain ⟨rfl, rfl, rfl⟩ := hc
    simp only [if_true] at hmm
    have hxd : d = .slice ((List.range N).map D) ((List.range (m - N)).map fun j => D (N + j)) := (Prod.mk.inj hx).1
    have each : ∀ i, i < N → ∃ g : Val.V, W.cell? (a.add (i * 3)) = some (.int .i64 g.kind) ∧ W.cell? (a.add (i * 3 + 1)) = some (.int .i64 g.int) ∧ W.cell? (a.add (i * 3 + 2)) = some (.string (bs g.text)) ∧ D i = .agg [.lit (.int .i64 g.kind), .lit (.int .i64 g.int), .lit (.string g.text)] ∧ Val.inr g.kind ∧ Val.inr g.int := by
      intro i hi
      obtain ⟨cs', h1, h2⟩ := hall i (by omega)
      rw [valCells] at h1
      obtain ⟨_, hlen, hcell⟩ := World.cells?_some h1
      obtain ⟨y0, y1, y2, n', hx', _, g0, g1, g2⟩ := trod_struct3 Tryz.underlying33 h2
      obtain ⟨v0, v1, v2, rfl⟩ := three2 hlen
      have e0 := hcell 0 (by omega)
      have e1 := hcell 1 (by omega)
      have e2 := hcell 2 (by omega)
      rw [add_add] at e0 e1 e2
      simp only [kindCells2, int64Cells, strCells2, List.drop, List.take] at g0 g1 g2
      obtain ⟨z0, i0, j0, w0⟩ := DataW.trod_int Tryz.underlying31 g0
      obtain ⟨z1, i1, j1, w1⟩ := DataW.trod_int Tryz.underlying2 g1
      obtain ⟨z2, i2, j2, _⟩ := DataW.trod_string Tryz.underlying9 g2
      simp only [List.cons.injEq, and_true] at i0 i1 i2
      subst i0 i1 i2
      subst j0 j1 j2
      have hD := (Prod.mk.inj hx').1
      have hw : Val.inr z1 := by simpa [Val.inr, Lit.wf, IntKind.min, IntKind.max, IntKind.signed, IntKind.bits] using w1
      have hw0 : Val.inr z0 := by simpa [Val.inr, Lit.wf, IntKind.min, IntKind.max, IntKind.signed, IntKind.bits] using w0
      exact ⟨⟨z0, z1, z2.data.toList⟩, by simpa using e0, by simpa using e1, by rw [bs_of]; simpa using e2, hD, hw0, hw⟩
    haveI : Inhabited Val.V := ⟨⟨0, 0, []⟩⟩
    obtain ⟨G, hG⟩ := choose_lt each
    rw [hxd] at hb
    simp only [Rows.uptoBulk] at hb
    have hlen : N ≤ 1048576 := by
      have := bulk_lenV ((List.range N).map D)
      simp at this; omega
    refine ⟨(List.range N).map G, ⟨by simp, ?_⟩, ⟨hl, fun h => by cases h⟩, hlen, ?_⟩
    · by_cases h0 : N = 0
      · subst h0; exact .inl rfl
      · right
        obtain ⟨b, off, spot⟩ := a
        have hspot : spot = none := by simpa [Addr.add] using World.cell?_spot (hG 0 (by omega)).1
        subst hspot
        refine ⟨b, off, rfl, by have := cell_ltV (hG 0 (by omega)).1; simpa [Addr.add_lit] using this, fun k g hk => ?_⟩
        have hkl : k < N := by
          have := (List.getElem?_eq_some_iff.1 hk).1
          simpa using this
        rw [List.getElem?_map, List.getElem?_range hkl] at hk
        simp only [Option.map_some, Option.some.injEq] at hk
        subst hk
        obtain ⟨c0, c1, c2, _⟩ := hG k hkl
        rw [Addr.add_lit] at c0 c1 c2
        exact ⟨c0, by rw [Nat.add_assoc]; exact c1, by rw [Nat.add_assoc]; exact c2⟩
    · intro g hg
      obtain ⟨k, hk, rfl⟩ := List.mem_map.1 hg
      have hk := List.mem_range.1 hk
      have hD := (hG k hk).2.2.2.1
      have hw := (hG k hk).2.2.2.2
      refine ⟨?_, hw⟩
      have h1 := bulk_partV (List.mem_map_of_mem (f := D) (List.mem_range.2 hk))
      rw [hD] at h1
      simp only [Rows.uptoBulk, Rows.uptoBulkAll] at h1
      omega


set_option maxRecDepth 100000 in
theorem open_rows {H : Type} {enc : TypeId × Value → H} {W : World} {q : Option Addr} {N c : Nat} {d : DataW H} {ps : List MemPlace} (hd : DataW.Trod enc Tryz.prog W 0 (fun _ => true) true 22 (.slice q N c) d ps) (hb : Rows.uptoBulk d ≤ 1048576) :
    ∃ rows, RowsAt W q N rows ∧ N ≤ 1048576 ∧ RowsB rows ∧ RowsI rows := by
  obtain ⟨n, hn⟩ := hd
  rcases open_slice Tryz.underlying22 hn with ⟨hc, _⟩ | ⟨a, len, cap, m, k, D, Pl, hc, _, hl, hm, hmm, hx, hall⟩
  · simp [Value.cells] at hc
    obtain ⟨rfl, rfl, rfl⟩ := hc
    exact ⟨[], ⟨rfl, .inl rfl⟩, by omega, ⟨by simp, by simp⟩, fun r hr => by cases hr⟩
  · simp [Value.cells] at hc
    obtain ⟨rfl, rfl, rfl⟩ := hc
    simp only [if_true] at hmm
    have hxd : d = .slice ((List.range N).map D) ((List.range (m - N)).map fun j => D (N + j)) := (Prod.mk.inj hx).1
    rw [hxd] at hb
    simp only [Rows.uptoBulk] at hb
    have hlen : N ≤ 1048576 := by
      have := bulk_lenV ((List.range N).map D)
      simp at this; omega
    have each : ∀ i, i < N → ∃ g : List Val.V, (∃ q' c', W.cell? (a.add i) = some (.slice q' g.length c') ∧ SlOk q' g.length c' ∧ ValsAt W q' g.length g) ∧ g.length ≤ 1048576 ∧ ∀ v ∈ g, v.text.length ≤ 1048576 ∧ Val.inr v.kind ∧ Val.inr v.int := by
      intro i hi
      obtain ⟨cs', h1, h2⟩ := hall i (by omega)
      rw [rowCells1] at h1
      obtain ⟨_, hlen', hcell⟩ := World.cells?_some h1
      have e0 := hcell 0 (by omega)
      have hbi : Rows.uptoBulk (D i) ≤ 1048576 := by
        have := bulk_partV (List.mem_map_of_mem (f := D) (List.mem_range.2 hi))
        omega
      have hs : ∃ q' N' c', cs' = [.slice q' N' c'] := by
        rcases open_slice Tryz.underlying30 h2 with ⟨hc, _⟩ | ⟨a', len', cap', _, _, _, _, hc, _⟩
        · exact ⟨_, _, _, hc⟩
        · exact ⟨_, _, _, hc⟩
      obtain ⟨q', N', c', rfl⟩ := hs
      obtain ⟨gs, hv, hso, hN', hg⟩ := open_valsK (q := q') (N := N') (c := c') ⟨_, by simpa [Value.cells] using h2⟩ hbi
      obtain rfl := hv.1
      exact ⟨gs, ⟨q', c', by simpa [add_add] using e0, hso, hv⟩, hN', hg⟩
    haveI : Inhabited (List Val.V) := ⟨[]⟩
    obtain ⟨G, hG⟩ := choose_lt each
    have hmem : ∀ r ∈ (List.range N).map G, ∃ k, k < N ∧ r = G k := by
      intro r hr
      obtain ⟨k, hk, rfl⟩ := List.mem_map.1 hr
      exact ⟨k, List.mem_range.1 hk, rfl⟩
    refine ⟨(List.range N).map G, ⟨by simp, ?_⟩, hlen, ⟨by simp; omega, ?_⟩, ?_⟩
    · by_cases h0 : N = 0
      · subst h0; exact .inl rfl
      · right
        obtain ⟨b, off, spot⟩ := a
        obtain ⟨_, _, g0, _⟩ := (hG 0 (by omega)).1
        have hspot : spot = none := by simpa [Addr.add] using World.cell?_spot g0
        subst hspot
        refine ⟨b, off, rfl, by have := cell_ltV g0; simpa [Addr.add_lit] using this, fun k g hk => ?_⟩
        have hkl : k < N := by
          have := (List.getElem?_eq_some_iff.1 hk).1
          simpa using this
        rw [List.getElem?_map, List.getElem?_range hkl] at hk
        simp only [Option.map_some, Option.some.injEq] at hk
        subst hk
        obtain ⟨q', c', c0, hs, hv⟩ := (hG k hkl).1
        rw [Addr.add_lit] at c0
        exact ⟨q', c', c0, hs, hv⟩
    · intro r hr
      obtain ⟨k, hk, rfl⟩ := hmem r hr
      exact ⟨(hG k hk).2.1, fun v hv => ((hG k hk).2.2 v hv).1⟩
    · intro r hr v hv
      obtain ⟨k, hk, rfl⟩ := hmem r hr
      have := (hG k hk).2.2 v hv
      exact ⟨this.2.1, this.2.2, this.1⟩
end Go.Proofs.YtdapnemcdgjeeaaGreatDoor
