/- Walks: rows by their marks: marks, Distinct (package sorter). Walks: the marks of rows; the rows whose marks are met, or not (package sorter). -/
import Derived.Test.YtdapnemcdgjeeaaGreatDoorMkA
import Derived.Test.YtdapnemcdgjeeaaGreatDoorSorB
import Derived.Test.YtdapnemcdgjeeaaGreatDoorSets
import Derived.Maps.OwnOps
import Derived.Maps.OwnSet
import Derived.Deep.RegionHeld3
set_option maxRecDepth 100000
set_option linter.unusedVariables false
set_option linter.unusedSimpArgs false
namespace Go.Proofs.YtdapnemcdgjeeaaGreatDoor
open Go.RowKit Go.WideMaps Go.Maps

/-- rows whose numbers are int64 and whose texts are short -/
def RowsI (rows : List (List Val.V)) : Prop := ∀ r ∈ rows, ∀ v ∈ r, Val.inr v.kind ∧ Val.inr v.int ∧ v.text.length ≤ 1048576
/-- a map that holds just the marks of some rows -/
structure MetOf (T : Lib.PrintTabs) (rows : List (List Val.V)) (D : DataW Unit) : Prop where
  isMap : IsMap D
  has : ∀ r, (∀ v ∈ r, Val.inr v.kind ∧ Val.inr v.int) → Maps.has D (.string (Quo.markB T r)) = decide (r ∈ rows)
theorem MetOf.nil (T : Lib.PrintTabs) : MetOf T [] (.map []) := ⟨isMap_empty, fun r _ => by simp [Maps.has]⟩
theorem MetOf.put {T : Lib.PrintTabs} {rows : List (List Val.V)} {D : DataW Unit} (h : MetOf T rows D) {x : List Val.V} (hx : ∀ v ∈ x, Val.inr v.kind ∧ Val.inr v.int) (d : DataW Unit) : MetOf T (rows ++ [x]) (D.put (.string (Quo.markB T x)) d) := by
  refine ⟨h.isMap.put _ _, fun r hr => ?_⟩
  by_cases e : r = x
  · subst e
    rw [has_put_same h.isMap (show WideAt.IsKeyLit (.string _) from trivial)]
    simp
  · rw [has_put_other (fun e' => e ((Quo.mark_inj T hr hx).1 (by injection e'))), h.has r hr]
    simp [e]
theorem MetOf.same {T : Lib.PrintTabs} {rows rows' : List (List Val.V)} {D : DataW Unit} (h : MetOf T rows D) (e : ∀ r, r ∈ rows ↔ r ∈ rows') : MetOf T rows' D := ⟨h.isMap, fun r hr => by rw [h.has r hr]; simp [e]⟩
theorem keyed : Keyed Tryz.prog 9 := string_keyed Tryz.underlying9
theorem zero_int (w : World) : (zeroValue 3).run Tryz.prog w = .ok (.int .i64 0) w := by kernel_rfl
theorem mark_key {m : List UInt8} (h : m.length ≤ 140737488355328) : keyOf Tryz.prog 9 (.string (bs m)) = some (.string m) := keyOf_string_mk Tryz.underlying9 (s := bs m) (by rw [bs_size]; unfold maxLen; omega)
theorem mark_short (T : Lib.PrintTabs) {r : List Val.V} (hr : r.length ≤ 1048576) (h : ∀ v ∈ r, Val.inr v.kind ∧ Val.inr v.int ∧ v.text.length ≤ 1048576) : (Quo.markB T r).length ≤ 140737488355328 := by
  have h1 := mark_len T r h
  have h2 : r.length * 10485806 ≤ 1048576 * 10485806 := Nat.mul_le_mul_right _ hr
  omega
/-- a map's block is no row -/
theorem RowsOwn.kept {W W' : World} {base n mb : Nat} {v : Value} {rows : List (List Val.V)} (h : RowsOwn W base v n rows) {k : TypeId} {R : Value → Option (DataW Unit × List MemPlace)} {m : Nat} {D : DataW Unit} (hm : W.ownsMap Tryz.prog k R mb m D) (hg : W.grownBy W' (some mb)) : RowsOwn W' base v n rows := by
  obtain ⟨cs, h1, h2, h3, h4⟩ := h
  obtain ⟨es, clock, hmb, _⟩ := hm
  have hno : v.ownBlock ≠ some mb := by
    intro e
    rcases h1.2 with ⟨rfl, _⟩ | ⟨g, cap, cur, rfl, _, hgg, _⟩
    · simp [Value.ownBlock] at e
    · simp [Value.ownBlock] at e
      subst e
      rw [hgg] at hmb; simp at hmb
  refine ⟨cs, h1.kept hg (.inr hno), h2, h3, fun i u r hu hr => ?_⟩
  obtain ⟨q, c, hq, hs, hv, hne⟩ := h4 i u r hu hr
  refine ⟨q, c, hq, hs, vals_kept hv hg ?_, hne⟩
  rcases hv.2 with h0 | ⟨b, off, rfl, _, hc⟩
  · exact .inl h0
  · by_cases hr0 : r = []
    · exact .inl hr0
    · refine .inr fun b' off' e e2 => ?_
      injection e with e; injection e with e1
      injection e2 with e2
      subst e1 e2
      obtain ⟨x, r', rfl⟩ := List.exists_cons_of_ne_nil hr0
      have := (hc 0 x rfl).1
      simp [World.cell?, hmb] at this
theorem map_kept {W W' : World} {base n mb : Nat} {v : Value} {rows : List (List Val.V)} (h : RowsOwn W base v n rows) {k : TypeId} {R : Value → Option (DataW Unit × List MemPlace)} {m : Nat} {D : DataW Unit} (hm : W.ownsMap Tryz.prog k R mb m D) (hg : W.grownBy W' v.ownBlock) : W'.ownsMap Tryz.prog k R mb m D := by
  refine hm.kept hg fun e => ?_
  obtain ⟨cs, h1, _⟩ := h
  obtain ⟨es, clock, hmb, _⟩ := hm
  rcases h1.2 with ⟨rfl, _⟩ | ⟨g, cap, cur, rfl, _, hgg, _⟩
  · simp [Value.ownBlock] at e
  · simp [Value.ownBlock] at e
    subst e
    rw [hgg] at hmb; simp at hmb
theorem map_below {W W' : World} {mb : Nat} {k : TypeId} {R : Value → Option (DataW Unit × List MemPlace)} {m : Nat} {D : DataW Unit} (hm : W.ownsMap Tryz.prog k R mb m D) (hb : Below W.heap.size W W') : W'.ownsMap Tryz.prog k R mb m D :=
  hm.kept (row := none) ⟨hb.os, hb.tape, hb.output, hb.size, fun k hk _ => hb.block k hk⟩ (by simp)

set_option maxHeartbeats 4000000 in
theorem sdistinct_is (T : Lib.PrintTabs) (p : Option Addr) (N c : Nat) (rows : List (List Val.V)) (w : World) (hR : RowsAt w p N rows) (hB : RowsB rows) (hI : RowsI rows) (hT : Tabs T w) :
    Calls Tryz.prog 31 #[.slice p N c] w (RowsP (Sets.dd rows).length (Sets.dd rows) w) := by
  have hlen := hR.1
  have hN : N ≤ 8388608 := by rw [← hlen]; exact hB.1
  have hmm := @run_makeMap Tryz.prog
  replace hlen := Lib.hid hlen
  replace hB := Lib.hid hB
  replace hI := Lib.hid hI
  replace hT := Lib.hid hT
  go_enter Tryz.func31, Tryz.ntmps31
  go_wp2
  go_loopw [4, 13] (fun ov iv wr => ∃ (q : Option Addr) (n i co : Nat) (D : DataW Unit), ov = .slice q n co ∧ iv = .int .i64 (i : Int) ∧ i ≤ N ∧ n ≤ i ∧ RowsOwn wr w.heap.size (.slice q n co) n (Sets.dd (rows.take i)) ∧ wr.ownsMap Tryz.prog 9 (plainElem Tryz.prog 3) w.heap.size i D ∧ Hid (MetOf T (rows.take i) D) ∧ Below w.heap.size w wr) (fun _ iv _ => N - (intOf iv).toNat)
  case atStart => exact ⟨none, 0, 0, 0, .map [], rfl, by go_num, by omega, by omega, RowsOwn.nil _ _, World.ownsMap_made _ _ _ _, Lib.hid (MetOf.nil T), (Below.refl _ _).alloc (Nat.le_refl _) _⟩
  case round =>
    obtain ⟨q, n, i, co, D, rfl, rfl, hi, hni, hrow, hmap, hmet, hb⟩ := hrel
    by_cases hlt : i < N
    · have hlB : decide ((i : Int) < (N : Int)) = true := by simp; omega
      obtain ⟨r, b, off, q', c', hr, rfl, hbl, c0', hs, hv0⟩ := hR.at hlt
      have c0 : wr.cell? ⟨b, off + i, none⟩ = some (.slice q' r.length c') := (hb.cell (p := ⟨b, _, none⟩) hbl).trans c0'
      have hv := hv0.below hb
      have hmem := List.mem_of_getElem? hr
      have hrl := (hB.out.2 r hmem).1
      have hri := hI.out r hmem
      have hri2 : ∀ v ∈ r, Val.inr v.kind ∧ Val.inr v.int := fun v h => ⟨(hri v h).1, (hri v h).2.1⟩
      have hsn : rows.take (i + 1) = rows.take i ++ [r] := by rw [List.take_add_one, hr]; rfl
      have hhas := hmet.out.has r hri2
      have hkey := mark_key (mark_short T hrl hri)
      have i0 : (0 : Int) ≤ (i : Int) := by omega
      have i1 : (i : Int) < (N : Int) := by omega
      have hX := hrow.le
      have hwf : (Lit.int .i64 (i : Int)).wf = true := WalkArith.wf_i64 (by omega)
      replace hsn := Lib.hid hsn
      replace hr := Lib.hid hr
      replace hri := Lib.hid hri
      replace hri2 := Lib.hid hri2
      obtain ⟨m, hm⟩ : ∃ m, Quo.markB T r = m := ⟨_, rfl⟩
      rw [hm] at hkey hhas
      replace hm := Lib.hid hm
      by_cases hin : r ∈ rows.take i
      · rw [decide_eq_true hin] at hhas
        have hdd : Sets.dd (rows.take (i + 1)) = Sets.dd (rows.take i) := by
          rw [hsn.out]
          unfold Sets.dd
          rw [Sets.ddF_snoc, if_pos (by rw [Sets.mem_ddF]; exact .inr hin)]
        have hmet2 : MetOf T (rows.take (i + 1)) D := hmet.out.same fun x => by
          rw [hsn.out, List.mem_append, List.mem_singleton]
          exact ⟨.inl, fun h => h.elim id fun e => e ▸ hin⟩
        replace hdd := Lib.hid hdd
        replace hhas := Lib.hid hhas
        clear hin hmet
        go_wp2_with (first
          | (go_at_call 55; refine (mark_any T q' r.length c' r wr hv hrl hri.out (hT.out.below hb)).mono ?_; rintro e w1 ⟨rfl, hb1⟩; rw [hm.out]; have hmap1 := map_below hmap hb1)
          | (at_lookup; refine wpList_lookup_own_ok_int _ rfl _ _ 98 rfl 9 3 .i64 keyed Tryz.underlying98 Tryz.underlying3 (zero_int _) w.heap.size i D rfl hmap1 _ _ rfl hkey ?_; intro c1 hat hwc; rw [hhas.out]; clear hat hwc))
        go_roundw
        case rel => exact ⟨q, n, i + 1, co, D, rfl, by go_num, by omega, by omega, by rw [hdd.out]; exact hrow.below hb1, hmap1.mono (by omega), Lib.hid hmet2, hb.trans (hb1.mono hb.size)⟩
        case measure => simp [intOf]; omega
      · rw [decide_eq_false hin] at hhas
        have hdd : Sets.dd (rows.take (i + 1)) = Sets.dd (rows.take i) ++ [r] := by
          rw [hsn.out]
          unfold Sets.dd
          rw [Sets.ddF_snoc, if_neg (by rw [Sets.mem_ddF]; simp [hin])]
        have hmet2 : MetOf T (rows.take (i + 1)) (D.put (.string m) (.lit (.int .i64 (i : Int)))) := by
          rw [hsn.out, ← hm.out]; exact hmet.out.put hri2.out _
        replace hdd := Lib.hid hdd
        replace hhas := Lib.hid hhas
        replace hmet2 := Lib.hid hmet2
        clear hin hmet
        go_wp2_with (first
          | (go_at_call 55; refine (mark_any T q' r.length c' r wr hv hrl hri.out (hT.out.below hb)).mono ?_; rintro e w1 ⟨rfl, hb1⟩; rw [hm.out]; have hmap1 := map_below hmap hb1)
          | (at_lookup; refine wpList_lookup_own_ok_int _ rfl _ _ 98 rfl 9 3 .i64 keyed Tryz.underlying98 Tryz.underlying3 (zero_int _) w.heap.size i D rfl hmap1 _ _ rfl hkey ?_; intro c1 hat hwc; rw [hhas.out]; clear hat hwc)
          | (at_mapUpdate; refine wpList_mapUpdate_own _ rfl _ _ _ 98 rfl 9 3 keyed Tryz.underlying98 _ w.heap.size i _ rfl hmap1 (by unfold maxLen; omega) _ _ _ rfl rfl hkey _ [] (plainElem_int Tryz.underlying3 hwf) ?_; intro w2 hmap2 hg2; have hrow2 := (hrow.below hb1).kept hmap1 hg2; have hb2 := (hb.trans (hb1.mono hb.size)).grown hg2 (Nat.le_trans hb.size hb1.size) (fun j hj => by cases hj; exact Nat.le_refl _))
          | (go_at_call 43; refine (clone_is q' r.length c' r w2 (hv0.below hb2) hs hrl).mono ?_; rintro e w3 ⟨q1, c1, rfl, hown1, hb3⟩)
          | (at_builtin; go_must (refine wpList_pushRow rfl rfl _ _ rfl w.heap.size (.slice q n co) n (Sets.dd (rows.take i)) rfl (hrow2.below hb3) _ r (ElAt.own hown1 rfl (fun m hm => (hrow2.le m hm).2)) rfl (by omega) (Nat.le_trans hb2.size hb3.size) ?_); intro q2 c2 w4 hown2 hb4 hg4))
        go_roundw
        case rel => exact ⟨q2, n + 1, i + 1, c2, _, rfl, by go_num, by omega, by omega, by rw [hdd.out]; exact hown2, map_kept (hrow2.below hb3) (map_below hmap2 hb3) hg4, hmet2, (hb2.trans (hb3.mono hb2.size)).trans hb4⟩
        case measure => simp [intOf]; omega
    · have hlB : decide ((i : Int) < (N : Int)) = false := by simp; omega
      rw [List.take_of_length_le (by rw [hlen.out]; omega)] at hrow
      have hn : n = (Sets.dd rows).length := by obtain ⟨_, _, _, h3, _⟩ := hrow; exact h3.symm
      subst hn
      go_wp2
      go_ret
      exact ⟨q, co, rfl, hrow, hb⟩
end Go.Proofs.YtdapnemcdgjeeaaGreatDoor

namespace Go.Proofs.YtdapnemcdgjeeaaGreatDoor
open Go.RowKit Go.WideMaps Go.Maps

/-- what marks answers -/
def MarksP (T : Lib.PrintTabs) (rows : List (List Val.V)) (w : World) (e : Ending) (w' : World) : Prop :=
  ∃ (mb n : Nat) (D : DataW Unit), e = .returned (.map (some mb)) ∧ w'.ownsMap Tryz.prog 9 (plainElem Tryz.prog 3) mb n D ∧ MetOf T rows D ∧ n ≤ 8388608 ∧ Below w.heap.size w w'

set_option maxHeartbeats 4000000 in
theorem smarks_is (T : Lib.PrintTabs) (p : Option Addr) (N c : Nat) (rows : List (List Val.V)) (w : World) (hR : RowsAt w p N rows) (hB : RowsB rows) (hI : RowsI rows) (hT : Tabs T w) :
    Calls Tryz.prog 56 #[.slice p N c] w (MarksP T rows w) := by
  have hlen := hR.1
  have hN : N ≤ 8388608 := by rw [← hlen]; exact hB.1
  have hmm := @run_makeMap Tryz.prog
  replace hlen := Lib.hid hlen
  replace hB := Lib.hid hB
  replace hI := Lib.hid hI
  replace hT := Lib.hid hT
  go_enter Tryz.func56, Tryz.ntmps56
  go_wp2
  go_loopw [9] (fun iv wr => ∃ (i : Nat) (D : DataW Unit), iv = .int .i64 (i : Int) ∧ i ≤ N ∧ wr.ownsMap Tryz.prog 9 (plainElem Tryz.prog 3) w.heap.size i D ∧ Hid (MetOf T (rows.take i) D) ∧ Below w.heap.size w wr) (fun iv _ => N - (intOf iv).toNat)
  case atStart => exact ⟨0, .map [], by go_num, by omega, World.ownsMap_made _ _ _ _, Lib.hid (MetOf.nil T), (Below.refl _ _).alloc (Nat.le_refl _) _⟩
  case round =>
    obtain ⟨i, D, rfl, hi, hmap, hmet, hb⟩ := hrel
    by_cases hlt : i < N
    · have hlB : decide ((i : Int) < (N : Int)) = true := by simp; omega
      obtain ⟨r, b, off, q', c', hr, rfl, hbl, c0', hs, hv0⟩ := hR.at hlt
      have c0 : wr.cell? ⟨b, off + i, none⟩ = some (.slice q' r.length c') := (hb.cell (p := ⟨b, _, none⟩) hbl).trans c0'
      have hv := hv0.below hb
      have hmem := List.mem_of_getElem? hr
      have hrl := (hB.out.2 r hmem).1
      have hri := hI.out r hmem
      have hri2 : ∀ v ∈ r, Val.inr v.kind ∧ Val.inr v.int := fun v h => ⟨(hri v h).1, (hri v h).2.1⟩
      have hsn : rows.take (i + 1) = rows.take i ++ [r] := by rw [List.take_add_one, hr]; rfl
      have hkey := mark_key (mark_short T hrl hri)
      have i0 : (0 : Int) ≤ (i : Int) := by omega
      have i1 : (i : Int) < (N : Int) := by omega
      have hwf : (Lit.int .i64 (i : Int)).wf = true := WalkArith.wf_i64 (by omega)
      have hmet2 : MetOf T (rows.take (i + 1)) (D.put (.string (Quo.markB T r)) (.lit (.int .i64 (i : Int)))) := by rw [hsn]; exact hmet.out.put hri2 _
      obtain ⟨m, hm⟩ : ∃ m, Quo.markB T r = m := ⟨_, rfl⟩
      rw [hm] at hkey hmet2
      replace hm := Lib.hid hm
      replace hmet2 := Lib.hid hmet2
      replace hri := Lib.hid hri
      clear hsn hr hmet hri2 c0' hv0
      go_wp2_with (first
        | (go_at_call 55; refine (mark_any T q' r.length c' r wr hv hrl hri.out (hT.out.below hb)).mono ?_; rintro e w1 ⟨rfl, hb1⟩; rw [hm.out]; have hmap1 := map_below hmap hb1)
        | (at_mapUpdate; refine wpList_mapUpdate_own _ rfl _ _ _ 98 rfl 9 3 keyed Tryz.underlying98 _ w.heap.size i _ rfl hmap1 (by unfold maxLen; omega) _ _ _ rfl rfl hkey _ [] (plainElem_int Tryz.underlying3 hwf) ?_; intro w2 hmap2 hg2; have hb2 := (hb.trans (hb1.mono hb.size)).grown hg2 (Nat.le_trans hb.size hb1.size) (fun j hj => by cases hj; exact Nat.le_refl _)))
      go_roundw
      case rel => exact ⟨i + 1, _, by go_num, by omega, hmap2, hmet2, hb2⟩
      case measure => simp [intOf]; omega
    · have hlB : decide ((i : Int) < (N : Int)) = false := by simp; omega
      have hm := hmet.out
      rw [List.take_of_length_le (by rw [hlen.out]; omega)] at hm
      replace hm := Lib.hid hm
      clear hmet
      go_wp2
      go_ret
      exact ⟨w.heap.size, i, D, rfl, hmap, hm.out, by omega, hb⟩

/-- the rows of a list that stand in another one, or don't -/
def keepV (b : List (List Val.V)) (want : Bool) (rows : List (List Val.V)) : List (List Val.V) := rows.filter fun r => decide (r ∈ b) == want
theorem keep_snoc (b : List (List Val.V)) (want : Bool) (l : List (List Val.V)) (r : List Val.V) : keepV b want (l ++ [r]) = if (decide (r ∈ b) == want) = true then keepV b want l ++ [r] else keepV b want l := by
  unfold keepV
  rw [List.filter_append, List.filter_cons]
  split <;> simp
theorem keep_len (b : List (List Val.V)) (want : Bool) (l : List (List Val.V)) : (keepV b want l).length ≤ l.length := List.length_filter_le _ _
theorem keepM {w W W' : World} {g : Nat} {x : Value} (l : g < w.heap.size) (h : W.cell? ⟨g, 0, none⟩ = some x ∧ Below w.heap.size w W) (hb : Below W.heap.size W W') : W'.cell? ⟨g, 0, none⟩ = some x ∧ Below w.heap.size w W' :=
  ⟨(hb.cell (p := ⟨g, _, none⟩) (Nat.lt_of_lt_of_le l h.2.size)).trans h.1, h.2.trans (hb.mono h.2.size)⟩
theorem keepM0 {w W : World} {g : Nat} {x : Value} (h : W.cell? ⟨g, 0, none⟩ = some x ∧ Below w.heap.size w W) : W.drew.cell? ⟨g, 0, none⟩ = some x ∧ Below w.heap.size w W.drew := ⟨h.1, h.2.drew⟩
/-- the mark of a row, in whatever later world -/
structure MarkOk (w : World) (q : Option Addr) (n c : Nat) (m : List UInt8) : Prop where
  on : ∀ W, Below w.heap.size w W → Calls Tryz.prog 55 #[.slice q n c] W fun e w' => e = .returned (.string (bs m)) ∧ Below W.heap.size W w'
theorem MarkOk.use {w W : World} {q : Option Addr} {n c g : Nat} {m : List UInt8} {x : Value} (h : MarkOk w q n c m) (hS : W.cell? ⟨g, 0, none⟩ = some x ∧ Below w.heap.size w W) : Calls Tryz.prog 55 #[.slice q n c] W fun e w' => e = .returned (.string (bs m)) ∧ Below W.heap.size W w' := h.on W hS.2
theorem look_met {w W w3 : World} {mb n g : Nat} {D : DataW Unit} {x : Value} {m : List UInt8} {h : Bool} (hm : w.ownsMap Tryz.prog 9 (plainElem Tryz.prog 3) mb n D) (hS : W.cell? ⟨g, 0, none⟩ = some x ∧ Below w.heap.size w W) (hb : Below W.heap.size W w3) (hkey : keyOf Tryz.prog 9 (.string (bs m)) = some (.string m)) (hh : Hid (Maps.has D (.string m) = h)) :
    ∃ v, (Instr.lookup 98 (.map (some mb)) (.string (bs m)) true).run Tryz.prog w3 = .ok (.tuple #[v, .bool h]) w3 := by
  obtain ⟨v, ps, hr, _⟩ := (map_below hm (hS.2.trans (hb.mono hS.2.size))).look_ok keyed Tryz.underlying98 (zero_int _) (plainElem_int Tryz.underlying3 (by decide)) hkey
  exact ⟨v, by rw [hr, hh.out]⟩

theorem rowsOwn_base {W : World} {b1 b2 n : Nat} {v : Value} {rows : List (List Val.V)} (h : RowsOwn W b1 v n rows) (hb : b2 ≤ b1) : RowsOwn W b2 v n rows := by
  obtain ⟨cs, h1, h2, h3, h4⟩ := h
  refine ⟨cs, ⟨h1.1, ?_⟩, h2, h3, h4⟩
  rcases h1.2 with h | ⟨g, cap, cur, e, hg, rest⟩
  · exact .inl h
  · exact .inr ⟨g, cap, cur, e, Nat.le_trans hb hg, rest⟩
set_option maxHeartbeats 4000000 in
theorem skeep_is (T : Lib.PrintTabs) (want : Bool) (p : Option Addr) (N c : Nat) (rows brows : List (List Val.V)) (g1 g2 mb mn : Nat) (D : DataW Unit) (w : World) (hR : RowsAt w p N rows) (hB : RowsB rows) (hI : RowsI rows) (hT : Tabs T w)
    (h1 : w.cell? ⟨g1, 0, none⟩ = some (.slice p N c)) (h2 : w.cell? ⟨g2, 0, none⟩ = some (.map (some mb))) (l2 : g2 < w.heap.size) (hmap : w.ownsMap Tryz.prog 9 (plainElem Tryz.prog 3) mb mn D) (hmet : MetOf T brows D) :
    Calls Tryz.prog 57 #[.bool want, .pointer (some ⟨g1, 0, none⟩), .pointer (some ⟨g2, 0, none⟩)] w (RowsP (Sets.dd (keepV brows want rows)).length (Sets.dd (keepV brows want rows)) w) := by
  have hlen := hR.1
  have hN : N ≤ 8388608 := by rw [← hlen]; exact hB.1
  replace hlen := Lib.hid hlen
  replace hB := Lib.hid hB
  replace hI := Lib.hid hI
  replace hT := Lib.hid hT
  replace hmet := Lib.hid hmet
  go_enter Tryz.func57, Tryz.ntmps57
  go_wp2
  go_loopw [5, 12] (fun ov iv wr => ∃ (q : Option Addr) (n i co : Nat), ov = .slice q n co ∧ iv = .int .i64 (i : Int) ∧ i ≤ N ∧ n ≤ i ∧ RowsOwn wr w.heap.size (.slice q n co) n (keepV brows want (rows.take i)) ∧ Below w.heap.size w wr) (fun _ iv _ => N - (intOf iv).toNat)
  case atStart => exact ⟨none, 0, 0, 0, rfl, by go_num, by omega, by omega, RowsOwn.nil _ _, Below.refl _ _⟩
  case round =>
    obtain ⟨q, n, i, co, rfl, rfl, hi, hni, hrow, hb⟩ := hrel
    by_cases hlt : i < N
    · have hlB : decide ((i : Int) < (N : Int)) = true := by simp; omega
      obtain ⟨r, b, off, q', c', hr, rfl, hbl, c0', hs, hv0⟩ := hR.at hlt
      have c0 : wr.cell? ⟨b, off + i, none⟩ = some (.slice q' r.length c') := (hb.cell (p := ⟨b, _, none⟩) hbl).trans c0'
      have k2 : wr.cell? ⟨g2, 0, none⟩ = some (.map (some mb)) := (hb.cell (p := ⟨g2, _, none⟩) l2).trans h2
      have hmem := List.mem_of_getElem? hr
      have hrl := (hB.out.2 r hmem).1
      have hri := hI.out r hmem
      have hhas := hmet.out.has r (fun v h => ⟨(hri v h).1, (hri v h).2.1⟩)
      have hsn : rows.take (i + 1) = rows.take i ++ [r] := by rw [List.take_add_one, hr]; rfl
      have hks := keep_snoc brows want (rows.take i) r
      rw [← hsn] at hks
      have hkey := mark_key (mark_short T hrl hri)
      have hmk : MarkOk wr q' r.length c' (Quo.markB T r) := ⟨fun W hbW => mark_any T q' r.length c' r W ((hv0.below hb).below hbW) hrl hri ((hT.out.below hb).below hbW)⟩
      have hmapr := map_below hmap hb
      have l2r : g2 < wr.heap.size := Nat.lt_of_lt_of_le l2 hb.size
      have i0 : (0 : Int) ≤ (i : Int) := by omega
      have i1 : (i : Int) < (N : Int) := by omega
      have H0 : wr.cell? ⟨g2, 0, none⟩ = some (.map (some mb)) ∧ Below wr.heap.size wr wr := ⟨k2, Below.refl _ _⟩
      obtain ⟨m, hm⟩ : ∃ m, Quo.markB T r = m := ⟨_, rfl⟩
      rw [hm] at hkey hmk hhas
      obtain ⟨hh, hhe⟩ : ∃ hh, decide (r ∈ brows) = hh := ⟨_, rfl⟩
      rw [hhe] at hhas hks
      replace hhas := Lib.hid hhas
      clear hm hhe hsn hr hri hmem c0' k2
      cases hw : (hh == want) with
      | true =>
        rw [if_pos hw] at hks
        replace hks := Lib.hid hks
        go_wp2_with fail
        go_region_held3 (fun W => W.cell? ⟨g2, 0, none⟩ = some (.map (some mb)) ∧ Below wr.heap.size wr W) (first | assumption | exact keepM l2r (by assumption) (by assumption) | exact keepM0 (by assumption)) (first
          | (go_at_call 55; refine (MarkOk.use hmk (by assumption)).mono ?_; rintro e w3 ⟨rfl, hb3⟩; obtain ⟨v, hrun⟩ := look_met hmapr (by assumption) hb3 hkey hhas))
        rename_i hS3
        have hb3 := hS3.2
        have hrow3 := hrow.below hb3
        have hel := ElAt.old (W := w3) (base := w.heap.size) (n := n) (v := .slice q n co) hv0 (hb.trans (hb3.mono hb.size)) hs (fun m hm => (hrow.le m hm).1)
        clear hrun
        go_wp2_with (at_builtin; go_must (refine wpList_pushRow rfl rfl _ _ rfl w.heap.size (.slice q n co) n (keepV brows want (rows.take i)) rfl hrow3 _ r hel rfl (by omega) (Nat.le_trans hb.size hb3.size) ?_); intro q2 c2 w4 hown2 hb4 hg4)
        go_roundw
        case rel => exact ⟨q2, n + 1, i + 1, c2, rfl, by go_num, by omega, by omega, by rw [hks.out]; exact hown2, (hb.trans (hb3.mono hb.size)).trans hb4⟩
        case measure => simp [intOf]; omega
      | false =>
        rw [if_neg (by rw [hw]; simp)] at hks
        replace hks := Lib.hid hks
        go_wp2_with fail
        go_region_held3 (fun W => W.cell? ⟨g2, 0, none⟩ = some (.map (some mb)) ∧ Below wr.heap.size wr W) (first | assumption | exact keepM l2r (by assumption) (by assumption) | exact keepM0 (by assumption)) (first
          | (go_at_call 55; refine (MarkOk.use hmk (by assumption)).mono ?_; rintro e w3 ⟨rfl, hb3⟩; obtain ⟨v, hrun⟩ := look_met hmapr (by assumption) hb3 hkey hhas))
        rename_i hS3
        have hb3 := hS3.2
        have hrow3 := hrow.below hb3
        clear hrun
        go_wp2
        go_roundw
        case rel => exact ⟨q, n, i + 1, co, rfl, by go_num, by omega, by omega, by rw [hks.out]; exact hrow3, hb.trans (hb3.mono hb.size)⟩
        case measure => simp [intOf]; omega
    · have hlB : decide ((i : Int) < (N : Int)) = false := by simp; omega
      rw [List.take_of_length_le (by rw [hlen.out]; omega)] at hrow
      have hRk := hrow.rows
      have hBk : RowsB (keepV brows want rows) := ⟨Nat.le_trans (keep_len _ _ _) hB.out.1, fun r hr => hB.out.2 r ((List.mem_filter.1 hr).1)⟩
      have hIk : RowsI (keepV brows want rows) := fun r hr => hI.out r ((List.mem_filter.1 hr).1)
      replace hBk := Lib.hid hBk
      replace hIk := Lib.hid hIk
      go_wp2_with (go_at_call 31; refine (sdistinct_is T q n co (keepV brows want rows) wr hRk hBk.out hIk.out (hT.out.below hb)).mono ?_; rintro e w3 ⟨q3, c3, rfl, hown3, hb3⟩)
      go_ret
      exact ⟨q3, c3, rfl, rowsOwn_base hown3 hb.size, hb.trans (hb3.mono hb.size)⟩
end Go.Proofs.YtdapnemcdgjeeaaGreatDoor

