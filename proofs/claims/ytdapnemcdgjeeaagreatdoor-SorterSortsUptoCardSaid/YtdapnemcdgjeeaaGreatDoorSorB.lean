/- Walks: Sort (package sorter). Walks: Sort (package sorter): the library's sort at rows that the call has made. -/
import Derived.Test.YtdapnemcdgjeeaaGreatDoorRwsA
import Derived.Test.YtdapnemcdgjeeaaGreatDoorSrtA
import Derived.Deep.Slices
set_option maxRecDepth 100000
set_option linter.unusedVariables false
set_option linter.unusedSimpArgs false
namespace Go.Proofs.YtdapnemcdgjeeaaGreatDoor
open Go.RowKit
open Go.Proofs.YtdapnemcdgjeeaaGreatDoor.Ord (atV firstV standV mayRow MRow ltR ltR_swo)
open Go.Proofs.YtdapnemcdgjeeaaGreatDoor.Stb (SWO isort ins seg)

theorem swo_map {α β : Type} {lt : β → β → Bool} (h : SWO lt) (m : α → β) : SWO (fun x y => lt (m x) (m y)) := ⟨fun a => h.irr _, fun a b c => h.trans _ _ _, fun a b c => h.ntrans _ _ _⟩
theorem ins_map {α β : Type} {lt : α → α → Bool} {lt' : β → β → Bool} (m : α → β) (h : ∀ x y, lt x y = lt' (m x) (m y)) (x : α) : ∀ l : List α, (ins lt x l).map m = ins lt' (m x) (l.map m) := by
  intro l
  induction l with
  | nil => rfl
  | cons y l ih =>
    show (ins lt x (y :: l)).map m = ins lt' (m x) (m y :: l.map m)
    unfold ins
    rw [h y x]
    split
    · rw [List.map_cons, ih]
    · rfl
theorem isort_map {α β : Type} {lt : α → α → Bool} {lt' : β → β → Bool} (m : α → β) (h : ∀ x y, lt x y = lt' (m x) (m y)) : ∀ l : List α, (isort lt l).map m = isort lt' (l.map m) := by
  intro l
  induction l with
  | nil => rfl
  | cons x l ih =>
    show (ins lt x (isort lt l)).map m = ins lt' (m x) (isort lt' (l.map m))
    rw [ins_map m h, ih]
/-- rows in order -/
def ltV (ks : List Ord.Key) (width : Int) (a b : List Val.V) : Bool := decide (standV ks width a b < 0)
def sortV (ks : List Ord.Key) (width : Int) (rows : List (List Val.V)) : List (List Val.V) := isort (ltV ks width) rows

/-- a row that is sorted: the value, what it reads as -/
structure El (W0 : World) (B : Nat) where
  u : Value
  row : List Val.V
  el : ElAt W0 (some B) u row
  may : mayRow row
  len : row.length ≤ 1048576
  txt : ∀ v ∈ row, v.text.length ≤ 1048576

theorem cmp_ok {W0 : World} {B : Nat} (sk : Option Addr) (KN kc : Nat) (ks : List Ord.Key) (width : Int) (g1 g2 : Nat) (hK : KeysAt W0 sk KN ks) (hKB : ks = [] ∨ ∀ b off, sk = some ⟨b, off, none⟩ → b ≠ B) (hKN : KN ≤ 1048576)
    (h1 : W0.cell? ⟨g1, 0, none⟩ = some (.slice sk KN kc)) (h2 : W0.cell? ⟨g2, 0, none⟩ = some (.int .i64 width)) (l1 : g1 < W0.heap.size) (l2 : g2 < W0.heap.size) (n1 : g1 ≠ B) (n2 : g2 ≠ B) :
    Srt.CmpOk (fun x : El W0 B => x.u) (fun x y => ltV ks width x.row y.row) W0 B (.pointer (some ⟨g1, 0, none⟩)) (.pointer (some ⟨g2, 0, none⟩)) := by
  intro W hW x y
  obtain ⟨q, c, hu, hs, hv, hne⟩ := x.el
  obtain ⟨q', c', hu', hs', hv', hne'⟩ := y.el
  have far : ∀ {b off : Nat}, b < W0.heap.size → b ≠ B → W.cell? ⟨b, off, none⟩ = W0.cell? ⟨b, off, none⟩ := fun hl hb => hW.cell_far ⟨_, _, none⟩ hl (fun e => hb (by injection e))
  have hKW : KeysAt W sk KN ks := by
    refine ⟨hK.1, ?_⟩
    rcases hK.2 with h0 | ⟨b, off, rfl, hl, hc⟩
    · exact .inl h0
    · rcases hKB with h0 | hKB
      · exact .inl h0
      · have hb := hKB b off rfl
        refine .inr ⟨b, off, rfl, Nat.lt_of_lt_of_le hl hW.size, fun i k hk => ?_⟩
        obtain ⟨c0, c1, c2⟩ := hc i k hk
        exact ⟨(far hl hb).trans c0, (far hl hb).trans c1, (far hl hb).trans c2⟩
  have hvW := vals_kept hv hW hne
  have hvW' := vals_kept hv' hW hne'
  simp only [hu, hu']
  refine (order_is q x.row.length c q' y.row.length c' x.row y.row sk KN kc ks width g1 g2 W hvW hvW' hKW ((far l1 n1).trans h1) ((far l2 n2).trans h2) (Nat.lt_of_lt_of_le l2 hW.size) x.len y.len hKN hs.1 hs'.1 x.txt y.txt _ (Lib.hid rfl)).mono ?_
  rintro e w' ⟨rfl, hb⟩
  exact ⟨_, rfl, by unfold ltV; simp, hb⟩

theorem insertion_nil (c : Nat) (fv : Value) (w : World) : Calls Tryz.prog 87 #[.slice none 0 c, .int .i64 0, .int .i64 0, fv] w fun e w' => e = .returned (.tuple #[]) ∧ w' = w := by
  go_enter Tryz.func87, Tryz.ntmps87
  go_wp2
  refine wp_loop_rounds 1 ?_
  rw [rounds_succ]
  go_wp2
  go_end0
  exact ⟨rfl, rfl⟩
theorem stable_nil (c : Nat) (fv : Value) (w : World) : Calls Tryz.prog 63 #[.slice none 0 c, .int .i64 0, fv] w fun e w' => e = .returned (.tuple #[]) ∧ w' = w := by
  go_enter Tryz.func63, Tryz.ntmps63
  go_wp2
  refine wp_loop_rounds 1 ?_
  rw [rounds_succ]
  go_wp2_with (go_at_call 87; refine (insertion_nil c fv _).mono ?_; rintro e w1 ⟨rfl, rfl⟩)
  refine wp_loop_rounds 1 ?_
  rw [rounds_succ]
  go_wp2
  go_end0
  exact ⟨rfl, rfl⟩
theorem sortStable_nil (c : Nat) (fv : Value) (w : World) : Calls Tryz.prog 36 #[.slice none 0 c, fv] w fun e w' => e = .returned (.tuple #[]) ∧ w' = w := by
  go_enter Tryz.func36, Tryz.ntmps36
  go_wp2_with (go_at_call 63; refine (stable_nil c fv _).mono ?_; rintro e w1 ⟨rfl, rfl⟩)
  go_end0
  exact ⟨rfl, rfl⟩
end Go.Proofs.YtdapnemcdgjeeaaGreatDoor

namespace Go.Proofs.YtdapnemcdgjeeaaGreatDoor
open Go.RowKit Go.Deep
open Go.Proofs.YtdapnemcdgjeeaaGreatDoor.Ord (atV firstV standV mayRow MRow ltR ltR_swo)
open Go.Proofs.YtdapnemcdgjeeaaGreatDoor.Stb (SWO isort ins seg)

theorem el_swo {W0 : World} {B : Nat} (ks : List Ord.Key) (width : Int) : SWO (fun x y : El W0 B => ltV ks width x.row y.row) :=
  swo_map (ltR_swo ks width) (fun x : El W0 B => (⟨x.row, x.may⟩ : MRow))
theorem seg_map {α β : Type} (m : α → β) (f : Nat → α) (a b : Nat) : (seg f a b).map m = seg (fun k => m (f k)) a b := by unfold seg; rw [List.map_map]; rfl
theorem seg_list {α : Type} (l : List α) (f : Nat → α) (h : ∀ k (hk : k < l.length), f k = l[k]) : seg f 0 l.length = l := by
  unfold seg
  refine List.ext_getElem (by simp) fun i h1 h2 => ?_
  simp only [List.getElem_map, List.getElem_range']
  rw [h _ (by simpa using h2)]
  simp
theorem seg_at {α : Type} (f : Nat → α) (n k : Nat) (hk : k < n) : (seg f 0 n)[k]? = some (f k) := by
  unfold seg
  rw [List.getElem?_map, List.getElem?_range' (by omega)]
  simp
/-- what sorting answers -/
theorem sort_rows (base : Nat) (q : Option Addr) (N c : Nat) (rows : List (List Val.V)) (W0 : World) (hO : RowsOwn W0 base (.slice q N c) N rows) (hB : RowsB rows) (hM : ∀ r ∈ rows, mayRow r)
    (sk : Option Addr) (KN kc : Nat) (ks : List Ord.Key) (width : Int) (g1 g2 : Nat) (hK : KeysAt W0 sk KN ks) (hKB : ks = [] ∨ ∀ b off, sk = some ⟨b, off, none⟩ → b < base) (hKN : KN ≤ 1048576)
    (h1 : W0.cell? ⟨g1, 0, none⟩ = some (.slice sk KN kc)) (h2 : W0.cell? ⟨g2, 0, none⟩ = some (.int .i64 width)) (l1 : g1 < W0.heap.size) (l2 : g2 < W0.heap.size) (n1 : ∀ m, (Value.slice q N c).ownBlock = some m → m < g1) (n2 : ∀ m, (Value.slice q N c).ownBlock = some m → m < g2) :
    Calls Tryz.prog 36 #[.slice q N c, .func (.func 64) #[] #[.pointer (some ⟨g1, 0, none⟩), .pointer (some ⟨g2, 0, none⟩)]] W0 fun e W' => e = .returned (.tuple #[]) ∧ RowsAt W' q N (sortV ks width rows) ∧ Below base W0 W' := by
  obtain ⟨cs, hown, hcl, hrl, hel⟩ := id hO
  by_cases h0 : N = 0
  · subst h0
    obtain rfl : rows = [] := List.eq_nil_of_length_eq_zero hrl
    rcases hown.2 with ⟨e, _⟩ | ⟨g, cap, cur, e, hb, hg, hnc, hcm, hcs, htake⟩
    · injection e with e1 e2 e3
      subst e1 e3
      exact (sortStable_nil 0 _ W0).mono fun e w' ⟨he, hw⟩ => ⟨he, ⟨rfl, .inl rfl⟩, by rw [hw]; exact Below.refl _ _⟩
    · injection e with e1 e2 e3
      subst e1 e3
      have hgl : g < W0.heap.size := (Array.getElem?_eq_some_iff.1 hg).1
      have hR : Srt.RS (fun x : El W0 g => x.u) W0 g 0 (fun _ => ⟨.slice none 0 0, [], ⟨none, 0, rfl, ⟨Nat.le_refl _, fun _ => rfl⟩, ⟨rfl, .inl rfl⟩, .inl rfl⟩, (fun v hv => by cases hv), Nat.zero_le _, (fun v hv => by cases hv)⟩) W0 :=
        ⟨fun k hk => by omega, fun k hk => by omega, World.grownBy.refl _ _, hgl, fun x => by obtain ⟨q, c, hu, _⟩ := x.el; exact ⟨q, _, c, hu⟩⟩
      refine (Srt.sortStable_any (fun x : El W0 g => x.u) (fun x y => ltV ks width x.row y.row) (el_swo ks width) W0 g 0 c _ _ _ W0 (cmp_ok sk KN kc ks width g1 g2 hK (hKB.imp id (fun h b off e => by have := h b off e; omega)) hKN h1 h2 l1 l2 (by have := n1 g rfl; omega) (by have := n2 g rfl; omega)) (by omega) hR).mono ?_
      rintro e W' ⟨he, g', hr, _⟩
      exact ⟨he, ⟨rfl, .inl rfl⟩, hr.grown.os, hr.grown.tape, hr.grown.output, hr.grown.size, fun k hk => hr.grown.block k (by omega) (by simp; omega)⟩
  · obtain ⟨B, cap, hf, hbB, hBl⟩ := hown.form (by omega)
    injection hf with e1 e2 e3
    subst e1 e3
    have each : ∀ k, k < N → ∃ x : El W0 B, cs[k]? = some x.u ∧ rows[k]? = some x.row := by
      intro k hk
      have hu : cs[k]? = some cs[k] := List.getElem?_eq_getElem (by omega)
      have hr : rows[k]? = some rows[k] := List.getElem?_eq_getElem (by omega)
      have hm := List.mem_of_getElem? hr
      exact ⟨⟨cs[k], rows[k], hel k _ _ hu hr, hM _ hm, (hB.2 _ hm).1, (hB.2 _ hm).2⟩, hu, hr⟩
    haveI : Inhabited (El W0 B) := ⟨(each 0 (by omega)).choose⟩
    obtain ⟨f, hf⟩ := choose_lt each
    have hrows : (seg f 0 N).map (fun x => x.row) = rows := by
      rw [seg_map, ← hrl]
      refine seg_list rows _ fun k hk => ?_
      have := (hf k (by omega)).2
      rw [List.getElem?_eq_getElem hk] at this
      exact (Option.some.inj this).symm
    have hfr : ∀ k, k < N → W0.frozen? ⟨B, k, none⟩ = false := by
      intro k hk
      rcases hown.2 with ⟨e, _⟩ | ⟨g, cap', cur, e, _, hg, _⟩
      · cases e
      · injection e with e1 _ _
        injection e1 with e1
        injection e1 with e1
        subst e1
        simp [World.frozen?, hg]
    have hR : Srt.RS (fun x : El W0 B => x.u) W0 B N f W0 := by
      refine ⟨fun k hk => ?_, hfr, World.grownBy.refl _ _, hBl, fun x => by obtain ⟨q, c, hu, _⟩ := x.el; exact ⟨q, _, c, hu⟩⟩
      exact (hown.cellAt k (by omega)).trans (hf k hk).1
    refine (Srt.sortStable_any (fun x : El W0 B => x.u) (fun x y => ltV ks width x.row y.row) (el_swo ks width) W0 B N c _ _ f W0 (cmp_ok sk KN kc ks width g1 g2 hK (hKB.imp id (fun h b off e => by have := h b off e; omega)) hKN h1 h2 l1 l2 (by have := n1 B rfl; omega) (by have := n2 B rfl; omega)) (by have := hB.1; omega) hR).mono ?_
    rintro e W' ⟨he, g, hr, hg⟩
    have hsort : (seg g 0 N).map (fun x => x.row) = sortV ks width rows := by
      rw [hg, isort_map (lt' := ltV ks width) (fun x : El W0 B => x.row) (fun _ _ => rfl), hrows]
      rfl
    refine ⟨he, ⟨?_, .inr ⟨B, 0, rfl, Nat.lt_of_lt_of_le hBl hr.grown.size, fun k r hk => ?_⟩⟩, hr.grown.os, hr.grown.tape, hr.grown.output, hr.grown.size, fun k hk => hr.grown.block k (by omega) (by simp; omega)⟩
    · rw [← hsort, List.length_map]; unfold seg; simp
    · have hkN : k < N := by
        have := (List.getElem?_eq_some_iff.1 hk).1
        rw [← hsort, List.length_map] at this
        unfold seg at this
        simpa using this
      rw [← hsort, List.getElem?_map, seg_at g N k hkN] at hk
      simp only [Option.map_some, Option.some.injEq] at hk
      subst hk
      obtain ⟨q, c', hu, hs, hv, hne⟩ := (g k).el
      refine ⟨q, c', ?_, hs, vals_kept hv hr.grown hne⟩
      rw [Nat.zero_add, hr.cell k hkN, hu]

/-- what Sort answers -/
def SortP (N : Nat) (rows : List (List Val.V)) (w : World) (e : Ending) (w' : World) : Prop :=
  ∃ q c, e = .returned (.slice q N c) ∧ SlOk q N c ∧ RowsAt w' q N rows ∧ Below w.heap.size w w'
theorem own_slOk {W : World} {base N c : Nat} {q : Option Addr} {rows : List (List Val.V)} (h : RowsOwn W base (.slice q N c) N rows) : SlOk q N c := by
  obtain ⟨cs, h1, _⟩ := h
  rcases h1.2 with ⟨e, h0⟩ | ⟨g, cap, cur, e, _, _, hnc, _⟩
  · injection e with e1 e2 e3
    exact ⟨by omega, fun _ => e3⟩
  · injection e with e1 e2 e3
    exact ⟨by omega, fun h => by rw [h] at e1; cases e1⟩
theorem order_call (sk : Option Addr) (KN kc : Nat) (width : Int) (w : World) : Calls Tryz.prog 37 #[.slice sk KN kc, .int .i64 width] w fun e w' => e = .returned (.func (.func 64) #[] #[.pointer (some ⟨w.heap.size, 0, none⟩), .pointer (some ⟨w.heap.size + 1, 0, none⟩)]) ∧ w' = (w.alloc (.cells #[.slice sk KN kc] 23)).alloc (.cells #[.int .i64 width] 3) := by
  go_enter Tryz.func37, Tryz.ntmps37
  go_wp2
  go_ret
  exact ⟨rfl, rfl⟩
theorem keys_old {w : World} {sk : Option Addr} {KN : Nat} {ks : List Ord.Key} (h : KeysAt w sk KN ks) : ks = [] ∨ ∀ b off, sk = some ⟨b, off, none⟩ → b < w.heap.size := by
  rcases h.2 with h0 | ⟨b, off, rfl, hl, _⟩
  · exact .inl h0
  · refine .inr fun b' off' e => ?_
    injection e with e; injection e with e
    omega
set_option maxHeartbeats 1000000 in
theorem ssort_is (p : Option Addr) (N c : Nat) (rows : List (List Val.V)) (sk : Option Addr) (KN kc : Nat) (ks : List Ord.Key) (width : Int) (w : World) (hR : RowsAt w p N rows) (hB : RowsB rows) (hM : ∀ r ∈ rows, mayRow r) (hK : KeysAt w sk KN ks) (hKN : KN ≤ 1048576) :
    Calls Tryz.prog 12 #[.slice p N c, .slice sk KN kc, .int .i64 width] w (SortP N (sortV ks width rows) w) := by
  have hKB := keys_old hK
  replace hB := Lib.hid hB
  replace hM := Lib.hid hM
  go_enter Tryz.func12, Tryz.ntmps12
  go_wp2_with (first
    | (go_at_call 35; refine (copies_is p N c rows _ hR hB.out).mono ?_; rintro e w1 ⟨q, c1, rfl, hO, hb1⟩)
    | (go_at_call 37; refine (order_call sk KN kc width _).mono ?_; rintro e w2 ⟨rfl, rfl⟩)
    | (go_at_call 36; refine (sort_rows w.heap.size q N c1 rows _ ((hO.alloc _).alloc _) hB.out hM.out sk KN kc ks width w1.heap.size (w1.heap.size + 1) (((hK.below hb1).below ((Below.refl _ _).alloc (Nat.le_refl _) _)).below ((Below.refl _ _).alloc (Nat.le_refl _) _)) hKB hKN (cell_of_row _ _ _ _ _ _ (heap_new1 _ _ _)) (cell_of_row _ _ _ _ _ _ (heap_new2 _ _ _)) (by simp; omega) (by simp) (fun m hm => (hO.le m hm).2) (fun m hm => Nat.lt_succ_of_lt (hO.le m hm).2)).mono ?_; rintro e w3 ⟨rfl, hR3, hb3⟩))
  go_ret
  have hb2 : Below w.heap.size w ((w1.alloc (.cells #[.slice sk KN kc] 23)).alloc (.cells #[.int .i64 width] 3)) := (hb1.alloc hb1.size _).alloc (Nat.le_trans hb1.size (by simp)) _
  exact ⟨q, c1, rfl, own_slOk hO, hR3, hb2.trans hb3⟩
end Go.Proofs.YtdapnemcdgjeeaaGreatDoor

