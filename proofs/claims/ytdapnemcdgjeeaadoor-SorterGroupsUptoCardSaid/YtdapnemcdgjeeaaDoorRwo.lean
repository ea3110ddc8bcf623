/- Rows of values that a call makes: a slice of them in memory of its own, one more appended; a row copied (slices.Clone). -/
import Derived.Test.YtdapnemcdgjeeaaDoorStd
import Derived.Lib.SliceRun
set_option maxRecDepth 100000
set_option linter.unusedVariables false
set_option linter.unusedSimpArgs false
namespace Go.Proofs.YtdapnemcdgjeeaaDoor
open Go.RowKit

theorem rows_info : (Tryd.prog.info? 34).map (fun i => (i.zero, i.size, i.bytes)) = some (some (.slice none 0 0), 1, 24) := by kernel_rfl
/-- a value that is a row, apart from a block -/
def ElAt (W : World) (X : Option Nat) (u : Value) (r : List Val.V) : Prop :=
  ∃ q c, u = .slice q r.length c ∧ SlOk q r.length c ∧ ValsAt W q r.length r ∧ (r = [] ∨ ∀ b off, q = some ⟨b, off, none⟩ → some b ≠ X)
/-- a slice of rows in memory that the call owns -/
def RowsOwn (W : World) (base : Nat) (v : Value) (n : Nat) (rows : List (List Val.V)) : Prop :=
  ∃ cs : List Value, W.ownsRow base 34 1 v n cs ∧ cs.length = n ∧ rows.length = n ∧ ∀ (k : Nat) (u : Value) (r : List Val.V), cs[k]? = some u → rows[k]? = some r → ElAt W v.ownBlock u r
theorem vals_kept {W W' : World} {row : Option Nat} {q : Option Addr} {n : Nat} {r : List Val.V} (h : ValsAt W q n r) (hg : W.grownBy W' row) (hne : r = [] ∨ ∀ b off, q = some ⟨b, off, none⟩ → some b ≠ row) : ValsAt W' q n r := by
  obtain ⟨h1, h2⟩ := h
  refine ⟨h1, ?_⟩
  rcases h2 with h2 | ⟨b, off, rfl, hl, hc⟩
  · exact .inl h2
  · rcases hne with h0 | hne
    · exact .inl h0
    · have hb := hne b off rfl
      refine .inr ⟨b, off, rfl, Nat.lt_of_lt_of_le hl hg.size, fun k v hk => ?_⟩
      obtain ⟨c0, c1, c2⟩ := hc k v hk
      exact ⟨(hg.cell_far ⟨b, _, none⟩ hl hb).trans c0, (hg.cell_far ⟨b, _, none⟩ hl hb).trans c1, (hg.cell_far ⟨b, _, none⟩ hl hb).trans c2⟩
theorem ElAt.kept {W W' : World} {X row : Option Nat} {u : Value} {r : List Val.V} (h : ElAt W X u r) (hg : W.grownBy W' row) (hr : row = X ∨ row = none) : ElAt W' X u r := by
  obtain ⟨q, c, hu, hs, hv, hne⟩ := h
  refine ⟨q, c, hu, hs, vals_kept hv hg ?_, hne⟩
  rcases hr with rfl | rfl
  · exact hne
  · exact .inr fun b off _ => by simp
/-- told apart from another block -/
theorem ElAt.off {W : World} {X Y : Option Nat} {u : Value} {r : List Val.V} (h : ElAt W X u r) (hY : Y = X ∨ ∃ m, Y = some m ∧ W.heap.size ≤ m) : ElAt W Y u r := by
  obtain ⟨q, c, hu, hs, hv, hne⟩ := h
  refine ⟨q, c, hu, hs, hv, ?_⟩
  rcases hY with rfl | ⟨m, rfl, hm⟩
  · exact hne
  · rcases hv.2 with h0 | ⟨b, off, rfl, hl, _⟩
    · exact .inl h0
    · refine .inr fun b' off' e => ?_
      injection e with e; injection e with e1
      subst e1
      intro e2; injection e2 with e2; omega
theorem ElAt.grow {W W' : World} {X Y : Option Nat} {u : Value} {r : List Val.V} (h : ElAt W X u r) (hg : W.grownBy W' X) (hY : Y = X ∨ ∃ m, Y = some m ∧ W.heap.size ≤ m) : ElAt W' Y u r := by
  obtain ⟨q, c, hu, hs, _, hne⟩ := h.off hY
  obtain ⟨q', c', hu', _, hv, _⟩ := h.kept hg (.inl rfl)
  rw [hu] at hu'
  injection hu' with e1 e2 e3
  subst e1
  exact ⟨q, c, hu, hs, hv, hne⟩
theorem ElAt.below {W W' : World} {X : Option Nat} {u : Value} {r : List Val.V} (h : ElAt W X u r) (hb : Below W.heap.size W W') : ElAt W' X u r := h.kept (row := none) ⟨hb.os, hb.tape, hb.output, hb.size, fun k hk _ => hb.block k hk⟩ (.inr rfl)
theorem RowsOwn.below {W W' : World} {base n : Nat} {v : Value} {rows : List (List Val.V)} (h : RowsOwn W base v n rows) (hb : Below W.heap.size W W') : RowsOwn W' base v n rows := by
  obtain ⟨cs, h1, h2, h3, h4⟩ := h
  have hg : W.grownBy W' none := ⟨hb.os, hb.tape, hb.output, hb.size, fun k hk _ => hb.block k hk⟩
  exact ⟨cs, h1.kept hg (by cases v.ownBlock <;> simp), h2, h3, fun k u r hk hr => (h4 k u r hk hr).below hb⟩
theorem RowsOwn.alloc {W : World} {base n : Nat} {v : Value} {rows : List (List Val.V)} (h : RowsOwn W base v n rows) (o : Obj) : RowsOwn (W.alloc o) base v n rows := h.below ((Below.refl _ _).alloc (Nat.le_refl _) o)
theorem RowsOwn.nil (W : World) (base : Nat) : RowsOwn W base (.slice none 0 0) 0 [] := ⟨[], World.ownsRow_nil _ _ _ _, rfl, rfl, fun k u r hk => by simp at hk⟩
theorem RowsOwn.shape {W : World} {base n : Nat} {v : Value} {rows : List (List Val.V)} (h : RowsOwn W base v n rows) : ∃ q c, v = .slice q n c := by
  obtain ⟨cs, h1, _⟩ := h; exact vshape h1
theorem RowsOwn.rows {W : World} {base n c : Nat} {q : Option Addr} {rows : List (List Val.V)} (h : RowsOwn W base (.slice q n c) n rows) : RowsAt W q n rows := by
  obtain ⟨cs, h1, h2, h3, h4⟩ := h
  refine ⟨h3, ?_⟩
  by_cases h0 : n = 0
  · left; exact List.eq_nil_of_length_eq_zero (by omega)
  · right
    obtain ⟨g, cap, hf, _, hlt⟩ := h1.form (by omega)
    simp only [Value.slice.injEq, true_and] at hf
    obtain ⟨rfl, rfl⟩ := hf
    refine ⟨g, 0, rfl, hlt, fun k r hk => ?_⟩
    have hkl : k < n := by rw [← h3]; exact (List.getElem?_eq_some_iff.1 hk).1
    have hu : cs[k]? = some cs[k] := List.getElem?_eq_getElem (by omega)
    obtain ⟨q, c, hq, hs, hv, _⟩ := h4 k _ r hu hk
    refine ⟨q, c, ?_, hs, hv⟩
    rw [Nat.zero_add]
    refine (h1.cellAt k (by omega)).trans ?_
    rw [hu, hq]
theorem RowsOwn.le {W : World} {base n : Nat} {v : Value} {rows : List (List Val.V)} (h : RowsOwn W base v n rows) : ∀ m, v.ownBlock = some m → base ≤ m ∧ m < W.heap.size := by
  obtain ⟨cs, h1, _⟩ := h; exact h1.lt
theorem sl_one (q : Option Addr) (n c : Nat) : ∀ u ∈ ([.slice q n c] : List Value), u.oneCell' = true := by intro u hu; simp at hu; subst hu; rfl

/-- ONE ROW IS APPENDED to a slice of rows that the call owns -/
theorem wpList_pushRow {W : World} {nz : Nat} (hnz : W.heap.size = nz) {ops : Array Oper} {rest : List Oper} {o : Oper} {a : Act} {Q : Exit → Act → World → Prop} (hgd : o.guard = none) (s x : Operand)
    (ho : o.op = .call { callee := .builtin .append, args := #[s, x], argTypes := #[22, 22] })
    (base : Nat) (v : Value) (n : Nat) (rows : List (List Val.V)) (hs : a.eval s = v) (hown : RowsOwn W base v n rows) (u : Value) (r : List Val.V) (hel : ElAt W v.ownBlock u r)
    (hx : a.eval x = .slice (some ⟨nz, 0, none⟩) 1 1) (hn : n ≤ 1099511627776) (hbase : base ≤ W.heap.size)
    (h : ∀ q c w1, RowsOwn w1 base (.slice q (n + 1) c) (n + 1) (rows ++ [r]) → Below base W w1 → W.grownBy w1 v.ownBlock → wpList Tryd.prog ops Q rest (a.put o.dst (.slice q (n + 1) c)) w1) :
    wpList Tryd.prog ops Q (o :: rest) a (W.alloc (.cells #[u] 34)) := by
  subst hnz
  obtain ⟨i, hi, hz, hsize, hby⟩ := info_parts rows_info
  obtain ⟨cs, h1, h2, h3, h4⟩ := hown
  have hu1 : u.oneCell' = true := by obtain ⟨q, c, rfl, _⟩ := hel; rfl
  refine wpList_append_own_at _ hgd s x 22 ho base 34 i _ 1 24 Tryd.underlying22 hi hz hsize hby rfl (by decide) v n cs hs (h1.alloc _) ⟨W.heap.size, 0, none⟩ 1 1 [u] hx rfl (cell_one_new _ _ _) (by intro y hy; simp at hy; subst hy; exact hu1) (by unfold maxLen; omega) (by omega) (by simp; omega) ?_
  intro v' w' hown' hg _ hloc
  obtain ⟨q', c', rfl⟩ := vshape hown'
  have hg' : W.grownBy w' v.ownBlock := ⟨hg.os, hg.tape, hg.output, Nat.le_trans (by simp) hg.size, fun k hk hne => (hg.block k (by simp; omega) hne).trans (Below.heap_alloc W _ k hk)⟩
  have hY : (Value.slice q' (n + 1) c').ownBlock = v.ownBlock ∨ ∃ m, (Value.slice q' (n + 1) c').ownBlock = some m ∧ W.heap.size ≤ m := by
    rcases hloc with e | e
    · exact .inl e
    · exact .inr ⟨_, e, by simp⟩
  refine h q' c' w' ⟨cs ++ [u], hown', by simp [h2], by simp [h3], fun k y z hk hz => ?_⟩ ((Below.refl base W).grown hg' hbase fun k hk => (h1.lt k hk).1) hg'
  by_cases hkn : k < n
  · rw [List.getElem?_append_left (by omega)] at hk hz
    exact (h4 k y z hk hz).grow hg' hY
  · have hk0 : k = n := by
      have := (List.getElem?_eq_some_iff.1 hk).1
      simp [h2] at this; omega
    subst hk0
    rw [List.getElem?_append_right (by omega)] at hk hz
    rw [h2] at hk
    rw [h3] at hz
    simp at hk hz
    subst hk hz
    exact hel.grow hg' hY

/-- a row that was there, among what a call makes -/
theorem ElAt.old {w W : World} {base n c : Nat} {v : Value} {q : Option Addr} {r : List Val.V} (hv : ValsAt w q r.length r) (hb : Below w.heap.size w W) (hs : SlOk q r.length c) (hX : ∀ m, v.ownBlock = some m → w.heap.size ≤ m) : ElAt W v.ownBlock (.slice q r.length c) r := by
  refine ⟨q, c, rfl, hs, hv.below hb, ?_⟩
  rcases hv.2 with h0 | ⟨b, off, rfl, hl, _⟩
  · exact .inl h0
  · refine .inr fun b' off' e e2 => ?_
    injection e with e; injection e with e1
    subst e1
    have := hX b e2.symm
    omega
/-- a row of the call's own, made behind another block -/
theorem ElAt.own {W : World} {base N c : Nat} {X : Option Nat} {q : Option Addr} {r : List Val.V} (h : W.ownsRow base 52 3 (.slice q N c) N (valC r)) (hl : r.length = N) (hX : ∀ m, X = some m → m < base) : ElAt W X (.slice q N c) r := by
  subst hl
  have hv := valsAt_own h rfl
  refine ⟨q, c, rfl, ?_, hv, ?_⟩
  · rcases h.2 with ⟨e, h0⟩ | ⟨g, cap, cur, e, _, _, hnc, _⟩
    · injection e with e1 e2 e3
      exact ⟨by omega, fun _ => e3⟩
    · injection e with e1 e2 e3
      exact ⟨by omega, fun h => by rw [h] at e1; cases e1⟩
  · rcases h.2 with ⟨e, h0⟩ | ⟨g, cap, cur, e, hb, _⟩
    · exact .inl (List.eq_nil_of_length_eq_zero h0)
    · injection e with e1 e2 e3
      refine .inr fun b off e' e2 => ?_
      rw [e1] at e'
      injection e' with e'; injection e' with e3
      subst e3
      have := hX g e2.symm
      omega

theorem q_slice (w : World) (a : Option Addr) (n c n' c' : Nat) : (binOp .eql 34 (.slice a n c) (.slice none n' c')).run Tryd.prog w = .ok (.bool a.isNone) w := Lib.run_eql_slice_nil w _ _ a n c n' c' Tryd.underlying34

/-- what Clone answers -/
def CloneP (N : Nat) (vs : List Val.V) (w : World) (e : Ending) (w' : World) : Prop :=
  ∃ q c, e = .returned (.slice q N c) ∧ w'.ownsRow w.heap.size 52 3 (.slice q N c) N (valC vs) ∧ Below w.heap.size w w'
set_option maxHeartbeats 1000000 in
theorem clone_is (p : Option Addr) (N c : Nat) (vs : List Val.V) (w : World) (hA : ValsAt w p N vs) (hS : SlOk p N c) (hN : N ≤ 1048576) :
    Calls Tryd.prog 28 #[.slice p N c] w (CloneP N vs w) := by
  have q22 := q_slice
  have hlen := hA.1
  cases p with
  | none =>
    have h0 := hS.2 rfl
    have h1 := hS.1
    obtain rfl : N = 0 := by omega
    obtain rfl : vs = [] := List.eq_nil_of_length_eq_zero hlen
    go_enter Tryd.func28, Tryd.ntmps28
    go_wp2
    go_ret
    exact ⟨none, 0, rfl, World.ownsRow_nil _ _ _ _, Below.refl _ _⟩
  | some a =>
    obtain ⟨i0, hi, hz0, hz1, hz2⟩ := info_parts val_info
    have hl : (valC vs).length = N * 3 := by rw [valC_len, hlen]
    have hcs : ∀ (j : Nat) (u : Value), (valC vs)[j]? = some u → w.cell? (a.add j) = some u := by
      intro j u hj
      obtain ⟨k, v, hv, hc⟩ := valC_get hj
      rcases hA.2 with h0 | ⟨b, off, e, hbl, hcell⟩
      · rw [h0] at hv; simp at hv
      · injection e with e
        subst e
        obtain ⟨c0, c1, c2⟩ := hcell k v hv
        rw [Addr.add_lit]
        rcases hc with ⟨rfl, rfl⟩ | ⟨rfl, rfl⟩ | ⟨rfl, rfl⟩
        · exact c0
        · rw [← Nat.add_assoc]; exact c1
        · rw [← Nat.add_assoc]; exact c2
    have hcs' : ∀ (j : Nat) (u : Value), (valC vs)[j]? = some u → (w.alloc (.cells #[] 52)).cell? (a.add j) = some u := fun j u hj => Lib.cell?_alloc_some _ (hcs j u hj)
    replace hcs := Lib.hid hcs
    replace hlen := Lib.hid hlen
    go_enter Tryd.func28, Tryd.ntmps28
    go_wp2_with (at_builtin; refine wpList_append_own _ rfl _ _ 34 rfl w.heap.size 52 i0 _ 3 32 Tryd.underlying34 hi hz0 hz1 hz2 rfl (by decide) _ _ _ rfl (World.ownsRow_made w #[] 0 (Nat.le_refl _) (Nat.zero_le _) rfl) a N c (valC vs) rfl hl hcs' (valC_one vs) (by unfold maxLen; omega) (by omega) (by simp) ?_)
    intro v' w' hown' hgrow _
    obtain ⟨p', c', rfl⟩ := vshape hown'
    go_wp2
    go_ret
    refine ⟨p', c', by simp, by simpa using hown', ?_⟩
    exact ((Below.refl _ w).alloc (Nat.le_refl _) _).grown hgrow (by simp) (by intro k hk; simp [Value.ownBlock] at hk; omega)
end Go.Proofs.YtdapnemcdgjeeaaDoor
