/- Walks: two lists of rows, one behind the other (slices.Concat, and the reference's Both). -/
import Derived.Test.YtdapnemcdgjeeaaGreatDoorMetA
import Derived.Lib.AppendZerosOnto
import Derived.Deep.AppendSrc
set_option maxRecDepth 100000
set_option linter.unusedVariables false
set_option linter.unusedSimpArgs false
namespace Go.Proofs.YtdapnemcdgjeeaaGreatDoor
open Go.RowKit

theorem grow_zero (w : World) : Calls Tryz.prog 84 #[.slice none 0 0, .int .i64 0] w fun e w' => e = .returned (.slice none 0 0) ∧ w' = w := by
  go_enter Tryz.func84, Tryz.ntmps84
  go_wp2
  go_ret
  exact ⟨rfl, rfl⟩
/-- what Grow of nothing answers -/
def GrowP (w : World) (e : Ending) (w' : World) : Prop := ∃ q c, e = .returned (.slice q 0 c) ∧ RowsOwn w' w.heap.size (.slice q 0 c) 0 [] ∧ Below w.heap.size w w'

set_option maxHeartbeats 2000000 in
theorem grow_any (n : Nat) (w : World) (hn : n ≤ 2097152) : Calls Tryz.prog 84 #[.slice none 0 0, .int .i64 (n : Int)] w (GrowP w) := by
  by_cases h0 : n = 0
  · subst h0
    exact (grow_zero w).mono fun e w' ⟨he, hw⟩ => ⟨none, 0, he, by rw [hw]; exact RowsOwn.nil _ _, by rw [hw]; exact Below.refl _ _⟩
  · obtain ⟨i0, hi, hz, hs, hby⟩ := info_parts rows_info
    have h1 : ¬ ((n : Int) < 0) := by omega
    have h1B : decide ((n : Int) < 0) = false := decide_eq_false h1
    have h4 : (n : Int) > 0 := by omega
    have h4B : decide ((n : Int) > 0) = true := decide_eq_true h4
    have hold : (Builtin.firstCells i0.size 0 (.slice none 0 0)).run Tryz.prog w.drew = .ok (([] : List Value).toArray) w.drew := run_firstCells_none w.drew i0.size 0 0 0
    have hz2 : ∀ ty, (Builtin.append_ #[22, 3] ty #[.slice none 0 0, .int .i64 (n : Int)]).run Tryz.prog w = .ok (.slice (some ⟨w.heap.size, 0, none⟩) n (grownCap w n 0 30)) (w.drew.alloc (.cells (([] : List Value).toArray ++ Builtin.zeroCells (Value.slice none 0 0).cells n ++ Builtin.zeroCells (Value.slice none 0 0).cells (grownCap w n 0 30 - n)) 30)) := fun ty => by
      have := Lib.run_append_grow_zeros w 22 3 ty 30 i0 (.slice none 0 0) .i64 .i64 Tryz.underlying22 Tryz.underlying3 hi hz none 0 0 [] hold n (by omega) (by rw [hs]; omega) (by omega) (by omega) (by rw [hby]; omega) (by rw [Nat.zero_add]; exact growslice_fits (by omega) (by rw [hby]; omega))
      rw [Nat.zero_add] at this
      exact this
    obtain ⟨G, hG⟩ : ∃ G, G = grownCap w n 0 30 := ⟨_, rfl⟩
    have hGn : n ≤ G := by rw [hG]; exact grownCap_ge w _ _ _
    have hGm : G ≤ maxLen := by rw [hG]; exact grownCap_le_maxLen w n 0 30 (by unfold maxLen; omega)
    have hG63 : G ≤ 9223372036854775807 := by unfold maxLen at hGm; omega
    rw [← hG] at hz2
    obtain ⟨C, hC⟩ : ∃ C, C = (([] : List Value).toArray ++ Builtin.zeroCells (Value.slice none 0 0).cells n ++ Builtin.zeroCells (Value.slice none 0 0).cells (G - n)) := ⟨_, rfl⟩
    have hCs : C.size = G := by rw [hC]; simp [size_zeroCells, Value.cells]; omega
    rw [← hC] at hz2
    have i0' : (0 : Int) ≤ (0 : Int) := by omega
    replace hGm := Lib.hid hGm
    replace hCs := Lib.hid hCs
    clear hold hG hC
    go_enter Tryz.func84, Tryz.ntmps84
    go_wp2_with (at_builtin; refine Lib.wpList_append_run _ rfl _ _ _ _ rfl _ _ rfl rfl _ _ (hz2 _) ?_)
    go_ret
    refine ⟨_, G, rfl, ⟨[], ⟨rfl, .inr ⟨w.heap.size, G, C, rfl, Nat.le_refl _, heap_new w.drew _, Nat.zero_le _, hGm.out, by rw [hCs.out, Nat.mul_one], rfl⟩⟩, rfl, rfl, fun k u r hk => by simp at hk⟩, ?_⟩
    exact ((Below.refl w.heap.size w).drew).alloc (Nat.le_refl _) _
theorem append_empty (p sp : Option Addr) (n c sc : Nat) (ty : TypeId) (W : World) (hp : p = none ∨ ∃ b off, p = some ⟨b, off, none⟩) (hn : n ≤ c) (h0 : p = none → n = 0 ∧ c = 0) :
    (Builtin.append_ #[22, 22] ty #[.slice p n c, .slice sp 0 sc]).run Tryz.prog W = .ok (.slice p n c) W := by
  obtain ⟨i, hi, hz, hs, hb⟩ := info_parts rows_info
  have src : Src Tryz.prog i.size 22 (.slice sp 0 sc) 0 [] W := by
    cases sp with
    | none => exact Src.ofNil W Tryz.underlying22 sc
    | some a => exact Src.ofSlice W Tryz.underlying22 a 0 sc [] (by simp) (by simp) (by simp)
  rcases hp with rfl | ⟨b, off, rfl⟩
  · obtain ⟨rfl, rfl⟩ := h0 rfl
    cases sp with
    | none => simp [Builtin.append_, run_underlying Tryz.underlying22, sizeOf, typeInfo, hi, src.len, src.cells, Builtin.firstCells]
    | some a =>
      have h2 : (loadCells a 0).run Tryz.prog W = .ok #[] W := by simp [loadCells, loadCellsFrom]
      simp [Builtin.append_, run_underlying Tryz.underlying22, sizeOf, typeInfo, hi, src.len, src.cells, Builtin.firstCells, h2]
  · have := run_append_room_src W 22 22 ty 30 i Tryz.underlying22 hi b off n c (.slice sp 0 sc) 0 [] src (by omega) (by simp) (by simp)
    rw [this]
    simp [World.setCells]
theorem own_ptr {W : World} {base n c : Nat} {q : Option Addr} {rows : List (List Val.V)} (h : RowsOwn W base (.slice q n c) n rows) : (q = none ∨ ∃ b off, q = some ⟨b, off, none⟩) ∧ n ≤ c ∧ (q = none → n = 0 ∧ c = 0) := by
  obtain ⟨cs, h1, _⟩ := h
  rcases h1.2 with ⟨e, h0⟩ | ⟨g, cap, cur, e, _, _, hnc, _⟩
  · injection e with e1 e2 e3
    exact ⟨.inl e1, by omega, fun _ => ⟨h0, e3⟩⟩
  · injection e with e1 e2 e3
    exact ⟨.inr ⟨g, 0, e1⟩, by omega, fun h => by rw [h] at e1; cases e1⟩

/-- ROWS ARE APPENDED to a slice of rows that the call owns -/
theorem wpList_appendRows {W w0 : World} {ops : Array Oper} {rest : List Oper} {o : Oper} {a : Act} {Q : Exit → Act → World → Prop} (hgd : o.guard = none) (s x : Operand)
    (ho : o.op = .call { callee := .builtin .append, args := #[s, x], argTypes := #[22, 22] })
    (base : Nat) (qv : Option Addr) (cv n : Nat) (rows : List (List Val.V)) (hs : a.eval s = .slice qv n cv) (hown : RowsOwn W base (.slice qv n cv) n rows) (p : Option Addr) (m c : Nat) (rs : List (List Val.V)) (hx : a.eval x = .slice p m c)
    (hR : RowsAt w0 p m rs) (hb : Below w0.heap.size w0 W) (hX : w0.heap.size ≤ base) (hn : n + m ≤ 1099511627776) (hbase : base ≤ W.heap.size)
    (h : ∀ q c w1, RowsOwn w1 base (.slice q (n + m) c) (n + m) (rows ++ rs) → Below base W w1 → wpList Tryz.prog ops Q rest (a.put o.dst (.slice q (n + m) c)) w1) :
    wpList Tryz.prog ops Q (o :: rest) a W := by
  by_cases hm : m = 0
  · subst hm
    obtain rfl : rs = [] := List.eq_nil_of_length_eq_zero hR.1
    obtain ⟨k1, k2, k3⟩ := own_ptr hown
    refine Lib.wpList_append_run W hgd s x _ _ ho _ _ hs hx _ _ (append_empty qv p n cv c o.type W k1 k2 k3) ?_
    have := h qv cv W (by rw [List.append_nil]; exact hown) (Below.refl _ _)
    simpa using this
  · obtain ⟨i, hi, hz, hsize, hby⟩ := info_parts rows_info
    obtain ⟨cs, h1, h2, h3, h4⟩ := hown
    have hRW := hR.below hb
    obtain ⟨r0, b, off, _, _, _, rfl, hbl0, _⟩ := hR.at (show 0 < m by omega)
    have each : ∀ k, k < m → ∃ u : Value, W.cell? ⟨b, off + k, none⟩ = some u ∧ ∀ r, rs[k]? = some r → ElAt W (Value.slice qv n cv).ownBlock u r := by
      intro k hk
      obtain ⟨r, b', off', q, c', hr, e, hbl, c0, hs', hv⟩ := hR.at hk
      injection e with e; injection e with e1 e2
      subst e1 e2
      refine ⟨.slice q r.length c', (hb.cell (p := ⟨b, _, none⟩) hbl).trans c0, fun r' hr' => ?_⟩
      rw [hr] at hr'
      injection hr' with hr'
      subst hr'
      exact ElAt.old hv hb hs' (base := base) (n := n) (fun k hk => Nat.le_trans hX (h1.lt k hk).1)
    obtain ⟨U, hU⟩ := Deep.choose_lt each
    have hnl : ((List.range m).map U).length = m * 1 := by simp
    have hcell : ∀ j u, ((List.range m).map U)[j]? = some u → W.cell? ((⟨b, off, none⟩ : Addr).add j) = some u := by
      intro j u hu
      have hj : j < m := by have := (List.getElem?_eq_some_iff.1 hu).1; simpa using this
      rw [List.getElem?_map, List.getElem?_range hj] at hu
      simp only [Option.map_some, Option.some.injEq] at hu
      subst hu
      rw [Addr.add_lit]
      exact (hU j hj).1
    have hone : ∀ u ∈ (List.range m).map U, u.oneCell' = true := by
      intro u hu
      obtain ⟨k, hk, rfl⟩ := List.mem_map.1 hu
      have hk := List.mem_range.1 hk
      obtain ⟨r, hr⟩ : ∃ r, rs[k]? = some r := ⟨_, List.getElem?_eq_getElem (by rw [hR.1]; exact hk)⟩
      obtain ⟨q, c', e, _⟩ := (hU k hk).2 r hr
      rw [e]; rfl
    refine wpList_append_own_at _ hgd s x 22 ho base 30 i _ 1 24 Tryz.underlying22 hi hz hsize hby rfl (by decide) _ n cs hs h1 ⟨b, off, none⟩ m c _ hx hnl hcell hone (by unfold maxLen; omega) (by omega) hbase ?_
    intro v' w' hown' hg _ hloc
    obtain ⟨q', c', rfl⟩ := vshape hown'
    have hY : (Value.slice q' (n + m) c').ownBlock = (Value.slice qv n cv).ownBlock ∨ ∃ k, (Value.slice q' (n + m) c').ownBlock = some k ∧ W.heap.size ≤ k := by
      rcases hloc with e | e
      · exact .inl e
      · exact .inr ⟨_, e, Nat.le_refl _⟩
    refine h q' c' w' ⟨cs ++ (List.range m).map U, hown', by simp [h2], by simp [h3, hR.1], fun k y z hk hz => ?_⟩ ((Below.refl base W).grown hg hbase fun k hk => (h1.lt k hk).1)
    by_cases hkn : k < n
    · rw [List.getElem?_append_left (by omega)] at hk hz
      exact (h4 k y z hk hz).grow hg hY
    · rw [List.getElem?_append_right (by omega)] at hk hz
      rw [h2] at hk
      rw [h3] at hz
      have hj : k - n < m := by have := (List.getElem?_eq_some_iff.1 hk).1; simpa using this
      rw [List.getElem?_map, List.getElem?_range hj] at hk
      simp only [Option.map_some, Option.some.injEq] at hk
      subst hk
      exact ((hU _ hj).2 z hz).grow hg hY
set_option maxHeartbeats 2000000 in
theorem concat_is (p : Option Addr) (N c : Nat) (q : Option Addr) (M c' : Nat) (ra rb : List (List Val.V)) (g : Nat) (w : World) (hA : RowsAt w p N ra) (hA' : RowsAt w q M rb) (hN : N ≤ 1048576) (hM : M ≤ 1048576)
    (h0 : w.cell? ⟨g, 0, none⟩ = some (.slice p N c)) (h1 : w.cell? ⟨g, 1, none⟩ = some (.slice q M c')) (hg : g < w.heap.size) :
    Calls Tryz.prog 58 #[.slice (some ⟨g, 0, none⟩) 2 2] w (RowsP (N + M) (ra ++ rb) w) := by
  have b0 : ¬ ((N : Int) < 0) := by omega
  have b0B : decide ((N : Int) < 0) = false := decide_eq_false b0
  have b1 : ¬ ((N : Int) + (M : Int) < 0) := by omega
  have b1B : decide ((N : Int) + (M : Int) < 0) = false := decide_eq_false b1
  have hG := fun W => grow_any (N + M) W (by omega)
  have ec : ((N + M : Nat) : Int) = (N : Int) + (M : Int) := by omega
  rw [ec] at hG
  clear ec
  go_enter Tryz.func58, Tryz.ntmps58
  go_wp2
  refine wp_loop_rounds 3 ?_
  rw [rounds_succ]
  go_wp2
  rw [rounds_succ]
  go_wp2
  rw [rounds_succ]
  go_wp2_with (go_at_call 84; refine (hG _).mono ?_; rintro e w1 ⟨q1, c1, rfl, ho1, hb1⟩; have k0 : w1.cell? ⟨g, 0, none⟩ = some (.slice p N c) := (hb1.cell (p := ⟨g, _, none⟩) hg).trans h0)
  refine wp_loop_rounds 3 ?_
  rw [rounds_succ]
  go_wp2_with (at_builtin; go_must (refine wpList_appendRows (w0 := w) rfl _ _ rfl w.heap.size q1 c1 0 [] rfl ho1 p N c ra rfl hA hb1 (Nat.le_refl _) (by omega) hb1.size ?_); intro q2 c2 w2 ho2 hb2; rw [List.nil_append, Nat.zero_add] at ho2; have hb3 := hb1.trans hb2; have k1 : w2.cell? ⟨g, 1, none⟩ = some (.slice q M c') := (hb3.cell (p := ⟨g, _, none⟩) hg).trans h1)
  rw [rounds_succ]
  go_wp2_with (at_builtin; go_must (refine wpList_appendRows (w0 := w) rfl _ _ rfl w.heap.size q2 c2 N ra rfl ho2 q M c' rb rfl hA' hb3 (Nat.le_refl _) (by omega) hb3.size ?_); intro q3 c3 w3 ho3 hb4)
  rw [rounds_succ]
  go_wp2
  go_ret
  exact ⟨q3, c3, rfl, ho3, hb3.trans hb4⟩
end Go.Proofs.YtdapnemcdgjeeaaGreatDoor
