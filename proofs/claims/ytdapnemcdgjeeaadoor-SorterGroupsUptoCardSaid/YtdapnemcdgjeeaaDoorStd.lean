/- Walks: how two rows stand by keys and first columns (package sorter, and the reference's). -/
import Derived.Test.YtdapnemcdgjeeaaDoorRws
import Derived.Deep.RegionHeld3
set_option maxRecDepth 100000
set_option linter.unusedVariables false
set_option linter.unusedSimpArgs false
namespace Go.Proofs.YtdapnemcdgjeeaaDoor
open Go.RowKit
open Go.Proofs.YtdapnemcdgjeeaaDoor.Ord (atV firstV standV mayRow MRow)

theorem atV_text {vs : List Val.V} (h : ∀ v ∈ vs, v.text.length ≤ 1048576) (col : Int) : (atV vs col).text.length ≤ 1048576 := by
  unfold atV
  split
  · exact Nat.zero_le _
  · rename_i hc
    have hl : col.toNat < vs.length := by omega
    rw [List.getD_eq_getElem?_getD, List.getElem?_eq_getElem hl]
    exact h _ (List.getElem_mem hl)
theorem first_text {vs : List Val.V} (h : ∀ v ∈ vs, v.text.length ≤ 1048576) (width : Int) : ∀ v ∈ firstV vs width, v.text.length ≤ 1048576 := fun v hv => h v (List.mem_of_mem_take hv)
/-- a function that answers the value of a column, whenever it's called from here on -/
structure AtOk (f : FuncId) (w : World) (p : Option Addr) (N c : Nat) (col k n : Int) (t : ByteArray) : Prop where
  on : ∀ W, Below w.heap.size w W → Calls Tryd.prog f #[.slice p N c, .int .i64 col] W fun e w' => e = .returned (.agg #[.int .i64 k, .int .i64 n, .string t]) ∧ Below W.heap.size W w'
theorem atOk_s {w : World} {p : Option Addr} {N c : Nat} {vs : List Val.V} {col k n : Int} {t : ByteArray} (hA : ValsAt w p N vs) (hN : N ≤ 1048576) (hv : Hid (atV vs col = ⟨k, n, t.data.toList⟩)) : AtOk 43 w p N c col k n t :=
  ⟨fun W hB => at_sorter.at_is p N c vs col W (hA.below hB) hN k n t hv⟩
theorem atOk_r {w : World} {p : Option Addr} {N c : Nat} {vs : List Val.V} {col k n : Int} {t : ByteArray} (hA : ValsAt w p N vs) (hN : N ≤ 1048576) (hv : Hid (atV vs col = ⟨k, n, t.data.toList⟩)) : AtOk 48 w p N c col k n t :=
  ⟨fun W hB => at_bureauref20.At_is p N c vs col W (hA.below hB) hN k n t hv⟩
theorem atV_form (vs : List Val.V) (col : Int) : ∃ (k n : Int) (t : ByteArray), atV vs col = ⟨k, n, t.data.toList⟩ := ⟨_, _, bs (atV vs col).text, rfl⟩

theorem AtOk.use {f : FuncId} {w W : World} {p : Option Addr} {N c : Nat} {col k n : Int} {t : ByteArray} {K o : Nat} {x y z : Value} (h : AtOk f w p N c col k n t) (hS : W.cell? ⟨K, o, none⟩ = some x ∧ W.cell? ⟨K, o + 1, none⟩ = some y ∧ W.cell? ⟨K, o + 2, none⟩ = some z ∧ K < W.heap.size ∧ Below w.heap.size w W) :
    Calls Tryd.prog f #[.slice p N c, .int .i64 col] W fun e w' => e = .returned (.agg #[.int .i64 k, .int .i64 n, .string t]) ∧ Below W.heap.size W w' := h.on W hS.2.2.2.2
theorem keepK3 {w W W' : World} {K o : Nat} {x y z : Value} (h : W.cell? ⟨K, o, none⟩ = some x ∧ W.cell? ⟨K, o + 1, none⟩ = some y ∧ W.cell? ⟨K, o + 2, none⟩ = some z ∧ K < W.heap.size ∧ Below w.heap.size w W) (hb : Below W.heap.size W W') :
    W'.cell? ⟨K, o, none⟩ = some x ∧ W'.cell? ⟨K, o + 1, none⟩ = some y ∧ W'.cell? ⟨K, o + 2, none⟩ = some z ∧ K < W'.heap.size ∧ Below w.heap.size w W' :=
  ⟨(hb.cell (p := ⟨K, _, none⟩) h.2.2.2.1).trans h.1, (hb.cell (p := ⟨K, _, none⟩) h.2.2.2.1).trans h.2.1, (hb.cell (p := ⟨K, _, none⟩) h.2.2.2.1).trans h.2.2.1, Nat.lt_of_lt_of_le h.2.2.2.1 hb.size, h.2.2.2.2.trans (hb.mono h.2.2.2.2.size)⟩
theorem keepK30 {w W : World} {K o : Nat} {x y z : Value} (h : W.cell? ⟨K, o, none⟩ = some x ∧ W.cell? ⟨K, o + 1, none⟩ = some y ∧ W.cell? ⟨K, o + 2, none⟩ = some z ∧ K < W.heap.size ∧ Below w.heap.size w W) :
    W.drew.cell? ⟨K, o, none⟩ = some x ∧ W.drew.cell? ⟨K, o + 1, none⟩ = some y ∧ W.drew.cell? ⟨K, o + 2, none⟩ = some z ∧ K < W.drew.heap.size ∧ Below w.heap.size w W.drew := ⟨h.1, h.2.1, h.2.2.1, h.2.2.2.1, h.2.2.2.2.drew⟩

theorem AtOk.use0 {f : FuncId} {w W : World} {p : Option Addr} {N c : Nat} {col k n : Int} {t : ByteArray} {K : Nat} {x y z : Value} (h : AtOk f w p N c col k n t) (hS : W.cell? ⟨K, 0, none⟩ = some x ∧ W.cell? ⟨K, 1, none⟩ = some y ∧ W.cell? ⟨K, 2, none⟩ = some z ∧ K < W.heap.size ∧ Below w.heap.size w W) :
    Calls Tryd.prog f #[.slice p N c, .int .i64 col] W fun e w' => e = .returned (.agg #[.int .i64 k, .int .i64 n, .string t]) ∧ Below W.heap.size W w' := h.on W hS.2.2.2.2
theorem keepL3 {w W W' : World} {K : Nat} {x y z : Value} (h : W.cell? ⟨K, 0, none⟩ = some x ∧ W.cell? ⟨K, 1, none⟩ = some y ∧ W.cell? ⟨K, 2, none⟩ = some z ∧ K < W.heap.size ∧ Below w.heap.size w W) (hb : Below W.heap.size W W') :
    W'.cell? ⟨K, 0, none⟩ = some x ∧ W'.cell? ⟨K, 1, none⟩ = some y ∧ W'.cell? ⟨K, 2, none⟩ = some z ∧ K < W'.heap.size ∧ Below w.heap.size w W' :=
  ⟨(hb.cell (p := ⟨K, _, none⟩) h.2.2.2.1).trans h.1, (hb.cell (p := ⟨K, _, none⟩) h.2.2.2.1).trans h.2.1, (hb.cell (p := ⟨K, _, none⟩) h.2.2.2.1).trans h.2.2.1, Nat.lt_of_lt_of_le h.2.2.2.1 hb.size, h.2.2.2.2.trans (hb.mono h.2.2.2.2.size)⟩
theorem keepL30 {w W : World} {K : Nat} {x y z : Value} (h : W.cell? ⟨K, 0, none⟩ = some x ∧ W.cell? ⟨K, 1, none⟩ = some y ∧ W.cell? ⟨K, 2, none⟩ = some z ∧ K < W.heap.size ∧ Below w.heap.size w W) :
    W.drew.cell? ⟨K, 0, none⟩ = some x ∧ W.drew.cell? ⟨K, 1, none⟩ = some y ∧ W.drew.cell? ⟨K, 2, none⟩ = some z ∧ K < W.drew.heap.size ∧ Below w.heap.size w W.drew := ⟨h.1, h.2.1, h.2.2.1, h.2.2.2.1, h.2.2.2.2.drew⟩

theorem stand_step {ks : List Ord.Key} {i : Nat} {k : Ord.Key} (hk : ks[i]? = some k) (width : Int) (a b : List Val.V) :
    standV (ks.drop i) width a b = if Val.cmp (atV a k.col) (atV b k.col) k.coll ≠ 0 then (if k.desc = true then - Val.cmp (atV a k.col) (atV b k.col) k.coll else Val.cmp (atV a k.col) (atV b k.col) k.coll) else standV (ks.drop (i + 1)) width a b := by
  obtain ⟨hl, rfl⟩ := List.getElem?_eq_some_iff.1 hk
  rw [List.drop_eq_getElem_cons hl]
  rfl
theorem stand_end {ks : List Ord.Key} {i : Nat} (h : ks.length ≤ i) (width : Int) (a b : List Val.V) : standV (ks.drop i) width a b = Val.rowsFrom [] 0 (firstV a width) (firstV b width) := by
  rw [List.drop_of_length_le h]; rfl

theorem keepG {w W W' : World} {g : Nat} {x : Value} (h : W.cell? ⟨g, 0, none⟩ = some x ∧ g < W.heap.size ∧ Below w.heap.size w W) (hb : Below W.heap.size W W') : W'.cell? ⟨g, 0, none⟩ = some x ∧ g < W'.heap.size ∧ Below w.heap.size w W' :=
  ⟨(hb.cell (p := ⟨g, _, none⟩) h.2.1).trans h.1, Nat.lt_of_lt_of_le h.2.1 hb.size, h.2.2.trans (hb.mono h.2.2.size)⟩
theorem keepG0 {w W : World} {g : Nat} {x : Value} (h : W.cell? ⟨g, 0, none⟩ = some x ∧ g < W.heap.size ∧ Below w.heap.size w W) : W.drew.cell? ⟨g, 0, none⟩ = some x ∧ g < W.drew.heap.size ∧ Below w.heap.size w W.drew := ⟨h.1, h.2.1, h.2.2.drew⟩
theorem rowsOf {w W : World} {p q : Option Addr} {M1 M2 c1 c2 g : Nat} {va vb : List Val.V} {width r : Int} {x : Value} (F1 : ValsAt w p M1 (firstV va width)) (F2 : ValsAt w q M2 (firstV vb width)) (h1 : M1 ≤ 1048576) (h2 : M2 ≤ 1048576) (ta : Hid (∀ v ∈ va, v.text.length ≤ 1048576)) (tb : Hid (∀ v ∈ vb, v.text.length ≤ 1048576))
    (hS : W.cell? ⟨g, 0, none⟩ = some x ∧ g < W.heap.size ∧ Below w.heap.size w W) (hr : Hid (Val.rowsFrom [] 0 (firstV va width) (firstV vb width) = r)) :
    Calls Tryd.prog 44 #[.slice p M1 c1, .slice q M2 c2, .slice none 0 0] W fun e w' => e = .returned (.int .i64 r) ∧ Below W.heap.size W w' :=
  vrows_any p M1 c1 q M2 c2 none 0 0 _ _ [] W (F1.below hS.2.2) (F2.below hS.2.2) ⟨rfl, .inl rfl⟩ h1 h2 (by omega) (first_text ta.out width) (first_text tb.out width) r hr

set_option maxHeartbeats 4000000 in
theorem order_is (p : Option Addr) (N ca : Nat) (q : Option Addr) (M cb : Nat) (va vb : List Val.V) (sk : Option Addr) (KN kc : Nat) (ks : List Ord.Key) (width : Int) (g1 g2 : Nat) (w : World) (hA : ValsAt w p N va) (hA' : ValsAt w q M vb) (hK : KeysAt w sk KN ks)
    (hg1 : w.cell? ⟨g1, 0, none⟩ = some (.slice sk KN kc)) (hg2 : w.cell? ⟨g2, 0, none⟩ = some (.int .i64 width)) (hl2 : g2 < w.heap.size) (hN : N ≤ 1048576) (hM : M ≤ 1048576) (hKN : KN ≤ 1048576) (hca : N ≤ ca) (hcb : M ≤ cb)
    (hTa : ∀ v ∈ va, v.text.length ≤ 1048576) (hTb : ∀ v ∈ vb, v.text.length ≤ 1048576) (r : Int) (hr : Hid (standV ks width va vb = r)) :
    Calls Tryd.prog 41 #[.slice p N ca, .slice q M cb, .pointer (some ⟨g1, 0, none⟩), .pointer (some ⟨g2, 0, none⟩)] w fun e w' => e = .returned (.int .i64 r) ∧ Below w.heap.size w w' := by
  have hklen := hK.1
  replace hTa := Lib.hid hTa
  replace hTb := Lib.hid hTb
  replace hklen := Lib.hid hklen
  go_enter Tryd.func41, Tryd.ntmps41
  go_wp2
  go_loopw [12] (fun iv wr => ∃ i : Nat, iv = .int .i64 (i : Int) ∧ i ≤ KN ∧ Hid (standV (ks.drop i) width va vb = r) ∧ Below w.heap.size w wr) (fun iv _ => KN - (intOf iv).toNat)
  case atStart => exact ⟨0, by go_num, by omega, Lib.hid (by rw [List.drop_zero]; exact hr.out), Below.refl _ _⟩
  case round =>
    obtain ⟨i, rfl, hi, hq, hB⟩ := hrel
    by_cases hlt : i < KN
    · have hlB : decide ((i : Int) < (KN : Int)) = true := by simp; omega
      obtain ⟨k, b, off, hki, rfl, hbl, c0, c1, c2⟩ := (hK.below hB).at hlt
      have hst := stand_step hki width va vb
      rw [hq.out] at hst
      obtain ⟨k1, n1, t1, e1⟩ := atV_form va k.col
      obtain ⟨k2, n2, t2, e2⟩ := atV_form vb k.col
      have hs1 : t1.size ≤ 1048576 := by have := atV_text hTa.out k.col; rw [e1] at this; exact this
      have hs2 : t2.size ≤ 1048576 := by have := atV_text hTb.out k.col; rw [e2] at this; exact this
      rw [e1, e2] at hst
      have hcr := Val.cmp_range ⟨k1, n1, t1.data.toList⟩ ⟨k2, n2, t2.data.toList⟩ k.coll
      obtain ⟨d, hd⟩ : ∃ d, Val.cmp ⟨k1, n1, t1.data.toList⟩ ⟨k2, n2, t2.data.toList⟩ k.coll = d := ⟨_, rfl⟩
      rw [hd] at hst hcr
      have A1 := atOk_s (c := ca) hA hN (Lib.hid e1)
      have A2 := atOk_s (c := cb) hA' hM (Lib.hid e2)
      obtain ⟨col, coll, desc⟩ := k
      simp only at c0 c1 c2 hst A1 A2
      have i0 : (0 : Int) ≤ (i : Int) := by omega
      have i1 : (i : Int) < (KN : Int) := by omega
      have hBz := hB.size
      have H0 := (hB.alloc hBz (.cells #[.int .i64 col, .int .i64 coll, .bool desc] 70))
      have hn := heap_new wr (.cells #[.int .i64 col, .int .i64 coll, .bool desc] 70)
      have Q0 : (wr.alloc (.cells #[.int .i64 col, .int .i64 coll, .bool desc] 70)).cell? ⟨wr.heap.size, 0, none⟩ = some (.int .i64 col) := cell_of_row _ _ _ _ _ _ hn
      have Q1 : (wr.alloc (.cells #[.int .i64 col, .int .i64 coll, .bool desc] 70)).cell? ⟨wr.heap.size, 1, none⟩ = some (.int .i64 coll) := cell_of_row _ _ _ _ _ _ hn
      have Q2 : (wr.alloc (.cells #[.int .i64 col, .int .i64 coll, .bool desc] 70)).cell? ⟨wr.heap.size, 2, none⟩ = some (.bool desc) := cell_of_row _ _ _ _ _ _ hn
      replace hd := Lib.hid hd
      replace hcr := Lib.hid hcr
      replace hst := Lib.hid hst
      clear hq hr hki e1 e2 hn hA hA' hg1
      go_upto_region 4 with fail
      have H1 : (wr.alloc (.cells #[.int .i64 col, .int .i64 coll, .bool desc] 70)).cell? ⟨wr.heap.size, 0, none⟩ = some (.int .i64 col) ∧ (wr.alloc (.cells #[.int .i64 col, .int .i64 coll, .bool desc] 70)).cell? ⟨wr.heap.size, 1, none⟩ = some (.int .i64 coll) ∧ (wr.alloc (.cells #[.int .i64 col, .int .i64 coll, .bool desc] 70)).cell? ⟨wr.heap.size, 2, none⟩ = some (.bool desc) ∧ wr.heap.size < (wr.alloc (.cells #[.int .i64 col, .int .i64 coll, .bool desc] 70)).heap.size ∧ Below w.heap.size w (wr.alloc (.cells #[.int .i64 col, .int .i64 coll, .bool desc] 70)) := ⟨Q0, Q1, Q2, by simp, H0⟩
      clear Q0 Q1 Q2 H0 c0 c1 c2
      generalize wr.alloc (.cells #[.int .i64 col, .int .i64 coll, .bool desc] 70) = W1 at H1 ⊢
      generalize wr.heap.size = K at H1 hBz ⊢
      go_region_held3 (fun W => W.cell? ⟨K, 0, none⟩ = some (.int .i64 col) ∧ W.cell? ⟨K, 1, none⟩ = some (.int .i64 coll) ∧ W.cell? ⟨K, 2, none⟩ = some (.bool desc) ∧ K < W.heap.size ∧ Below w.heap.size w W) (first | assumption | exact keepL3 (by assumption) (by assumption) | exact keepL30 (by assumption)) (first
        | (go_at_call 43; refine (AtOk.use0 (f := 43) (by assumption) (by assumption)).mono ?_; rintro e w3 ⟨rfl, hb3⟩)
        | (go_at_call 42; refine (vcmp_is _ _ _ _ _ _ _ _ hs1 hs2 _ hd).mono ?_; rintro e w3 ⟨rfl, hb3⟩))
      rename_i hh
      obtain ⟨_, _, q2, _, hB2⟩ := hh
      clear A1 A2 H1 hd
      by_cases hd0 : d = 0
      · have hst' : standV (ks.drop (i + 1)) width va vb = r := by have := hst.out; rw [if_neg (by rw [hd0]; simp)] at this; exact this.symm
        replace hst' := Lib.hid hst'
        subst hd0
        clear hst hcr
        cases desc with
        | true =>
          go_wp2
          go_roundw
          case rel => exact ⟨i + 1, by go_num, by omega, hst', hB2⟩
          case measure => simp [intOf]; omega
        | false =>
          go_wp2
          go_roundw
          case rel => exact ⟨i + 1, by go_num, by omega, hst', hB2⟩
          case measure => simp [intOf]; omega
      · have hst' := hst.out
        rw [if_pos hd0] at hst'
        have hdl : -1 ≤ d ∧ d ≤ 1 := by rcases hcr.out with h | h | h <;> omega
        have h1 := hdl.1
        have h2 := hdl.2
        clear hst hcr hdl
        cases desc with
        | true =>
          rw [if_pos rfl] at hst'
          have w0 : IntKind.i64.wrap (-d) = -d := IntWalk.i64_in _ (by omega)
          have w1 : wrap64 (-d) = -d := by unfold wrap64; omega
          have n0 : (-d != 0) = true := by simp; omega
          replace hst' := Lib.hid hst'
          go_wp2
          go_ret
          exact ⟨by rw [hst'.out]; rfl, hB2⟩
        | false =>
          rw [if_neg (by simp)] at hst'
          have n0 : (d != 0) = true := by simp; omega
          replace hst' := Lib.hid hst'
          go_wp2
          go_ret
          exact ⟨by rw [hst'.out]; rfl, hB2⟩
    · have hlB : decide ((i : Int) < (KN : Int)) = false := by simp; omega
      have hst := stand_end (ks := ks) (i := i) (by rw [hklen.out]; omega) width va vb
      rw [hq.out] at hst
      obtain ⟨M1, hM1⟩ : ∃ M1, M1 = min width.toNat N := ⟨_, rfl⟩
      obtain ⟨M2, hM2⟩ : ∃ M2, M2 = min width.toNat M := ⟨_, rfl⟩
      have hN1 : M1 ≤ 1048576 := by omega
      have hN2 : M2 ≤ 1048576 := by omega
      replace hM1 := Lib.hid hM1
      replace hM2 := Lib.hid hM2
      have F1 := vals_firstV hA hM1
      have F2 := vals_firstV hA' hM2
      have hg2' : wr.cell? ⟨g2, 0, none⟩ = some (.int .i64 width) := (hB.cell (p := ⟨g2, _, none⟩) hl2).trans hg2
      have H1 : wr.cell? ⟨g2, 0, none⟩ = some (.int .i64 width) ∧ g2 < wr.heap.size ∧ Below w.heap.size w wr := ⟨hg2', Nat.lt_of_lt_of_le hl2 hB.size, hB⟩
      replace hst := Lib.hid hst.symm
      clear hq hr hg1 hg2 hg2' hB hA hA' hK
      go_wp2_with fail
      go_region_held3 (fun W => W.cell? ⟨g2, 0, none⟩ = some (.int .i64 width) ∧ g2 < W.heap.size ∧ Below w.heap.size w W) (first | assumption | exact keepG (by assumption) (by assumption) | exact keepG0 (by assumption)) (first
        | (go_at_call 30; refine (sfirst_is _ _ _ _ _ (by assumption) _ (by assumption)).mono ?_; rintro e w3 ⟨rfl, rfl⟩)
        | (go_at_call 44; refine (rowsOf F1 F2 hN1 hN2 hTa hTb (by assumption) hst).mono ?_; rintro e w3 ⟨rfl, hb3⟩))
      rename_i hh
      go_wp2
      go_ret
      exact ⟨rfl, hh.2.2⟩

set_option maxHeartbeats 4000000 in
theorem stand_is (p : Option Addr) (N ca : Nat) (q : Option Addr) (M cb : Nat) (va vb : List Val.V) (sk : Option Addr) (KN kc : Nat) (ks : List Ord.Key) (width : Int) (w : World) (hA : ValsAt w p N va) (hA' : ValsAt w q M vb) (hK : KeysAt w sk KN ks)
    (hN : N ≤ 1048576) (hM : M ≤ 1048576) (hKN : KN ≤ 1048576)
    (hTa : ∀ v ∈ va, v.text.length ≤ 1048576) (hTb : ∀ v ∈ vb, v.text.length ≤ 1048576) (r : Int) (hr : Hid (standV ks width va vb = r)) :
    Calls Tryd.prog 39 #[.slice p N ca, .slice q M cb, .slice sk KN kc, .int .i64 width] w fun e w' => e = .returned (.int .i64 r) ∧ Below w.heap.size w w' := by
  have hklen := hK.1
  replace hTa := Lib.hid hTa
  replace hTb := Lib.hid hTb
  replace hklen := Lib.hid hklen
  go_enter Tryd.func39, Tryd.ntmps39
  go_wp2
  go_loopw [9] (fun iv wr => ∃ i : Nat, iv = .int .i64 (i : Int) ∧ i ≤ KN ∧ Hid (standV (ks.drop i) width va vb = r) ∧ Below w.heap.size w wr) (fun iv _ => KN - (intOf iv).toNat)
  case atStart => exact ⟨0, by go_num, by omega, Lib.hid (by rw [List.drop_zero]; exact hr.out), Below.refl _ _⟩
  case round =>
    obtain ⟨i, rfl, hi, hq, hB⟩ := hrel
    by_cases hlt : i < KN
    · have hlB : decide ((i : Int) < (KN : Int)) = true := by simp; omega
      obtain ⟨k, b, off, hki, rfl, hbl, c0, c1, c2⟩ := (hK.below hB).at hlt
      have hst := stand_step hki width va vb
      rw [hq.out] at hst
      obtain ⟨k1, n1, t1, e1⟩ := atV_form va k.col
      obtain ⟨k2, n2, t2, e2⟩ := atV_form vb k.col
      have hs1 : t1.size ≤ 1048576 := by have := atV_text hTa.out k.col; rw [e1] at this; exact this
      have hs2 : t2.size ≤ 1048576 := by have := atV_text hTb.out k.col; rw [e2] at this; exact this
      rw [e1, e2] at hst
      have hcr := Val.cmp_range ⟨k1, n1, t1.data.toList⟩ ⟨k2, n2, t2.data.toList⟩ k.coll
      obtain ⟨d, hd⟩ : ∃ d, Val.cmp ⟨k1, n1, t1.data.toList⟩ ⟨k2, n2, t2.data.toList⟩ k.coll = d := ⟨_, rfl⟩
      rw [hd] at hst hcr
      have A1 := atOk_r (c := ca) hA hN (Lib.hid e1)
      have A2 := atOk_r (c := cb) hA' hM (Lib.hid e2)
      obtain ⟨col, coll, desc⟩ := k
      simp only at c0 c1 c2 hst A1 A2
      have i0 : (0 : Int) ≤ (i : Int) := by omega
      have i1 : (i : Int) < (KN : Int) := by omega
      have H1 : wr.cell? ⟨b, off + i * 3, none⟩ = some (.int .i64 col) ∧ wr.cell? ⟨b, off + i * 3 + 1, none⟩ = some (.int .i64 coll) ∧ wr.cell? ⟨b, off + i * 3 + 2, none⟩ = some (.bool desc) ∧ b < wr.heap.size ∧ Below w.heap.size w wr := ⟨c0, c1, c2, hbl, hB⟩
      replace hd := Lib.hid hd
      replace hcr := Lib.hid hcr
      replace hst := Lib.hid hst
      clear hq hr hki e1 e2 hA hA' c0 c1 c2 hB
      go_wp2_with fail
      go_region_held3 (fun W => W.cell? ⟨b, off + i * 3, none⟩ = some (.int .i64 col) ∧ W.cell? ⟨b, off + i * 3 + 1, none⟩ = some (.int .i64 coll) ∧ W.cell? ⟨b, off + i * 3 + 2, none⟩ = some (.bool desc) ∧ b < W.heap.size ∧ Below w.heap.size w W) (first | assumption | exact keepK3 (by assumption) (by assumption) | exact keepK30 (by assumption)) (first
        | (go_at_call 48; refine (AtOk.use (f := 48) (by assumption) (by assumption)).mono ?_; rintro e w3 ⟨rfl, hb3⟩)
        | (go_at_call 47; refine (rcmp_is _ _ _ _ _ _ _ _ hs1 hs2 _ hd).mono ?_; rintro e w3 ⟨rfl, hb3⟩))
      rename_i hh
      obtain ⟨_, _, q2, _, hB2⟩ := hh
      clear A1 A2 H1 hd
      by_cases hd0 : d = 0
      · have hst' : standV (ks.drop (i + 1)) width va vb = r := by have := hst.out; rw [if_neg (by rw [hd0]; simp)] at this; exact this.symm
        replace hst' := Lib.hid hst'
        subst hd0
        clear hst hcr
        go_wp2
        go_roundw
        case rel => exact ⟨i + 1, by go_num, by omega, hst', hB2⟩
        case measure => simp [intOf]; omega
      · have hst' := hst.out
        rw [if_pos hd0] at hst'
        have hdl : -1 ≤ d ∧ d ≤ 1 := by rcases hcr.out with h | h | h <;> omega
        have h1 := hdl.1
        have h2 := hdl.2
        have n0 : (d != 0) = true := by simp; omega
        clear hst hcr hdl
        cases desc with
        | true =>
          rw [if_pos rfl] at hst'
          have w0 : IntKind.i64.wrap (-d) = -d := IntWalk.i64_in _ (by omega)
          have w1 : wrap64 (-d) = -d := by unfold wrap64; omega
          replace hst' := Lib.hid hst'
          go_wp2
          go_ret
          exact ⟨by rw [hst'.out]; rfl, hB2⟩
        | false =>
          rw [if_neg (by simp)] at hst'
          replace hst' := Lib.hid hst'
          go_wp2
          go_ret
          exact ⟨by rw [hst'.out]; rfl, hB2⟩
    · have hlB : decide ((i : Int) < (KN : Int)) = false := by simp; omega
      have hst := stand_end (ks := ks) (i := i) (by rw [hklen.out]; omega) width va vb
      rw [hq.out] at hst
      replace hst := Lib.hid hst.symm
      have A1 := hA.below hB
      have A2 := hA'.below hB
      have tok1 : True := trivial
      clear hq hr hA hA' hK
      go_wp2_with (first
        | (go_at_call 32; have _t := tok1; refine (rfirst_is p N ca va width _ A1 hN).mono ?_; rintro e w1 ⟨⟨q1, M1, c1, rfl, hM1, F1⟩, hb1⟩; clear tok1)
        | (go_at_call 32; refine (rfirst_is q M cb vb width _ (A2.below hb1) hM).mono ?_; rintro e w2 ⟨⟨q2, M2, c2, rfl, hM2, F2⟩, hb2⟩)
        | (go_at_call 49; refine (rrows_any q1 M1 c1 q2 M2 c2 none 0 0 _ _ [] _ (F1.below hb2) F2 ⟨rfl, .inl rfl⟩ (by omega) (by omega) (by omega) (first_text hTa.out width) (first_text hTb.out width) r hst).mono ?_; rintro e w3 ⟨rfl, hb3⟩))
      go_ret
      exact ⟨rfl, hB.trans ((hb1.trans ((hb2.trans (hb3.mono hb2.size)).mono hb1.size)).mono hB.size)⟩
end Go.Proofs.YtdapnemcdgjeeaaDoor
