/- Rows of values in memory, and keys; a row's value in a column, its first columns (package sorter, and the reference's). -/
import Derived.Test.YtdapnemcdgjeeaaDoorRowsW3
import Derived.Test.YtdapnemcdgjeeaaDoorVCopy
import Derived.Test.YtdapnemcdgjeeaaDoorOrd
import Derived.Test.YtdapnemcdgjeeaaDoorBelow
set_option maxRecDepth 100000
set_option linter.unusedVariables false
set_option linter.unusedSimpArgs false
namespace Go.Proofs.YtdapnemcdgjeeaaDoor
open Go.RowKit
open Go.Proofs.YtdapnemcdgjeeaaDoor.Ord (atV firstV standV mayRow MRow)

/-- a slice's head: nil, or one whose length fits -/
def SlOk (q : Option Addr) (n c : Nat) : Prop := n ≤ c ∧ (q = none → c = 0)
/-- a slice of rows of values in memory that was there -/
def RowsAt (W : World) (p : Option Addr) (N : Nat) (rows : List (List Val.V)) : Prop :=
  rows.length = N ∧ (rows = [] ∨ ∃ b off, p = some ⟨b, off, none⟩ ∧ b < W.heap.size ∧ ∀ k r, rows[k]? = some r → ∃ q c, W.cell? ⟨b, off + k, none⟩ = some (.slice q r.length c) ∧ SlOk q r.length c ∧ ValsAt W q r.length r)
theorem RowsAt.below {W W' : World} {p : Option Addr} {N : Nat} {rows : List (List Val.V)} (h : RowsAt W p N rows) (hb : Below W.heap.size W W') : RowsAt W' p N rows := by
  obtain ⟨h1, h2⟩ := h
  refine ⟨h1, ?_⟩
  rcases h2 with h2 | ⟨b, off, rfl, hl, hc⟩
  · exact .inl h2
  · refine .inr ⟨b, off, rfl, Nat.lt_of_lt_of_le hl hb.size, fun k r hk => ?_⟩
    obtain ⟨q, c, c0, hs, hv⟩ := hc k r hk
    exact ⟨q, c, (hb.cell (p := ⟨b, _, none⟩) hl).trans c0, hs, hv.below hb⟩
/-- the row at a place -/
theorem RowsAt.at {W : World} {p : Option Addr} {N : Nat} {rows : List (List Val.V)} (h : RowsAt W p N rows) {k : Nat} (hk : k < N) :
    ∃ r b off q c, rows[k]? = some r ∧ p = some ⟨b, off, none⟩ ∧ b < W.heap.size ∧ W.cell? ⟨b, off + k, none⟩ = some (.slice q r.length c) ∧ SlOk q r.length c ∧ ValsAt W q r.length r := by
  have hl : k < rows.length := by rw [h.1]; exact hk
  have hr : rows[k]? = some rows[k] := List.getElem?_eq_getElem hl
  rcases h.2 with h2 | ⟨b, off, rfl, hb, hc⟩
  · rw [h2] at hl; simp at hl
  · obtain ⟨q, c, c0, hs, hv⟩ := hc k _ hr
    exact ⟨rows[k], b, off, q, c, hr, rfl, hb, c0, hs, hv⟩
/-- a slice of keys in memory that was there -/
def KeysAt (W : World) (p : Option Addr) (N : Nat) (ks : List Ord.Key) : Prop :=
  ks.length = N ∧ (ks = [] ∨ ∃ b off, p = some ⟨b, off, none⟩ ∧ b < W.heap.size ∧ ∀ i k, ks[i]? = some k → W.cell? ⟨b, off + i * 3, none⟩ = some (.int .i64 k.col) ∧ W.cell? ⟨b, off + i * 3 + 1, none⟩ = some (.int .i64 k.coll) ∧ W.cell? ⟨b, off + i * 3 + 2, none⟩ = some (.bool k.desc))
theorem KeysAt.below {W W' : World} {p : Option Addr} {N : Nat} {ks : List Ord.Key} (h : KeysAt W p N ks) (hb : Below W.heap.size W W') : KeysAt W' p N ks := by
  obtain ⟨h1, h2⟩ := h
  refine ⟨h1, ?_⟩
  rcases h2 with h2 | ⟨b, off, rfl, hl, hc⟩
  · exact .inl h2
  · refine .inr ⟨b, off, rfl, Nat.lt_of_lt_of_le hl hb.size, fun k g hk => ?_⟩
    obtain ⟨c0, c1, c2⟩ := hc k g hk
    exact ⟨(hb.cell (p := ⟨b, _, none⟩) hl).trans c0, (hb.cell (p := ⟨b, _, none⟩) hl).trans c1, (hb.cell (p := ⟨b, _, none⟩) hl).trans c2⟩
theorem KeysAt.at {W : World} {p : Option Addr} {N : Nat} {ks : List Ord.Key} (h : KeysAt W p N ks) {i : Nat} (hi : i < N) :
    ∃ k b off, ks[i]? = some k ∧ p = some ⟨b, off, none⟩ ∧ b < W.heap.size ∧ W.cell? ⟨b, off + i * 3, none⟩ = some (.int .i64 k.col) ∧ W.cell? ⟨b, off + i * 3 + 1, none⟩ = some (.int .i64 k.coll) ∧ W.cell? ⟨b, off + i * 3 + 2, none⟩ = some (.bool k.desc) := by
  have hl : i < ks.length := by rw [h.1]; exact hi
  have hr : ks[i]? = some ks[i] := List.getElem?_eq_getElem hl
  rcases h.2 with h2 | ⟨b, off, rfl, hb, hc⟩
  · rw [h2] at hl; simp at hl
  · obtain ⟨c0, c1, c2⟩ := hc i _ hr
    exact ⟨ks[i], b, off, hr, rfl, hb, c0, c1, c2⟩

set_option maxHeartbeats 1000000 in
theorem at_sorter.at_is (p : Option Addr) (N c : Nat) (vs : List Val.V) (col : Int) (w : World) (hA : ValsAt w p N vs) (hN : N ≤ 1048576) (k n : Int) (t : ByteArray) (hv : Hid (atV vs col = ⟨k, n, t.data.toList⟩)) :
    Calls Tryd.prog 43 #[.slice p N c, .int .i64 col] w fun e w' => e = .returned (.agg #[.int .i64 k, .int .i64 n, .string t]) ∧ Below w.heap.size w w' := by
  have hb0 := (Below.refl w.heap.size w).alloc (Nat.le_refl _) (.cells #[.int .i64 0, .int .i64 0, .string ⟨#[]⟩] 52)
  have hlen := hA.1
  by_cases h0 : col < 0
  · have b0 : decide (col < 0) = true := decide_eq_true h0
    have he := hv.out
    rw [atV, if_pos (.inl h0)] at he
    injection he with e1 e2 e3
    subst e1 e2
    obtain rfl : t = ⟨#[]⟩ := by rw [← bs_of t, ← e3]; rfl
    clear hv e3 hlen
    go_enter Tryd.func43, Tryd.ntmps43
    go_wp2
    exact bodyPost_ret (v := .agg #[.int .i64 0, .int .i64 0, .string ⟨#[]⟩]) (by simp only [results, Tryd.results43]; go_simp) rfl ⟨rfl, (Below.refl _ _).alloc (Nat.le_refl _) _⟩
  · have b0 : decide (col < 0) = false := decide_eq_false h0
    by_cases h1 : (N : Int) ≤ col
    · have b1 : decide (col ≥ (N : Int)) = true := decide_eq_true h1
      have he := hv.out
      rw [atV, if_pos (.inr (by rw [hlen]; exact h1))] at he
      injection he with e1 e2 e3
      subst e1 e2
      obtain rfl : t = ⟨#[]⟩ := by rw [← bs_of t, ← e3]; rfl
      clear hv e3 hlen
      go_enter Tryd.func43, Tryd.ntmps43
      go_wp2
      exact bodyPost_ret (v := .agg #[.int .i64 0, .int .i64 0, .string ⟨#[]⟩]) (by simp only [results, Tryd.results43]; go_simp) rfl ⟨rfl, (Below.refl _ _).alloc (Nat.le_refl _) _⟩
    · have b1 : decide (col ≥ (N : Int)) = false := decide_eq_false (by omega)
      obtain ⟨i, rfl⟩ : ∃ i : Nat, col = (i : Int) := ⟨col.toNat, by omega⟩
      have hi : i < N := by omega
      obtain ⟨v, hvi⟩ : ∃ v, vs[i]? = some v := ⟨_, List.getElem?_eq_getElem (by rw [hlen]; exact hi)⟩
      have he := hv.out
      rw [atV, if_neg (by rw [hlen]; omega), Int.toNat_natCast, List.getD_eq_getElem?_getD, hvi, Option.getD_some] at he
      subst he
      rcases hA.2 with hz | ⟨b, off, rfl, hbl, hcell⟩
      · rw [hz] at hvi; simp at hvi
      obtain ⟨c0, c1, c2⟩ := hcell i _ hvi
      rw [bs_of] at c2
      simp only at c0 c1 c2
      have d0 : (w.alloc (.cells #[.int .i64 0, .int .i64 0, .string ⟨#[]⟩] 52)).cell? ⟨b, off + i * 3, none⟩ = some (.int .i64 k) := (hb0.cell (p := ⟨b, _, none⟩) hbl).trans c0
      have d1 : (w.alloc (.cells #[.int .i64 0, .int .i64 0, .string ⟨#[]⟩] 52)).cell? ⟨b, off + i * 3 + 1, none⟩ = some (.int .i64 n) := (hb0.cell (p := ⟨b, _, none⟩) hbl).trans c1
      have d2 : (w.alloc (.cells #[.int .i64 0, .int .i64 0, .string ⟨#[]⟩] 52)).cell? ⟨b, off + i * 3 + 2, none⟩ = some (.string t) := (hb0.cell (p := ⟨b, _, none⟩) hbl).trans c2
      have i0 : (0 : Int) ≤ (i : Int) := by omega
      have i1 : (i : Int) < (N : Int) := by omega
      clear hv hlen hvi hcell c0 c1 c2 hA
      go_enter Tryd.func43, Tryd.ntmps43
      go_wp2
      exact bodyPost_ret (v := .agg #[.int .i64 k, .int .i64 n, .string t]) (by simp only [results, Tryd.results43]; go_simp) rfl ⟨rfl, (Below.refl _ _).alloc (Nat.le_refl _) _⟩
set_option maxHeartbeats 1000000 in
theorem at_bureauref20.At_is (p : Option Addr) (N c : Nat) (vs : List Val.V) (col : Int) (w : World) (hA : ValsAt w p N vs) (hN : N ≤ 1048576) (k n : Int) (t : ByteArray) (hv : Hid (atV vs col = ⟨k, n, t.data.toList⟩)) :
    Calls Tryd.prog 48 #[.slice p N c, .int .i64 col] w fun e w' => e = .returned (.agg #[.int .i64 k, .int .i64 n, .string t]) ∧ Below w.heap.size w w' := by
  have hb0 := (Below.refl w.heap.size w).alloc (Nat.le_refl _) (.cells #[.int .i64 0, .int .i64 0, .string ⟨#[]⟩] 52)
  have hlen := hA.1
  by_cases h0 : col < 0
  · have b0 : decide (col < 0) = true := decide_eq_true h0
    have he := hv.out
    rw [atV, if_pos (.inl h0)] at he
    injection he with e1 e2 e3
    subst e1 e2
    obtain rfl : t = ⟨#[]⟩ := by rw [← bs_of t, ← e3]; rfl
    clear hv e3 hlen
    go_enter Tryd.func48, Tryd.ntmps48
    go_wp2
    exact bodyPost_ret (v := .agg #[.int .i64 0, .int .i64 0, .string ⟨#[]⟩]) (by simp only [results, Tryd.results48]; go_simp) rfl ⟨rfl, (Below.refl _ _).alloc (Nat.le_refl _) _⟩
  · have b0 : decide (col < 0) = false := decide_eq_false h0
    by_cases h1 : (N : Int) ≤ col
    · have b1 : decide (col ≥ (N : Int)) = true := decide_eq_true h1
      have he := hv.out
      rw [atV, if_pos (.inr (by rw [hlen]; exact h1))] at he
      injection he with e1 e2 e3
      subst e1 e2
      obtain rfl : t = ⟨#[]⟩ := by rw [← bs_of t, ← e3]; rfl
      clear hv e3 hlen
      go_enter Tryd.func48, Tryd.ntmps48
      go_wp2
      exact bodyPost_ret (v := .agg #[.int .i64 0, .int .i64 0, .string ⟨#[]⟩]) (by simp only [results, Tryd.results48]; go_simp) rfl ⟨rfl, (Below.refl _ _).alloc (Nat.le_refl _) _⟩
    · have b1 : decide (col ≥ (N : Int)) = false := decide_eq_false (by omega)
      obtain ⟨i, rfl⟩ : ∃ i : Nat, col = (i : Int) := ⟨col.toNat, by omega⟩
      have hi : i < N := by omega
      obtain ⟨v, hvi⟩ : ∃ v, vs[i]? = some v := ⟨_, List.getElem?_eq_getElem (by rw [hlen]; exact hi)⟩
      have he := hv.out
      rw [atV, if_neg (by rw [hlen]; omega), Int.toNat_natCast, List.getD_eq_getElem?_getD, hvi, Option.getD_some] at he
      subst he
      rcases hA.2 with hz | ⟨b, off, rfl, hbl, hcell⟩
      · rw [hz] at hvi; simp at hvi
      obtain ⟨c0, c1, c2⟩ := hcell i _ hvi
      rw [bs_of] at c2
      simp only at c0 c1 c2
      have d0 : (w.alloc (.cells #[.int .i64 0, .int .i64 0, .string ⟨#[]⟩] 52)).cell? ⟨b, off + i * 3, none⟩ = some (.int .i64 k) := (hb0.cell (p := ⟨b, _, none⟩) hbl).trans c0
      have d1 : (w.alloc (.cells #[.int .i64 0, .int .i64 0, .string ⟨#[]⟩] 52)).cell? ⟨b, off + i * 3 + 1, none⟩ = some (.int .i64 n) := (hb0.cell (p := ⟨b, _, none⟩) hbl).trans c1
      have d2 : (w.alloc (.cells #[.int .i64 0, .int .i64 0, .string ⟨#[]⟩] 52)).cell? ⟨b, off + i * 3 + 2, none⟩ = some (.string t) := (hb0.cell (p := ⟨b, _, none⟩) hbl).trans c2
      have i0 : (0 : Int) ≤ (i : Int) := by omega
      have i1 : (i : Int) < (N : Int) := by omega
      clear hv hlen hvi hcell c0 c1 c2 hA
      go_enter Tryd.func48, Tryd.ntmps48
      go_wp2
      exact bodyPost_ret (v := .agg #[.int .i64 k, .int .i64 n, .string t]) (by simp only [results, Tryd.results48]; go_simp) rfl ⟨rfl, (Below.refl _ _).alloc (Nat.le_refl _) _⟩

/-- a row's first columns lie where the row lies -/
theorem vals_first {W : World} {p : Option Addr} {N : Nat} {vs : List Val.V} (h : ValsAt W p N vs) (k : Nat) (hk : k ≤ N) : ValsAt W p k (vs.take k) := by
  refine ⟨by rw [List.length_take, h.1]; omega, ?_⟩
  rcases h.2 with h2 | ⟨b, off, rfl, hb, hc⟩
  · exact .inl (by rw [h2, List.take_nil])
  · refine .inr ⟨b, off, rfl, hb, fun i v hi => hc i v ?_⟩
    rw [List.getElem?_take] at hi
    split at hi
    · exact hi
    · cases hi
theorem first_len (vs : List Val.V) (width : Int) : (firstV vs width).length = min width.toNat vs.length := by rw [firstV, List.length_take]

theorem sfirst_is (p : Option Addr) (N c : Nat) (width : Int) (w : World) (hc : N ≤ c) (M : Nat) (hM : Hid (M = min width.toNat N)) :
    Calls Tryd.prog 30 #[.slice p N c, .int .i64 width] w fun e w' => e = .returned (.slice p M c) ∧ w' = w := by
  have hM' := hM.out
  have hMN : M ≤ N := by omega
  have hm : max 0 (min width (N : Int)) = (M : Int) := by omega
  have i0 : (0 : Int) ≤ (M : Int) := by omega
  have i1 : (M : Int) ≤ (c : Int) := by omega
  clear hM' hM
  go_enter Tryd.func30, Tryd.ntmps30
  go_wp2
  go_ret
  exact ⟨rfl, rfl⟩
theorem vals_firstV {W : World} {p : Option Addr} {N M : Nat} {vs : List Val.V} {width : Int} (h : ValsAt W p N vs) (hM : Hid (M = min width.toNat N)) : ValsAt W p M (firstV vs width) := by
  have hm := hM.out
  have hf : firstV vs width = vs.take M := by rw [firstV, hm, ← h.1, List.take_eq_take_iff]; omega
  rw [hf]
  exact vals_first h M (by omega)

theorem val_one (k n : Int) (t : ByteArray) : ∀ u ∈ (#[Value.int .i64 k, .int .i64 n, .string t] : Array Value).toList, u.oneCell' = true := by
  intro u hu
  simp at hu
  rcases hu with rfl | rfl | rfl <;> rfl
theorem valC_snoc (vs : List Val.V) (v : Val.V) : valC (vs ++ [v]) = valC vs ++ [.int .i64 v.kind, .int .i64 v.int, .string (bs v.text)] := by simp [valC]
theorem first_step {vs : List Val.V} {width : Int} {i : Nat} {v : Val.V} (hv : vs[i]? = some v) : vs.take (i + 1) = vs.take i ++ [v] := by rw [List.take_add_one, hv]; rfl

/-- what the reference's First answers -/
def FirstP (N : Nat) (vs : List Val.V) (width : Int) (w : World) (e : Ending) (w' : World) : Prop := (∃ q M c', e = .returned (.slice q M c') ∧ M ≤ N ∧ ValsAt w' q M (firstV vs width)) ∧ Below w.heap.size w w'
set_option maxHeartbeats 1000000 in
theorem rfirst_is (p : Option Addr) (N c : Nat) (vs : List Val.V) (width : Int) (w : World) (hA : ValsAt w p N vs) (hN : N ≤ 1048576) :
    Calls Tryd.prog 32 #[.slice p N c, .int .i64 width] w (FirstP N vs width w) := by
  have hlen := hA.1
  replace hlen := Lib.hid hlen
  go_enter Tryd.func32, Tryd.ntmps32
  go_wp2
  go_loopw [5, 6] (fun ov iv wr => ∃ (q : Option Addr) (i co : Nat), ov = .slice q i co ∧ iv = .int .i64 (i : Int) ∧ i ≤ N ∧ i ≤ width.toNat ∧ wr.ownsRow w.heap.size 52 3 (.slice q i co) i (valC (vs.take i)) ∧ Below w.heap.size w wr) (fun _ iv _ => N - (intOf iv).toNat)
  case atStart => exact ⟨none, 0, 0, rfl, by go_num, by omega, by omega, World.ownsRow_nil _ _ _ _, Below.refl _ _⟩
  case round =>
    obtain ⟨q, i, co, rfl, rfl, hi, hiw, hrow, hB⟩ := hrel
    by_cases hlt : i < N
    · have hlB : decide ((i : Int) < (N : Int)) = true := by simp; omega
      by_cases hw : (i : Int) < width
      · have hwB : decide ((i : Int) < width) = true := decide_eq_true hw
        obtain ⟨v, hv⟩ : ∃ v, vs[i]? = some v := ⟨_, List.getElem?_eq_getElem (by rw [hlen.out]; exact hlt)⟩
        have hsn := first_step (width := width) hv
        rcases (hA.below hB).2 with h0 | ⟨b, off, rfl, hbl, hcell⟩
        · rw [h0] at hv; simp at hv
        obtain ⟨c0, c1, c2⟩ := hcell i v hv
        obtain ⟨kd, n, tx⟩ := v
        obtain ⟨t, rfl⟩ : ∃ t : ByteArray, tx = t.data.toList := ⟨bs tx, rfl⟩
        rw [bs_of] at c2
        simp only at c0 c1 c2
        have hcc : valC (vs.take (i + 1)) = valC (vs.take i) ++ [.int .i64 kd, .int .i64 n, .string t] := by rw [hsn, valC_snoc]; rfl
        have i0 : (0 : Int) ≤ (i : Int) := by omega
        have i1 : (i : Int) < (N : Int) := by omega
        have hi1 : (i + 1) * 32 ≤ 140737488355328 := by omega
        replace hcc := Lib.hid hcc
        clear hcell hv hsn hA
        go_wp2_with (at_builtin; go_must (refine wpList_push rfl _ _ 34 rfl w.heap.size 52 Tryd.underlying34 val_info rfl (by decide) _ _ _ rfl hrow _ rfl rfl (val_one _ _ _) hi1 (by decide) hB.size ?_); rintro _ w2 hown' hb2 ⟨g', cap', rfl⟩ _)
        go_roundw
        case rel => exact ⟨some ⟨g', 0, none⟩, i + 1, cap', rfl, by go_num, by omega, by omega, by rw [hcc.out]; simpa using hown', hB.trans hb2⟩
        case measure => simp [intOf]; omega
      · have hwB : decide ((i : Int) < width) = false := decide_eq_false hw
        have hf : firstV vs width = vs.take i := by rw [firstV, show width.toNat = i by omega]
        replace hf := Lib.hid hf
        have hfin := valsAt_own hrow (by rw [List.length_take, hlen.out]; omega)
        clear hA
        go_wp2
        go_ret
        exact ⟨⟨q, i, co, rfl, hi, by rw [hf.out]; exact hfin⟩, hB⟩
    · have hlB : decide ((i : Int) < (N : Int)) = false := by simp; omega
      have hf : firstV vs width = vs.take i := by rw [firstV, List.take_eq_take_iff, hlen.out]; omega
      replace hf := Lib.hid hf
      have hfin := valsAt_own hrow (by rw [List.length_take, hlen.out]; omega)
      clear hA
      go_wp2
      go_ret
      exact ⟨⟨q, i, co, rfl, hi, by rw [hf.out]; exact hfin⟩, hB⟩
end Go.Proofs.YtdapnemcdgjeeaaDoor
