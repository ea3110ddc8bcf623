/- Rows of values in memory, and keys; a row's value in a column, its first columns (package sorter, and the reference's). Walks: how two rows stand by keys and first columns (package sorter, and the reference's). Rows of values that a call makes: a slice of them in memory of its own, one more appended; a row copied (slices.Clone). Walks: rows copied; the order as a function value (package sorter). -/
import Derived.Test.YtdapnemcdgjeeaaGreatDoorRowsW3
import Derived.Test.YtdapnemcdgjeeaaGreatDoorVCopy
import Derived.Test.YtdapnemcdgjeeaaGreatDoorStbA
import Derived.Test.YtdapnemcdgjeeaaGreatDoorBelow
import Derived.Deep.RegionHeld3
import Derived.Lib.SliceRun
set_option maxRecDepth 100000
set_option linter.unusedVariables false
set_option linter.unusedSimpArgs false
namespace Go.Proofs.YtdapnemcdgjeeaaGreatDoor
open Go.RowKit
open Go.Proofs.YtdapnemcdgjeeaaGreatDoor.Ord (atV firstV standV mayRow MRow)

/-- a slice's head: nil, or one whose length fits -/
def SlOk (q : Option Addr) (n c : Nat) : Prop := n ≤ c ∧ (q = none → c = 0)
/-- a slice of rows of values in memory that was there -/
def RowsAt (W : World) (p : Option Addr) (N : Nat) (rows : List (List Val.V)) : Prop :=
  rows.length = N ∧ (rows = [] ∨ ∃ b off, p = some ⟨b, off, none⟩ ∧ b < W.heap.size ∧ ∀ k r, rows[k]? = some r → ∃ q c, W.cell? ⟨b, off + k, none⟩ = some (.slice q r.length c) ∧ SlOk q r.length c ∧ ValsAt W q r.length r)
theorem RowsAt.below {W W' : World} {p : Option Addr} {N : Nat} {rows : List (List Val.V)} (h : RowsAt W p N rows) (hb : Below W.heap.size W W') : RowsAt W' p N rows := by
  obtain ⟨h1, h2⟩ := h
  refine ⟨h1, ?_⟩
  rcases h2 with h2 | ⟨b, off, rfl, hl, hc⟩
  · exact .inl h2
  · refine .inr ⟨b, off, rfl, Nat.lt_of_lt_of_le hl hb.size, fun k r hk => ?_⟩
    obtain ⟨q, c, c0, hs, hv⟩ := hc k r hk
    exact ⟨q, c, (hb.cell (p := ⟨b, _, none⟩) hl).trans c0, hs, hv.below hb⟩
/-- the row at a place -/
theorem RowsAt.at {W : World} {p : Option Addr} {N : Nat} {rows : List (List Val.V)} (h : RowsAt W p N rows) {k : Nat} (hk : k < N) :
    ∃ r b off q c, rows[k]? = some r ∧ p = some ⟨b, off, none⟩ ∧ b < W.heap.size ∧ W.cell? ⟨b, off + k, none⟩ = some (.slice q r.length c) ∧ SlOk q r.length c ∧ ValsAt W q r.length r := by
  have hl : k < rows.length := by rw [h.1]; exact hk
  have hr : rows[k]? = some rows[k] := List.getElem?_eq_getElem hl
  rcases h.2 with h2 | ⟨b, off, rfl, hb, hc⟩
  · rw [h2] at hl; simp at hl
  · obtain ⟨q, c, c0, hs, hv⟩ := hc k _ hr
    exact ⟨rows[k], b, off, q, c, hr, rfl, hb, c0, hs, hv⟩
/-- a slice of keys in memory that was there -/
def KeysAt (W : World) (p : Option Addr) (N : Nat) (ks : List Ord.Key) : Prop :=
  ks.length = N ∧ (ks = [] ∨ ∃ b off, p = some ⟨b, off, none⟩ ∧ b < W.heap.size ∧ ∀ i k, ks[i]? = some k → W.cell? ⟨b, off + i * 3, none⟩ = some (.int .i64 k.col) ∧ W.cell? ⟨b, off + i * 3 + 1, none⟩ = some (.int .i64 k.coll) ∧ W.cell? ⟨b, off + i * 3 + 2, none⟩ = some (.bool k.desc))
theorem KeysAt.below {W W' : World} {p : Option Addr} {N : Nat} {ks : List Ord.Key} (h : KeysAt W p N ks) (hb : Below W.heap.size W W') : KeysAt W' p N ks := by
  obtain ⟨h1, h2⟩ := h
  refine ⟨h1, ?_⟩
  rcases h2 with h2 | ⟨b, off, rfl, hl, hc⟩
  · exact .inl h2
  · refine .inr ⟨b, off, rfl, Nat.lt_of_lt_of_le hl hb.size, fun k g hk => ?_⟩
    obtain ⟨c0, c1, c2⟩ := hc k g hk
    exact ⟨(hb.cell (p := ⟨b, _, none⟩) hl).trans c0, (hb.cell (p := ⟨b, _, none⟩) hl).trans c1, (hb.cell (p := ⟨b, _, none⟩) hl).trans c2⟩
theorem KeysAt.at {W : World} {p : Option Addr} {N : Nat} {ks : List Ord.Key} (h : KeysAt W p N ks) {i : Nat} (hi : i < N) :
    ∃ k b off, ks[i]? = some k ∧ p = some ⟨b, off, none⟩ ∧ b < W.heap.size ∧ W.cell? ⟨b, off + i * 3, none⟩ = some (.int .i64 k.col) ∧ W.cell? ⟨b, off + i * 3 + 1, none⟩ = some (.int .i64 k.coll) ∧ W.cell? ⟨b, off + i * 3 + 2, none⟩ = some (.bool k.desc) := by
  have hl : i < ks.length := by rw [h.1]; exact hi
  have hr : ks[i]? = some ks[i] := List.getElem?_eq_getElem hl
  rcases h.2 with h2 | ⟨b, off, rfl, hb, hc⟩
  · rw [h2] at hl; simp at hl
  · obtain ⟨c0, c1, c2⟩ := hc i _ hr
    exact ⟨ks[i], b, off, hr, rfl, hb, c0, c1, c2⟩

set_option maxHeartbeats 1000000 in
theorem at_sorter.at_is (p : Option Addr) (N c : Nat) (vs : List Val.V) (col : Int) (w : World) (hA : ValsAt w p N vs) (hN : N ≤ 1048576) (k n : Int) (t : ByteArray) (hv : Hid (atV vs col = ⟨k, n, t.data.toList⟩)) :
    Calls Tryz.prog 66 #[.slice p N c, .int .i64 col] w fun e w' => e = .returned (.agg #[.int .i64 k, .int .i64 n, .string t]) ∧ Below w.heap.size w w' := by
  have hb0 := (Below.refl w.heap.size w).alloc (Nat.le_refl _) (.cells #[.int .i64 0, .int .i64 0, .string ⟨#[]⟩] 33)
  have hlen := hA.1
  by_cases h0 : col < 0
  · have b0 : decide (col < 0) = true := decide_eq_true h0
    have he := hv.out
    rw [atV, if_pos (.inl h0)] at he
    injection he with e1 e2 e3
    subst e1 e2
    obtain rfl : t = ⟨#[]⟩ := by rw [← bs_of t, ← e3]; rfl
    clear hv e3 hlen
    go_enter Tryz.func66, Tryz.ntmps66
    go_wp2
    exact bodyPost_ret (v := .agg #[.int .i64 0, .int .i64 0, .string ⟨#[]⟩]) (by simp only [results, Tryz.results66]; go_simp) rfl ⟨rfl, (Below.refl _ _).alloc (Nat.le_refl _) _⟩
  · have b0 : decide (col < 0) = false := decide_eq_false h0
    by_cases h1 : (N : Int) ≤ col
    · have b1 : decide (col ≥ (N : Int)) = true := decide_eq_true h1
      have he := hv.out
      rw [atV, if_pos (.inr (by rw [hlen]; exact h1))] at he
      injection he with e1 e2 e3
      subst e1 e2
      obtain rfl : t = ⟨#[]⟩ := by rw [← bs_of t, ← e3]; rfl
      clear hv e3 hlen
      go_enter Tryz.func66, Tryz.ntmps66
      go_wp2
      exact bodyPost_ret (v := .agg #[.int .i64 0, .int .i64 0, .string ⟨#[]⟩]) (by simp only [results, Tryz.results66]; go_simp) rfl ⟨rfl, (Below.refl _ _).alloc (Nat.le_refl _) _⟩
    · have b1 : decide (col ≥ (N : Int)) = false := decide_eq_false (by omega)
      obtain ⟨i, rfl⟩ : ∃ i : Nat, col = (i : Int) := ⟨col.toNat, by omega⟩
      have hi : i < N := by omega
      obtain ⟨v, hvi⟩ : ∃ v, vs[i]? = some v := ⟨_, List.getElem?_eq_getElem (by rw [hlen]; exact hi)⟩
      have he := hv.out
      rw [atV, if_neg (by rw [hlen]; omega), Int.toNat_natCast, List.getD_eq_getElem?_getD, hvi, Option.getD_some] at he
      subst he
      rcases hA.2 with hz | ⟨b, off, rfl, hbl, hcell⟩
      · rw [hz] at hvi; simp at hvi
      obtain ⟨c0, c1, c2⟩ := hcell i _ hvi
      rw [bs_of] at c2
      simp only at c0 c1 c2
      have d0 : (w.alloc (.cells #[.int .i64 0, .int .i64 0, .string ⟨#[]⟩] 33)).cell? ⟨b, off + i * 3, none⟩ = some (.int .i64 k) := (hb0.cell (p := ⟨b, _, none⟩) hbl).trans c0
      have d1 : (w.alloc (.cells #[.int .i64 0, .int .i64 0, .string ⟨#[]⟩] 33)).cell? ⟨b, off + i * 3 + 1, none⟩ = some (.int .i64 n) := (hb0.cell (p := ⟨b, _, none⟩) hbl).trans c1
      have d2 : (w.alloc (.cells #[.int .i64 0, .int .i64 0, .string ⟨#[]⟩] 33)).cell? ⟨b, off + i * 3 + 2, none⟩ = some (.string t) := (hb0.cell (p := ⟨b, _, none⟩) hbl).trans c2
      have i0 : (0 : Int) ≤ (i : Int) := by omega
      have i1 : (i : Int) < (N : Int) := by omega
      clear hv hlen hvi hcell c0 c1 c2 hA
      go_enter Tryz.func66, Tryz.ntmps66
      go_wp2
      exact bodyPost_ret (v := .agg #[.int .i64 k, .int .i64 n, .string t]) (by simp only [results, Tryz.results66]; go_simp) rfl ⟨rfl, (Below.refl _ _).alloc (Nat.le_refl _) _⟩
set_option maxHeartbeats 1000000 in
theorem at_bureauref20.At_is (p : Option Addr) (N c : Nat) (vs : List Val.V) (col : Int) (w : World) (hA : ValsAt w p N vs) (hN : N ≤ 1048576) (k n : Int) (t : ByteArray) (hv : Hid (atV vs col = ⟨k, n, t.data.toList⟩)) :
    Calls Tryz.prog 60 #[.slice p N c, .int .i64 col] w fun e w' => e = .returned (.agg #[.int .i64 k, .int .i64 n, .string t]) ∧ Below w.heap.size w w' := by
  have hb0 := (Below.refl w.heap.size w).alloc (Nat.le_refl _) (.cells #[.int .i64 0, .int .i64 0, .string ⟨#[]⟩] 33)
  have hlen := hA.1
  by_cases h0 : col < 0
  · have b0 : decide (col < 0) = true := decide_eq_true h0
    have he := hv.out
    rw [atV, if_pos (.inl h0)] at he
    injection he with e1 e2 e3
    subst e1 e2
    obtain rfl : t = ⟨#[]⟩ := by rw [← bs_of t, ← e3]; rfl
    clear hv e3 hlen
    go_enter Tryz.func60, Tryz.ntmps60
    go_wp2
    exact bodyPost_ret (v := .agg #[.int .i64 0, .int .i64 0, .string ⟨#[]⟩]) (by simp only [results, Tryz.results60]; go_simp) rfl ⟨rfl, (Below.refl _ _).alloc (Nat.le_refl _) _⟩
  · have b0 : decide (col < 0) = false := decide_eq_false h0
    by_cases h1 : (N : Int) ≤ col
    · have b1 : decide (col ≥ (N : Int)) = true := decide_eq_true h1
      have he := hv.out
      rw [atV, if_pos (.inr (by rw [hlen]; exact h1))] at he
      injection he with e1 e2 e3
      subst e1 e2
      obtain rfl : t = ⟨#[]⟩ := by rw [← bs_of t, ← e3]; rfl
      clear hv e3 hlen
      go_enter Tryz.func60, Tryz.ntmps60
      go_wp2
      exact bodyPost_ret (v := .agg #[.int .i64 0, .int .i64 0, .string ⟨#[]⟩]) (by simp only [results, Tryz.results60]; go_simp) rfl ⟨rfl, (Below.refl _ _).alloc (Nat.le_refl _) _⟩
    · have b1 : decide (col ≥ (N : Int)) = false := decide_eq_false (by omega)
      obtain ⟨i, rfl⟩ : ∃ i : Nat, col = (i : Int) := ⟨col.toNat, by omega⟩
      have hi : i < N := by omega
      obtain ⟨v, hvi⟩ : ∃ v, vs[i]? = some v := ⟨_, List.getElem?_eq_getElem (by rw [hlen]; exact hi)⟩
      have he := hv.out
      rw [atV, if_neg (by rw [hlen]; omega), Int.toNat_natCast, List.getD_eq_getElem?_getD, hvi, Option.getD_some] at he
      subst he
      rcases hA.2 with hz | ⟨b, off, rfl, hbl, hcell⟩
      · rw [hz] at hvi; simp at hvi
      obtain ⟨c0, c1, c2⟩ := hcell i _ hvi
      rw [bs_of] at c2
      simp only at c0 c1 c2
      have d0 : (w.alloc (.cells #[.int .i64 0, .int .i64 0, .string ⟨#[]⟩] 33)).cell? ⟨b, off + i * 3, none⟩ = some (.int .i64 k) := (hb0.cell (p := ⟨b, _, none⟩) hbl).trans c0
      have d1 : (w.alloc (.cells #[.int .i64 0, .int .i64 0, .string ⟨#[]⟩] 33)).cell? ⟨b, off + i * 3 + 1, none⟩ = some (.int .i64 n) := (hb0.cell (p := ⟨b, _, none⟩) hbl).trans c1
      have d2 : (w.alloc (.cells #[.int .i64 0, .int .i64 0, .string ⟨#[]⟩] 33)).cell? ⟨b, off + i * 3 + 2, none⟩ = some (.string t) := (hb0.cell (p := ⟨b, _, none⟩) hbl).trans c2
      have i0 : (0 : Int) ≤ (i : Int) := by omega
      have i1 : (i : Int) < (N : Int) := by omega
      clear hv hlen hvi hcell c0 c1 c2 hA
      go_enter Tryz.func60, Tryz.ntmps60
      go_wp2
      exact bodyPost_ret (v := .agg #[.int .i64 k, .int .i64 n, .string t]) (by simp only [results, Tryz.results60]; go_simp) rfl ⟨rfl, (Below.refl _ _).alloc (Nat.le_refl _) _⟩

/-- a row's first columns lie where the row lies -/
theorem vals_first {W : World} {p : Option Addr} {N : Nat} {vs : List Val.V} (h : ValsAt W p N vs) (k : Nat) (hk : k ≤ N) : ValsAt W p k (vs.take k) := by
  refine ⟨by rw [List.length_take, h.1]; omega, ?_⟩
  rcases h.2 with h2 | ⟨b, off, rfl, hb, hc⟩
  · exact .inl (by rw [h2, List.take_nil])
  · refine .inr ⟨b, off, rfl, hb, fun i v hi => hc i v ?_⟩
    rw [List.getElem?_take] at hi
    split at hi
    · exact hi
    · cases hi
theorem first_len (vs : List Val.V) (width : Int) : (firstV vs width).length = min width.toNat vs.length := by rw [firstV, List.length_take]

theorem sfirst_is (p : Option Addr) (N c : Nat) (width : Int) (w : World) (hc : N ≤ c) (M : Nat) (hM : Hid (M = min width.toNat N)) :
    Calls Tryz.prog 68 #[.slice p N c, .int .i64 width] w fun e w' => e = .returned (.slice p M c) ∧ w' = w := by
  have hM' := hM.out
  have hMN : M ≤ N := by omega
  have hm : max 0 (min width (N : Int)) = (M : Int) := by omega
  have i0 : (0 : Int) ≤ (M : Int) := by omega
  have i1 : (M : Int) ≤ (c : Int) := by omega
  clear hM' hM
  go_enter Tryz.func68, Tryz.ntmps68
  go_wp2
  go_ret
  exact ⟨rfl, rfl⟩
theorem vals_firstV {W : World} {p : Option Addr} {N M : Nat} {vs : List Val.V} {width : Int} (h : ValsAt W p N vs) (hM : Hid (M = min width.toNat N)) : ValsAt W p M (firstV vs width) := by
  have hm := hM.out
  have hf : firstV vs width = vs.take M := by rw [firstV, hm, ← h.1, List.take_eq_take_iff]; omega
  rw [hf]
  exact vals_first h M (by omega)

theorem val_one (k n : Int) (t : ByteArray) : ∀ u ∈ (#[Value.int .i64 k, .int .i64 n, .string t] : Array Value).toList, u.oneCell' = true := by
  intro u hu
  simp at hu
  rcases hu with rfl | rfl | rfl <;> rfl
theorem valC_snoc (vs : List Val.V) (v : Val.V) : valC (vs ++ [v]) = valC vs ++ [.int .i64 v.kind, .int .i64 v.int, .string (bs v.text)] := by simp [valC]
theorem first_step {vs : List Val.V} {width : Int} {i : Nat} {v : Val.V} (hv : vs[i]? = some v) : vs.take (i + 1) = vs.take i ++ [v] := by rw [List.take_add_one, hv]; rfl

/-- what the reference's First answers -/
def FirstP (N : Nat) (vs : List Val.V) (width : Int) (w : World) (e : Ending) (w' : World) : Prop := (∃ q M c', e = .returned (.slice q M c') ∧ M ≤ N ∧ ValsAt w' q M (firstV vs width)) ∧ Below w.heap.size w w'
set_option maxHeartbeats 1000000 in
theorem rfirst_is (p : Option Addr) (N c : Nat) (vs : List Val.V) (width : Int) (w : World) (hA : ValsAt w p N vs) (hN : N ≤ 1048576) :
    Calls Tryz.prog 62 #[.slice p N c, .int .i64 width] w (FirstP N vs width w) := by
  have hlen := hA.1
  replace hlen := Lib.hid hlen
  go_enter Tryz.func62, Tryz.ntmps62
  go_wp2
  go_loopw [5, 6] (fun ov iv wr => ∃ (q : Option Addr) (i co : Nat), ov = .slice q i co ∧ iv = .int .i64 (i : Int) ∧ i ≤ N ∧ i ≤ width.toNat ∧ wr.ownsRow w.heap.size 33 3 (.slice q i co) i (valC (vs.take i)) ∧ Below w.heap.size w wr) (fun _ iv _ => N - (intOf iv).toNat)
  case atStart => exact ⟨none, 0, 0, rfl, by go_num, by omega, by omega, World.ownsRow_nil _ _ _ _, Below.refl _ _⟩
  case round =>
    obtain ⟨q, i, co, rfl, rfl, hi, hiw, hrow, hB⟩ := hrel
    by_cases hlt : i < N
    · have hlB : decide ((i : Int) < (N : Int)) = true := by simp; omega
      by_cases hw : (i : Int) < width
      · have hwB : decide ((i : Int) < width) = true := decide_eq_true hw
        obtain ⟨v, hv⟩ : ∃ v, vs[i]? = some v := ⟨_, List.getElem?_eq_getElem (by rw [hlen.out]; exact hlt)⟩
        have hsn := first_step (width := width) hv
        rcases (hA.below hB).2 with h0 | ⟨b, off, rfl, hbl, hcell⟩
        · rw [h0] at hv; simp at hv
        obtain ⟨c0, c1, c2⟩ := hcell i v hv
        obtain ⟨kd, n, tx⟩ := v
        obtain ⟨t, rfl⟩ : ∃ t : ByteArray, tx = t.data.toList := ⟨bs tx, rfl⟩
        rw [bs_of] at c2
        simp only at c0 c1 c2
        have hcc : valC (vs.take (i + 1)) = valC (vs.take i) ++ [.int .i64 kd, .int .i64 n, .string t] := by rw [hsn, valC_snoc]; rfl
        have i0 : (0 : Int) ≤ (i : Int) := by omega
        have i1 : (i : Int) < (N : Int) := by omega
        have hi1 : (i + 1) * 32 ≤ 140737488355328 := by omega
        replace hcc := Lib.hid hcc
        clear hcell hv hsn hA
        go_wp2_with (at_builtin; go_must (refine wpList_push rfl _ _ 30 rfl w.heap.size 33 Tryz.underlying30 val_info rfl (by decide) _ _ _ rfl hrow _ rfl rfl (val_one _ _ _) hi1 (by decide) hB.size ?_); rintro _ w2 hown' hb2 ⟨g', cap', rfl⟩ _)
        go_roundw
        case rel => exact ⟨some ⟨g', 0, none⟩, i + 1, cap', rfl, by go_num, by omega, by omega, by rw [hcc.out]; simpa using hown', hB.trans hb2⟩
        case measure => simp [intOf]; omega
      · have hwB : decide ((i : Int) < width) = false := decide_eq_false hw
        have hf : firstV vs width = vs.take i := by rw [firstV, show width.toNat = i by omega]
        replace hf := Lib.hid hf
        have hfin := valsAt_own hrow (by rw [List.length_take, hlen.out]; omega)
        clear hA
        go_wp2
        go_ret
        exact ⟨⟨q, i, co, rfl, hi, by rw [hf.out]; exact hfin⟩, hB⟩
    · have hlB : decide ((i : Int) < (N : Int)) = false := by simp; omega
      have hf : firstV vs width = vs.take i := by rw [firstV, List.take_eq_take_iff, hlen.out]; omega
      replace hf := Lib.hid hf
      have hfin := valsAt_own hrow (by rw [List.length_take, hlen.out]; omega)
      clear hA
      go_wp2
      go_ret
      exact ⟨⟨q, i, co, rfl, hi, by rw [hf.out]; exact hfin⟩, hB⟩
end Go.Proofs.YtdapnemcdgjeeaaGreatDoor

namespace Go.Proofs.YtdapnemcdgjeeaaGreatDoor
open Go.RowKit
open Go.Proofs.YtdapnemcdgjeeaaGreatDoor.Ord (atV firstV standV mayRow MRow)

theorem atV_text {vs : List Val.V} (h : ∀ v ∈ vs, v.text.length ≤ 1048576) (col : Int) : (atV vs col).text.length ≤ 1048576 := by
  unfold atV
  split
  · exact Nat.zero_le _
  · rename_i hc
    have hl : col.toNat < vs.length := by omega
    rw [List.getD_eq_getElem?_getD, List.getElem?_eq_getElem hl]
    exact h _ (List.getElem_mem hl)
theorem first_text {vs : List Val.V} (h : ∀ v ∈ vs, v.text.length ≤ 1048576) (width : Int) : ∀ v ∈ firstV vs width, v.text.length ≤ 1048576 := fun v hv => h v (List.mem_of_mem_take hv)
/-- a function that answers the value of a column, whenever it's called from here on -/
structure AtOk (f : FuncId) (w : World) (p : Option Addr) (N c : Nat) (col k n : Int) (t : ByteArray) : Prop where
  on : ∀ W, Below w.heap.size w W → Calls Tryz.prog f #[.slice p N c, .int .i64 col] W fun e w' => e = .returned (.agg #[.int .i64 k, .int .i64 n, .string t]) ∧ Below W.heap.size W w'
theorem atOk_s {w : World} {p : Option Addr} {N c : Nat} {vs : List Val.V} {col k n : Int} {t : ByteArray} (hA : ValsAt w p N vs) (hN : N ≤ 1048576) (hv : Hid (atV vs col = ⟨k, n, t.data.toList⟩)) : AtOk 66 w p N c col k n t :=
  ⟨fun W hB => at_sorter.at_is p N c vs col W (hA.below hB) hN k n t hv⟩
theorem atOk_r {w : World} {p : Option Addr} {N c : Nat} {vs : List Val.V} {col k n : Int} {t : ByteArray} (hA : ValsAt w p N vs) (hN : N ≤ 1048576) (hv : Hid (atV vs col = ⟨k, n, t.data.toList⟩)) : AtOk 60 w p N c col k n t :=
  ⟨fun W hB => at_bureauref20.At_is p N c vs col W (hA.below hB) hN k n t hv⟩
theorem atV_form (vs : List Val.V) (col : Int) : ∃ (k n : Int) (t : ByteArray), atV vs col = ⟨k, n, t.data.toList⟩ := ⟨_, _, bs (atV vs col).text, rfl⟩

theorem AtOk.use {f : FuncId} {w W : World} {p : Option Addr} {N c : Nat} {col k n : Int} {t : ByteArray} {K o : Nat} {x y z : Value} (h : AtOk f w p N c col k n t) (hS : W.cell? ⟨K, o, none⟩ = some x ∧ W.cell? ⟨K, o + 1, none⟩ = some y ∧ W.cell? ⟨K, o + 2, none⟩ = some z ∧ K < W.heap.size ∧ Below w.heap.size w W) :
    Calls Tryz.prog f #[.slice p N c, .int .i64 col] W fun e w' => e = .returned (.agg #[.int .i64 k, .int .i64 n, .string t]) ∧ Below W.heap.size W w' := h.on W hS.2.2.2.2
theorem keepK3 {w W W' : World} {K o : Nat} {x y z : Value} (h : W.cell? ⟨K, o, none⟩ = some x ∧ W.cell? ⟨K, o + 1, none⟩ = some y ∧ W.cell? ⟨K, o + 2, none⟩ = some z ∧ K < W.heap.size ∧ Below w.heap.size w W) (hb : Below W.heap.size W W') :
    W'.cell? ⟨K, o, none⟩ = some x ∧ W'.cell? ⟨K, o + 1, none⟩ = some y ∧ W'.cell? ⟨K, o + 2, none⟩ = some z ∧ K < W'.heap.size ∧ Below w.heap.size w W' :=
  ⟨(hb.cell (p := ⟨K, _, none⟩) h.2.2.2.1).trans h.1, (hb.cell (p := ⟨K, _, none⟩) h.2.2.2.1).trans h.2.1, (hb.cell (p := ⟨K, _, none⟩) h.2.2.2.1).trans h.2.2.1, Nat.lt_of_lt_of_le h.2.2.2.1 hb.size, h.2.2.2.2.trans (hb.mono h.2.2.2.2.size)⟩
theorem keepK30 {w W : World} {K o : Nat} {x y z : Value} (h : W.cell? ⟨K, o, none⟩ = some x ∧ W.cell? ⟨K, o + 1, none⟩ = some y ∧ W.cell? ⟨K, o + 2, none⟩ = some z ∧ K < W.heap.size ∧ Below w.heap.size w W) :
    W.drew.cell? ⟨K, o, none⟩ = some x ∧ W.drew.cell? ⟨K, o + 1, none⟩ = some y ∧ W.drew.cell? ⟨K, o + 2, none⟩ = some z ∧ K < W.drew.heap.size ∧ Below w.heap.size w W.drew := ⟨h.1, h.2.1, h.2.2.1, h.2.2.2.1, h.2.2.2.2.drew⟩

theorem AtOk.use0 {f : FuncId} {w W : World} {p : Option Addr} {N c : Nat} {col k n : Int} {t : ByteArray} {K : Nat} {x y z : Value} (h : AtOk f w p N c col k n t) (hS : W.cell? ⟨K, 0, none⟩ = some x ∧ W.cell? ⟨K, 1, none⟩ = some y ∧ W.cell? ⟨K, 2, none⟩ = some z ∧ K < W.heap.size ∧ Below w.heap.size w W) :
    Calls Tryz.prog f #[.slice p N c, .int .i64 col] W fun e w' => e = .returned (.agg #[.int .i64 k, .int .i64 n, .string t]) ∧ Below W.heap.size W w' := h.on W hS.2.2.2.2
theorem keepL3 {w W W' : World} {K : Nat} {x y z : Value} (h : W.cell? ⟨K, 0, none⟩ = some x ∧ W.cell? ⟨K, 1, none⟩ = some y ∧ W.cell? ⟨K, 2, none⟩ = some z ∧ K < W.heap.size ∧ Below w.heap.size w W) (hb : Below W.heap.size W W') :
    W'.cell? ⟨K, 0, none⟩ = some x ∧ W'.cell? ⟨K, 1, none⟩ = some y ∧ W'.cell? ⟨K, 2, none⟩ = some z ∧ K < W'.heap.size ∧ Below w.heap.size w W' :=
  ⟨(hb.cell (p := ⟨K, _, none⟩) h.2.2.2.1).trans h.1, (hb.cell (p := ⟨K, _, none⟩) h.2.2.2.1).trans h.2.1, (hb.cell (p := ⟨K, _, none⟩) h.2.2.2.1).trans h.2.2.1, Nat.lt_of_lt_of_le h.2.2.2.1 hb.size, h.2.2.2.2.trans (hb.mono h.2.2.2.2.size)⟩
theorem keepL30 {w W : World} {K : Nat} {x y z : Value} (h : W.cell? ⟨K, 0, none⟩ = some x ∧ W.cell? ⟨K, 1, none⟩ = some y ∧ W.cell? ⟨K, 2, none⟩ = some z ∧ K < W.heap.size ∧ Below w.heap.size w W) :
    W.drew.cell? ⟨K, 0, none⟩ = some x ∧ W.drew.cell? ⟨K, 1, none⟩ = some y ∧ W.drew.cell? ⟨K, 2, none⟩ = some z ∧ K < W.drew.heap.size ∧ Below w.heap.size w W.drew := ⟨h.1, h.2.1, h.2.2.1, h.2.2.2.1, h.2.2.2.2.drew⟩

theorem stand_step {ks : List Ord.Key} {i : Nat} {k : Ord.Key} (hk : ks[i]? = some k) (width : Int) (a b : List Val.V) :
    standV (ks.drop i) width a b = if Val.cmp (atV a k.col) (atV b k.col) k.coll ≠ 0 then (if k.desc = true then - Val.cmp (atV a k.col) (atV b k.col) k.coll else Val.cmp (atV a k.col) (atV b k.col) k.coll) else standV (ks.drop (i + 1)) width a b := by
  obtain ⟨hl, rfl⟩ := List.getElem?_eq_some_iff.1 hk
  rw [List.drop_eq_getElem_cons hl]
  rfl
theorem stand_end {ks : List Ord.Key} {i : Nat} (h : ks.length ≤ i) (width : Int) (a b : List Val.V) : standV (ks.drop i) width a b = Val.rowsFrom [] 0 (firstV a width) (firstV b width) := by
  rw [List.drop_of_length_le h]; rfl

theorem keepG {w W W' : World} {g : Nat} {x : Value} (h : W.cell? ⟨g, 0, none⟩ = some x ∧ g < W.heap.size ∧ Below w.heap.size w W) (hb : Below W.heap.size W W') : W'.cell? ⟨g, 0, none⟩ = some x ∧ g < W'.heap.size ∧ Below w.heap.size w W' :=
  ⟨(hb.cell (p := ⟨g, _, none⟩) h.2.1).trans h.1, Nat.lt_of_lt_of_le h.2.1 hb.size, h.2.2.trans (hb.mono h.2.2.size)⟩
theorem keepG0 {w W : World} {g : Nat} {x : Value} (h : W.cell? ⟨g, 0, none⟩ = some x ∧ g < W.heap.size ∧ Below w.heap.size w W) : W.drew.cell? ⟨g, 0, none⟩ = some x ∧ g < W.drew.heap.size ∧ Below w.heap.size w W.drew := ⟨h.1, h.2.1, h.2.2.drew⟩
theorem rowsOf {w W : World} {p q : Option Addr} {M1 M2 c1 c2 g : Nat} {va vb : List Val.V} {width r : Int} {x : Value} (F1 : ValsAt w p M1 (firstV va width)) (F2 : ValsAt w q M2 (firstV vb width)) (h1 : M1 ≤ 1048576) (h2 : M2 ≤ 1048576) (ta : Hid (∀ v ∈ va, v.text.length ≤ 1048576)) (tb : Hid (∀ v ∈ vb, v.text.length ≤ 1048576))
    (hS : W.cell? ⟨g, 0, none⟩ = some x ∧ g < W.heap.size ∧ Below w.heap.size w W) (hr : Hid (Val.rowsFrom [] 0 (firstV va width) (firstV vb width) = r)) :
    Calls Tryz.prog 67 #[.slice p M1 c1, .slice q M2 c2, .slice none 0 0] W fun e w' => e = .returned (.int .i64 r) ∧ Below W.heap.size W w' :=
  vrows_any p M1 c1 q M2 c2 none 0 0 _ _ [] W (F1.below hS.2.2) (F2.below hS.2.2) ⟨rfl, .inl rfl⟩ h1 h2 (by omega) (first_text ta.out width) (first_text tb.out width) r hr

set_option maxHeartbeats 4000000 in
theorem order_is (p : Option Addr) (N ca : Nat) (q : Option Addr) (M cb : Nat) (va vb : List Val.V) (sk : Option Addr) (KN kc : Nat) (ks : List Ord.Key) (width : Int) (g1 g2 : Nat) (w : World) (hA : ValsAt w p N va) (hA' : ValsAt w q M vb) (hK : KeysAt w sk KN ks)
    (hg1 : w.cell? ⟨g1, 0, none⟩ = some (.slice sk KN kc)) (hg2 : w.cell? ⟨g2, 0, none⟩ = some (.int .i64 width)) (hl2 : g2 < w.heap.size) (hN : N ≤ 1048576) (hM : M ≤ 1048576) (hKN : KN ≤ 1048576) (hca : N ≤ ca) (hcb : M ≤ cb)
    (hTa : ∀ v ∈ va, v.text.length ≤ 1048576) (hTb : ∀ v ∈ vb, v.text.length ≤ 1048576) (r : Int) (hr : Hid (standV ks width va vb = r)) :
    Calls Tryz.prog 64 #[.slice p N ca, .slice q M cb, .pointer (some ⟨g1, 0, none⟩), .pointer (some ⟨g2, 0, none⟩)] w fun e w' => e = .returned (.int .i64 r) ∧ Below w.heap.size w w' := by
  have hklen := hK.1
  replace hTa := Lib.hid hTa
  replace hTb := Lib.hid hTb
  replace hklen := Lib.hid hklen
  go_enter Tryz.func64, Tryz.ntmps64
  go_wp2
  go_loopw [12] (fun iv wr => ∃ i : Nat, iv = .int .i64 (i : Int) ∧ i ≤ KN ∧ Hid (standV (ks.drop i) width va vb = r) ∧ Below w.heap.size w wr) (fun iv _ => KN - (intOf iv).toNat)
  case atStart => exact ⟨0, by go_num, by omega, Lib.hid (by rw [List.drop_zero]; exact hr.out), Below.refl _ _⟩
  case round =>
    obtain ⟨i, rfl, hi, hq, hB⟩ := hrel
    by_cases hlt : i < KN
    · have hlB : decide ((i : Int) < (KN : Int)) = true := by simp; omega
      obtain ⟨k, b, off, hki, rfl, hbl, c0, c1, c2⟩ := (hK.below hB).at hlt
      have hst := stand_step hki width va vb
      rw [hq.out] at hst
      obtain ⟨k1, n1, t1, e1⟩ := atV_form va k.col
      obtain ⟨k2, n2, t2, e2⟩ := atV_form vb k.col
      have hs1 : t1.size ≤ 1048576 := by have := atV_text hTa.out k.col; rw [e1] at this; exact this
      have hs2 : t2.size ≤ 1048576 := by have := atV_text hTb.out k.col; rw [e2] at this; exact this
      rw [e1, e2] at hst
      have hcr := Val.cmp_range ⟨k1, n1, t1.data.toList⟩ ⟨k2, n2, t2.data.toList⟩ k.coll
      obtain ⟨d, hd⟩ : ∃ d, Val.cmp ⟨k1, n1, t1.data.toList⟩ ⟨k2, n2, t2.data.toList⟩ k.coll = d := ⟨_, rfl⟩
      rw [hd] at hst hcr
      have A1 := atOk_s (c := ca) hA hN (Lib.hid e1)
      have A2 := atOk_s (c := cb) hA' hM (Lib.hid e2)
      obtain ⟨col, coll, desc⟩ := k
      simp only at c0 c1 c2 hst A1 A2
      have i0 : (0 : Int) ≤ (i : Int) := by omega
      have i1 : (i : Int) < (KN : Int) := by omega
      have hBz := hB.size
      have H0 := (hB.alloc hBz (.cells #[.int .i64 col, .int .i64 coll, .bool desc] 107))
      have hn := heap_new wr (.cells #[.int .i64 col, .int .i64 coll, .bool desc] 107)
      have Q0 : (wr.alloc (.cells #[.int .i64 col, .int .i64 coll, .bool desc] 107)).cell? ⟨wr.heap.size, 0, none⟩ = some (.int .i64 col) := cell_of_row _ _ _ _ _ _ hn
      have Q1 : (wr.alloc (.cells #[.int .i64 col, .int .i64 coll, .bool desc] 107)).cell? ⟨wr.heap.size, 1, none⟩ = some (.int .i64 coll) := cell_of_row _ _ _ _ _ _ hn
      have Q2 : (wr.alloc (.cells #[.int .i64 col, .int .i64 coll, .bool desc] 107)).cell? ⟨wr.heap.size, 2, none⟩ = some (.bool desc) := cell_of_row _ _ _ _ _ _ hn
      replace hd := Lib.hid hd
      replace hcr := Lib.hid hcr
      replace hst := Lib.hid hst
      clear hq hr hki e1 e2 hn hA hA' hg1
      go_upto_region 4 with fail
      have H1 : (wr.alloc (.cells #[.int .i64 col, .int .i64 coll, .bool desc] 107)).cell? ⟨wr.heap.size, 0, none⟩ = some (.int .i64 col) ∧ (wr.alloc (.cells #[.int .i64 col, .int .i64 coll, .bool desc] 107)).cell? ⟨wr.heap.size, 1, none⟩ = some (.int .i64 coll) ∧ (wr.alloc (.cells #[.int .i64 col, .int .i64 coll, .bool desc] 107)).cell? ⟨wr.heap.size, 2, none⟩ = some (.bool desc) ∧ wr.heap.size < (wr.alloc (.cells #[.int .i64 col, .int .i64 coll, .bool desc] 107)).heap.size ∧ Below w.heap.size w (wr.alloc (.cells #[.int .i64 col, .int .i64 coll, .bool desc] 107)) := ⟨Q0, Q1, Q2, by simp, H0⟩
      clear Q0 Q1 Q2 H0 c0 c1 c2
      generalize wr.alloc (.cells #[.int .i64 col, .int .i64 coll, .bool desc] 107) = W1 at H1 ⊢
      generalize wr.heap.size = K at H1 hBz ⊢
      go_region_held3 (fun W => W.cell? ⟨K, 0, none⟩ = some (.int .i64 col) ∧ W.cell? ⟨K, 1, none⟩ = some (.int .i64 coll) ∧ W.cell? ⟨K, 2, none⟩ = some (.bool desc) ∧ K < W.heap.size ∧ Below w.heap.size w W) (first | assumption | exact keepL3 (by assumption) (by assumption) | exact keepL30 (by assumption)) (first
        | (go_at_call 66; refine (AtOk.use0 (f := 66) (by assumption) (by assumption)).mono ?_; rintro e w3 ⟨rfl, hb3⟩)
        | (go_at_call 65; refine (vcmp_is _ _ _ _ _ _ _ _ hs1 hs2 _ hd).mono ?_; rintro e w3 ⟨rfl, hb3⟩))
      rename_i hh
      obtain ⟨_, _, q2, _, hB2⟩ := hh
      clear A1 A2 H1 hd
      by_cases hd0 : d = 0
      · have hst' : standV (ks.drop (i + 1)) width va vb = r := by have := hst.out; rw [if_neg (by rw [hd0]; simp)] at this; exact this.symm
        replace hst' := Lib.hid hst'
        subst hd0
        clear hst hcr
        cases desc with
        | true =>
          go_wp2
          go_roundw
          case rel => exact ⟨i + 1, by go_num, by omega, hst', hB2⟩
          case measure => simp [intOf]; omega
        | false =>
          go_wp2
          go_roundw
          case rel => exact ⟨i + 1, by go_num, by omega, hst', hB2⟩
          case measure => simp [intOf]; omega
      · have hst' := hst.out
        rw [if_pos hd0] at hst'
        have hdl : -1 ≤ d ∧ d ≤ 1 := by rcases hcr.out with h | h | h <;> omega
        have h1 := hdl.1
        have h2 := hdl.2
        clear hst hcr hdl
        cases desc with
        | true =>
          rw [if_pos rfl] at hst'
          have w0 : IntKind.i64.wrap (-d) = -d := IntWalk.i64_in _ (by omega)
          have w1 : wrap64 (-d) = -d := by unfold wrap64; omega
          have n0 : (-d != 0) = true := by simp; omega
          replace hst' := Lib.hid hst'
          go_wp2
          go_ret
          exact ⟨by rw [hst'.out]; rfl, hB2⟩
        | false =>
          rw [if_neg (by simp)] at hst'
          have n0 : (d != 0) = true := by simp; omega
          replace hst' := Lib.hid hst'
          go_wp2
          go_ret
          exact ⟨by rw [hst'.out]; rfl, hB2⟩
    · have hlB : decide ((i : Int) < (KN : Int)) = false := by simp; omega
      have hst := stand_end (ks := ks) (i := i) (by rw [hklen.out]; omega) width va vb
      rw [hq.out] at hst
      obtain ⟨M1, hM1⟩ : ∃ M1, M1 = min width.toNat N := ⟨_, rfl⟩
      obtain ⟨M2, hM2⟩ : ∃ M2, M2 = min width.toNat M := ⟨_, rfl⟩
      have hN1 : M1 ≤ 1048576 := by omega
      have hN2 : M2 ≤ 1048576 := by omega
      replace hM1 := Lib.hid hM1
      replace hM2 := Lib.hid hM2
      have F1 := vals_firstV hA hM1
      have F2 := vals_firstV hA' hM2
      have hg2' : wr.cell? ⟨g2, 0, none⟩ = some (.int .i64 width) := (hB.cell (p := ⟨g2, _, none⟩) hl2).trans hg2
      have H1 : wr.cell? ⟨g2, 0, none⟩ = some (.int .i64 width) ∧ g2 < wr.heap.size ∧ Below w.heap.size w wr := ⟨hg2', Nat.lt_of_lt_of_le hl2 hB.size, hB⟩
      replace hst := Lib.hid hst.symm
      clear hq hr hg1 hg2 hg2' hB hA hA' hK
      go_wp2_with fail
      go_region_held3 (fun W => W.cell? ⟨g2, 0, none⟩ = some (.int .i64 width) ∧ g2 < W.heap.size ∧ Below w.heap.size w W) (first | assumption | exact keepG (by assumption) (by assumption) | exact keepG0 (by assumption)) (first
        | (go_at_call 68; refine (sfirst_is _ _ _ _ _ (by assumption) _ (by assumption)).mono ?_; rintro e w3 ⟨rfl, rfl⟩)
        | (go_at_call 67; refine (rowsOf F1 F2 hN1 hN2 hTa hTb (by assumption) hst).mono ?_; rintro e w3 ⟨rfl, hb3⟩))
      rename_i hh
      go_wp2
      go_ret
      exact ⟨rfl, hh.2.2⟩

set_option maxHeartbeats 4000000 in
theorem stand_is (p : Option Addr) (N ca : Nat) (q : Option Addr) (M cb : Nat) (va vb : List Val.V) (sk : Option Addr) (KN kc : Nat) (ks : List Ord.Key) (width : Int) (w : World) (hA : ValsAt w p N va) (hA' : ValsAt w q M vb) (hK : KeysAt w sk KN ks)
    (hN : N ≤ 1048576) (hM : M ≤ 1048576) (hKN : KN ≤ 1048576)
    (hTa : ∀ v ∈ va, v.text.length ≤ 1048576) (hTb : ∀ v ∈ vb, v.text.length ≤ 1048576) (r : Int) (hr : Hid (standV ks width va vb = r)) :
    Calls Tryz.prog 33 #[.slice p N ca, .slice q M cb, .slice sk KN kc, .int .i64 width] w fun e w' => e = .returned (.int .i64 r) ∧ Below w.heap.size w w' := by
  have hklen := hK.1
  replace hTa := Lib.hid hTa
  replace hTb := Lib.hid hTb
  replace hklen := Lib.hid hklen
  go_enter Tryz.func33, Tryz.ntmps33
  go_wp2
  go_loopw [9] (fun iv wr => ∃ i : Nat, iv = .int .i64 (i : Int) ∧ i ≤ KN ∧ Hid (standV (ks.drop i) width va vb = r) ∧ Below w.heap.size w wr) (fun iv _ => KN - (intOf iv).toNat)
  case atStart => exact ⟨0, by go_num, by omega, Lib.hid (by rw [List.drop_zero]; exact hr.out), Below.refl _ _⟩
  case round =>
    obtain ⟨i, rfl, hi, hq, hB⟩ := hrel
    by_cases hlt : i < KN
    · have hlB : decide ((i : Int) < (KN : Int)) = true := by simp; omega
      obtain ⟨k, b, off, hki, rfl, hbl, c0, c1, c2⟩ := (hK.below hB).at hlt
      have hst := stand_step hki width va vb
      rw [hq.out] at hst
      obtain ⟨k1, n1, t1, e1⟩ := atV_form va k.col
      obtain ⟨k2, n2, t2, e2⟩ := atV_form vb k.col
      have hs1 : t1.size ≤ 1048576 := by have := atV_text hTa.out k.col; rw [e1] at this; exact this
      have hs2 : t2.size ≤ 1048576 := by have := atV_text hTb.out k.col; rw [e2] at this; exact this
      rw [e1, e2] at hst
      have hcr := Val.cmp_range ⟨k1, n1, t1.data.toList⟩ ⟨k2, n2, t2.data.toList⟩ k.coll
      obtain ⟨d, hd⟩ : ∃ d, Val.cmp ⟨k1, n1, t1.data.toList⟩ ⟨k2, n2, t2.data.toList⟩ k.coll = d := ⟨_, rfl⟩
      rw [hd] at hst hcr
      have A1 := atOk_r (c := ca) hA hN (Lib.hid e1)
      have A2 := atOk_r (c := cb) hA' hM (Lib.hid e2)
      obtain ⟨col, coll, desc⟩ := k
      simp only at c0 c1 c2 hst A1 A2
      have i0 : (0 : Int) ≤ (i : Int) := by omega
      have i1 : (i : Int) < (KN : Int) := by omega
      have H1 : wr.cell? ⟨b, off + i * 3, none⟩ = some (.int .i64 col) ∧ wr.cell? ⟨b, off + i * 3 + 1, none⟩ = some (.int .i64 coll) ∧ wr.cell? ⟨b, off + i * 3 + 2, none⟩ = some (.bool desc) ∧ b < wr.heap.size ∧ Below w.heap.size w wr := ⟨c0, c1, c2, hbl, hB⟩
      replace hd := Lib.hid hd
      replace hcr := Lib.hid hcr
      replace hst := Lib.hid hst
      clear hq hr hki e1 e2 hA hA' c0 c1 c2 hB
      go_wp2_with fail
      go_region_held3 (fun W => W.cell? ⟨b, off + i * 3, none⟩ = some (.int .i64 col) ∧ W.cell? ⟨b, off + i * 3 + 1, none⟩ = some (.int .i64 coll) ∧ W.cell? ⟨b, off + i * 3 + 2, none⟩ = some (.bool desc) ∧ b < W.heap.size ∧ Below w.heap.size w W) (first | assumption | exact keepK3 (by assumption) (by assumption) | exact keepK30 (by assumption)) (first
        | (go_at_call 60; refine (AtOk.use (f := 60) (by assumption) (by assumption)).mono ?_; rintro e w3 ⟨rfl, hb3⟩)
        | (go_at_call 59; refine (rcmp_is _ _ _ _ _ _ _ _ hs1 hs2 _ hd).mono ?_; rintro e w3 ⟨rfl, hb3⟩))
      rename_i hh
      obtain ⟨_, _, q2, _, hB2⟩ := hh
      clear A1 A2 H1 hd
      by_cases hd0 : d = 0
      · have hst' : standV (ks.drop (i + 1)) width va vb = r := by have := hst.out; rw [if_neg (by rw [hd0]; simp)] at this; exact this.symm
        replace hst' := Lib.hid hst'
        subst hd0
        clear hst hcr
        go_wp2
        go_roundw
        case rel => exact ⟨i + 1, by go_num, by omega, hst', hB2⟩
        case measure => simp [intOf]; omega
      · have hst' := hst.out
        rw [if_pos hd0] at hst'
        have hdl : -1 ≤ d ∧ d ≤ 1 := by rcases hcr.out with h | h | h <;> omega
        have h1 := hdl.1
        have h2 := hdl.2
        have n0 : (d != 0) = true := by simp; omega
        clear hst hcr hdl
        cases desc with
        | true =>
          rw [if_pos rfl] at hst'
          have w0 : IntKind.i64.wrap (-d) = -d := IntWalk.i64_in _ (by omega)
          have w1 : wrap64 (-d) = -d := by unfold wrap64; omega
          replace hst' := Lib.hid hst'
          go_wp2
          go_ret
          exact ⟨by rw [hst'.out]; rfl, hB2⟩
        | false =>
          rw [if_neg (by simp)] at hst'
          replace hst' := Lib.hid hst'
          go_wp2
          go_ret
          exact ⟨by rw [hst'.out]; rfl, hB2⟩
    · have hlB : decide ((i : Int) < (KN : Int)) = false := by simp; omega
      have hst := stand_end (ks := ks) (i := i) (by rw [hklen.out]; omega) width va vb
      rw [hq.out] at hst
      replace hst := Lib.hid hst.symm
      have A1 := hA.below hB
      have A2 := hA'.below hB
      have tok1 : True := trivial
      clear hq hr hA hA' hK
      go_wp2_with (first
        | (go_at_call 62; have _t := tok1; refine (rfirst_is p N ca va width _ A1 hN).mono ?_; rintro e w1 ⟨⟨q1, M1, c1, rfl, hM1, F1⟩, hb1⟩; clear tok1)
        | (go_at_call 62; refine (rfirst_is q M cb vb width _ (A2.below hb1) hM).mono ?_; rintro e w2 ⟨⟨q2, M2, c2, rfl, hM2, F2⟩, hb2⟩)
        | (go_at_call 61; refine (rrows_any q1 M1 c1 q2 M2 c2 none 0 0 _ _ [] _ (F1.below hb2) F2 ⟨rfl, .inl rfl⟩ (by omega) (by omega) (by omega) (first_text hTa.out width) (first_text hTb.out width) r hst).mono ?_; rintro e w3 ⟨rfl, hb3⟩))
      go_ret
      exact ⟨rfl, hB.trans ((hb1.trans ((hb2.trans (hb3.mono hb2.size)).mono hb1.size)).mono hB.size)⟩
end Go.Proofs.YtdapnemcdgjeeaaGreatDoor

namespace Go.Proofs.YtdapnemcdgjeeaaGreatDoor
open Go.RowKit

theorem rows_info : (Tryz.prog.info? 30).map (fun i => (i.zero, i.size, i.bytes)) = some (some (.slice none 0 0), 1, 24) := by kernel_rfl
/-- a value that is a row, apart from a block -/
def ElAt (W : World) (X : Option Nat) (u : Value) (r : List Val.V) : Prop :=
  ∃ q c, u = .slice q r.length c ∧ SlOk q r.length c ∧ ValsAt W q r.length r ∧ (r = [] ∨ ∀ b off, q = some ⟨b, off, none⟩ → some b ≠ X)
/-- a slice of rows in memory that the call owns -/
def RowsOwn (W : World) (base : Nat) (v : Value) (n : Nat) (rows : List (List Val.V)) : Prop :=
  ∃ cs : List Value, W.ownsRow base 30 1 v n cs ∧ cs.length = n ∧ rows.length = n ∧ ∀ (k : Nat) (u : Value) (r : List Val.V), cs[k]? = some u → rows[k]? = some r → ElAt W v.ownBlock u r
theorem vals_kept {W W' : World} {row : Option Nat} {q : Option Addr} {n : Nat} {r : List Val.V} (h : ValsAt W q n r) (hg : W.grownBy W' row) (hne : r = [] ∨ ∀ b off, q = some ⟨b, off, none⟩ → some b ≠ row) : ValsAt W' q n r := by
  obtain ⟨h1, h2⟩ := h
  refine ⟨h1, ?_⟩
  rcases h2 with h2 | ⟨b, off, rfl, hl, hc⟩
  · exact .inl h2
  · rcases hne with h0 | hne
    · exact .inl h0
    · have hb := hne b off rfl
      refine .inr ⟨b, off, rfl, Nat.lt_of_lt_of_le hl hg.size, fun k v hk => ?_⟩
      obtain ⟨c0, c1, c2⟩ := hc k v hk
      exact ⟨(hg.cell_far ⟨b, _, none⟩ hl hb).trans c0, (hg.cell_far ⟨b, _, none⟩ hl hb).trans c1, (hg.cell_far ⟨b, _, none⟩ hl hb).trans c2⟩
theorem ElAt.kept {W W' : World} {X row : Option Nat} {u : Value} {r : List Val.V} (h : ElAt W X u r) (hg : W.grownBy W' row) (hr : row = X ∨ row = none) : ElAt W' X u r := by
  obtain ⟨q, c, hu, hs, hv, hne⟩ := h
  refine ⟨q, c, hu, hs, vals_kept hv hg ?_, hne⟩
  rcases hr with rfl | rfl
  · exact hne
  · exact .inr fun b off _ => by simp
/-- told apart from another block -/
theorem ElAt.off {W : World} {X Y : Option Nat} {u : Value} {r : List Val.V} (h : ElAt W X u r) (hY : Y = X ∨ ∃ m, Y = some m ∧ W.heap.size ≤ m) : ElAt W Y u r := by
  obtain ⟨q, c, hu, hs, hv, hne⟩ := h
  refine ⟨q, c, hu, hs, hv, ?_⟩
  rcases hY with rfl | ⟨m, rfl, hm⟩
  · exact hne
  · rcases hv.2 with h0 | ⟨b, off, rfl, hl, _⟩
    · exact .inl h0
    · refine .inr fun b' off' e => ?_
      injection e with e; injection e with e1
      subst e1
      intro e2; injection e2 with e2; omega
theorem ElAt.grow {W W' : World} {X Y : Option Nat} {u : Value} {r : List Val.V} (h : ElAt W X u r) (hg : W.grownBy W' X) (hY : Y = X ∨ ∃ m, Y = some m ∧ W.heap.size ≤ m) : ElAt W' Y u r := by
  obtain ⟨q, c, hu, hs, _, hne⟩ := h.off hY
  obtain ⟨q', c', hu', _, hv, _⟩ := h.kept hg (.inl rfl)
  rw [hu] at hu'
  injection hu' with e1 e2 e3
  subst e1
  exact ⟨q, c, hu, hs, hv, hne⟩
theorem ElAt.below {W W' : World} {X : Option Nat} {u : Value} {r : List Val.V} (h : ElAt W X u r) (hb : Below W.heap.size W W') : ElAt W' X u r := h.kept (row := none) ⟨hb.os, hb.tape, hb.output, hb.size, fun k hk _ => hb.block k hk⟩ (.inr rfl)
theorem RowsOwn.below {W W' : World} {base n : Nat} {v : Value} {rows : List (List Val.V)} (h : RowsOwn W base v n rows) (hb : Below W.heap.size W W') : RowsOwn W' base v n rows := by
  obtain ⟨cs, h1, h2, h3, h4⟩ := h
  have hg : W.grownBy W' none := ⟨hb.os, hb.tape, hb.output, hb.size, fun k hk _ => hb.block k hk⟩
  exact ⟨cs, h1.kept hg (by cases v.ownBlock <;> simp), h2, h3, fun k u r hk hr => (h4 k u r hk hr).below hb⟩
theorem RowsOwn.alloc {W : World} {base n : Nat} {v : Value} {rows : List (List Val.V)} (h : RowsOwn W base v n rows) (o : Obj) : RowsOwn (W.alloc o) base v n rows := h.below ((Below.refl _ _).alloc (Nat.le_refl _) o)
theorem RowsOwn.nil (W : World) (base : Nat) : RowsOwn W base (.slice none 0 0) 0 [] := ⟨[], World.ownsRow_nil _ _ _ _, rfl, rfl, fun k u r hk => by simp at hk⟩
theorem RowsOwn.shape {W : World} {base n : Nat} {v : Value} {rows : List (List Val.V)} (h : RowsOwn W base v n rows) : ∃ q c, v = .slice q n c := by
  obtain ⟨cs, h1, _⟩ := h; exact vshape h1
theorem RowsOwn.rows {W : World} {base n c : Nat} {q : Option Addr} {rows : List (List Val.V)} (h : RowsOwn W base (.slice q n c) n rows) : RowsAt W q n rows := by
  obtain ⟨cs, h1, h2, h3, h4⟩ := h
  refine ⟨h3, ?_⟩
  by_cases h0 : n = 0
  · left; exact List.eq_nil_of_length_eq_zero (by omega)
  · right
    obtain ⟨g, cap, hf, _, hlt⟩ := h1.form (by omega)
    simp only [Value.slice.injEq, true_and] at hf
    obtain ⟨rfl, rfl⟩ := hf
    refine ⟨g, 0, rfl, hlt, fun k r hk => ?_⟩
    have hkl : k < n := by rw [← h3]; exact (List.getElem?_eq_some_iff.1 hk).1
    have hu : cs[k]? = some cs[k] := List.getElem?_eq_getElem (by omega)
    obtain ⟨q, c, hq, hs, hv, _⟩ := h4 k _ r hu hk
    refine ⟨q, c, ?_, hs, hv⟩
    rw [Nat.zero_add]
    refine (h1.cellAt k (by omega)).trans ?_
    rw [hu, hq]
theorem RowsOwn.le {W : World} {base n : Nat} {v : Value} {rows : List (List Val.V)} (h : RowsOwn W base v n rows) : ∀ m, v.ownBlock = some m → base ≤ m ∧ m < W.heap.size := by
  obtain ⟨cs, h1, _⟩ := h; exact h1.lt
theorem sl_one (q : Option Addr) (n c : Nat) : ∀ u ∈ ([.slice q n c] : List Value), u.oneCell' = true := by intro u hu; simp at hu; subst hu; rfl

/-- ONE ROW IS APPENDED to a slice of rows that the call owns -/
theorem wpList_pushRow {W : World} {nz : Nat} (hnz : W.heap.size = nz) {ops : Array Oper} {rest : List Oper} {o : Oper} {a : Act} {Q : Exit → Act → World → Prop} (hgd : o.guard = none) (s x : Operand)
    (ho : o.op = .call { callee := .builtin .append, args := #[s, x], argTypes := #[22, 22] })
    (base : Nat) (v : Value) (n : Nat) (rows : List (List Val.V)) (hs : a.eval s = v) (hown : RowsOwn W base v n rows) (u : Value) (r : List Val.V) (hel : ElAt W v.ownBlock u r)
    (hx : a.eval x = .slice (some ⟨nz, 0, none⟩) 1 1) (hn : n ≤ 1099511627776) (hbase : base ≤ W.heap.size)
    (h : ∀ q c w1, RowsOwn w1 base (.slice q (n + 1) c) (n + 1) (rows ++ [r]) → Below base W w1 → W.grownBy w1 v.ownBlock → wpList Tryz.prog ops Q rest (a.put o.dst (.slice q (n + 1) c)) w1) :
    wpList Tryz.prog ops Q (o :: rest) a (W.alloc (.cells #[u] 30)) := by
  subst hnz
  obtain ⟨i, hi, hz, hsize, hby⟩ := info_parts rows_info
  obtain ⟨cs, h1, h2, h3, h4⟩ := hown
  have hu1 : u.oneCell' = true := by obtain ⟨q, c, rfl, _⟩ := hel; rfl
  refine wpList_append_own_at _ hgd s x 22 ho base 30 i _ 1 24 Tryz.underlying22 hi hz hsize hby rfl (by decide) v n cs hs (h1.alloc _) ⟨W.heap.size, 0, none⟩ 1 1 [u] hx rfl (cell_one_new _ _ _) (by intro y hy; simp at hy; subst hy; exact hu1) (by unfold maxLen; omega) (by omega) (by simp; omega) ?_
  intro v' w' hown' hg _ hloc
  obtain ⟨q', c', rfl⟩ := vshape hown'
  have hg' : W.grownBy w' v.ownBlock := ⟨hg.os, hg.tape, hg.output, Nat.le_trans (by simp) hg.size, fun k hk hne => (hg.block k (by simp; omega) hne).trans (Below.heap_alloc W _ k hk)⟩
  have hY : (Value.slice q' (n + 1) c').ownBlock = v.ownBlock ∨ ∃ m, (Value.slice q' (n + 1) c').ownBlock = some m ∧ W.heap.size ≤ m := by
    rcases hloc with e | e
    · exact .inl e
    · exact .inr ⟨_, e, by simp⟩
  refine h q' c' w' ⟨cs ++ [u], hown', by simp [h2], by simp [h3], fun k y z hk hz => ?_⟩ ((Below.refl base W).grown hg' hbase fun k hk => (h1.lt k hk).1) hg'
  by_cases hkn : k < n
  · rw [List.getElem?_append_left (by omega)] at hk hz
    exact (h4 k y z hk hz).grow hg' hY
  · have hk0 : k = n := by
      have := (List.getElem?_eq_some_iff.1 hk).1
      simp [h2] at this; omega
    subst hk0
    rw [List.getElem?_append_right (by omega)] at hk hz
    rw [h2] at hk
    rw [h3] at hz
    simp at hk hz
    subst hk hz
    exact hel.grow hg' hY

/-- a row that was there, among what a call makes -/
theorem ElAt.old {w W : World} {base n c : Nat} {v : Value} {q : Option Addr} {r : List Val.V} (hv : ValsAt w q r.length r) (hb : Below w.heap.size w W) (hs : SlOk q r.length c) (hX : ∀ m, v.ownBlock = some m → w.heap.size ≤ m) : ElAt W v.ownBlock (.slice q r.length c) r := by
  refine ⟨q, c, rfl, hs, hv.below hb, ?_⟩
  rcases hv.2 with h0 | ⟨b, off, rfl, hl, _⟩
  · exact .inl h0
  · refine .inr fun b' off' e e2 => ?_
    injection e with e; injection e with e1
    subst e1
    have := hX b e2.symm
    omega
/-- a row of the call's own, made behind another block -/
theorem ElAt.own {W : World} {base N c : Nat} {X : Option Nat} {q : Option Addr} {r : List Val.V} (h : W.ownsRow base 33 3 (.slice q N c) N (valC r)) (hl : r.length = N) (hX : ∀ m, X = some m → m < base) : ElAt W X (.slice q N c) r := by
  subst hl
  have hv := valsAt_own h rfl
  refine ⟨q, c, rfl, ?_, hv, ?_⟩
  · rcases h.2 with ⟨e, h0⟩ | ⟨g, cap, cur, e, _, _, hnc, _⟩
    · injection e with e1 e2 e3
      exact ⟨by omega, fun _ => e3⟩
    · injection e with e1 e2 e3
      exact ⟨by omega, fun h => by rw [h] at e1; cases e1⟩
  · rcases h.2 with ⟨e, h0⟩ | ⟨g, cap, cur, e, hb, _⟩
    · exact .inl (List.eq_nil_of_length_eq_zero h0)
    · injection e with e1 e2 e3
      refine .inr fun b off e' e2 => ?_
      rw [e1] at e'
      injection e' with e'; injection e' with e3
      subst e3
      have := hX g e2.symm
      omega

theorem q_slice (w : World) (a : Option Addr) (n c n' c' : Nat) : (binOp .eql 30 (.slice a n c) (.slice none n' c')).run Tryz.prog w = .ok (.bool a.isNone) w := Lib.run_eql_slice_nil w _ _ a n c n' c' Tryz.underlying30

/-- what Clone answers -/
def CloneP (N : Nat) (vs : List Val.V) (w : World) (e : Ending) (w' : World) : Prop :=
  ∃ q c, e = .returned (.slice q N c) ∧ w'.ownsRow w.heap.size 33 3 (.slice q N c) N (valC vs) ∧ Below w.heap.size w w'
set_option maxHeartbeats 1000000 in
theorem clone_is (p : Option Addr) (N c : Nat) (vs : List Val.V) (w : World) (hA : ValsAt w p N vs) (hS : SlOk p N c) (hN : N ≤ 1048576) :
    Calls Tryz.prog 43 #[.slice p N c] w (CloneP N vs w) := by
  have q22 := q_slice
  have hlen := hA.1
  cases p with
  | none =>
    have h0 := hS.2 rfl
    have h1 := hS.1
    obtain rfl : N = 0 := by omega
    obtain rfl : vs = [] := List.eq_nil_of_length_eq_zero hlen
    go_enter Tryz.func43, Tryz.ntmps43
    go_wp2
    go_ret
    exact ⟨none, 0, rfl, World.ownsRow_nil _ _ _ _, Below.refl _ _⟩
  | some a =>
    obtain ⟨i0, hi, hz0, hz1, hz2⟩ := info_parts val_info
    have hl : (valC vs).length = N * 3 := by rw [valC_len, hlen]
    have hcs : ∀ (j : Nat) (u : Value), (valC vs)[j]? = some u → w.cell? (a.add j) = some u := by
      intro j u hj
      obtain ⟨k, v, hv, hc⟩ := valC_get hj
      rcases hA.2 with h0 | ⟨b, off, e, hbl, hcell⟩
      · rw [h0] at hv; simp at hv
      · injection e with e
        subst e
        obtain ⟨c0, c1, c2⟩ := hcell k v hv
        rw [Addr.add_lit]
        rcases hc with ⟨rfl, rfl⟩ | ⟨rfl, rfl⟩ | ⟨rfl, rfl⟩
        · exact c0
        · rw [← Nat.add_assoc]; exact c1
        · rw [← Nat.add_assoc]; exact c2
    have hcs' : ∀ (j : Nat) (u : Value), (valC vs)[j]? = some u → (w.alloc (.cells #[] 33)).cell? (a.add j) = some u := fun j u hj => Lib.cell?_alloc_some _ (hcs j u hj)
    replace hcs := Lib.hid hcs
    replace hlen := Lib.hid hlen
    go_enter Tryz.func43, Tryz.ntmps43
    go_wp2_with (at_builtin; refine wpList_append_own _ rfl _ _ 30 rfl w.heap.size 33 i0 _ 3 32 Tryz.underlying30 hi hz0 hz1 hz2 rfl (by decide) _ _ _ rfl (World.ownsRow_made w #[] 0 (Nat.le_refl _) (Nat.zero_le _) rfl) a N c (valC vs) rfl hl hcs' (valC_one vs) (by unfold maxLen; omega) (by omega) (by simp) ?_)
    intro v' w' hown' hgrow _
    obtain ⟨p', c', rfl⟩ := vshape hown'
    go_wp2
    go_ret
    refine ⟨p', c', by simp, by simpa using hown', ?_⟩
    exact ((Below.refl _ w).alloc (Nat.le_refl _) _).grown hgrow (by simp) (by intro k hk; simp [Value.ownBlock] at hk; omega)
end Go.Proofs.YtdapnemcdgjeeaaGreatDoor

namespace Go.Proofs.YtdapnemcdgjeeaaGreatDoor
open Go.RowKit
open Go.Proofs.YtdapnemcdgjeeaaGreatDoor.Ord (atV firstV standV mayRow MRow)

/-- rows whose texts and lengths are bounded -/
def RowsB (rows : List (List Val.V)) : Prop := rows.length ≤ 8388608 ∧ ∀ r ∈ rows, r.length ≤ 1048576 ∧ ∀ v ∈ r, v.text.length ≤ 1048576
/-- what makes a slice of rows answers -/
def RowsP (N : Nat) (rows : List (List Val.V)) (w : World) (e : Ending) (w' : World) : Prop :=
  ∃ q c, e = .returned (.slice q N c) ∧ RowsOwn w' w.heap.size (.slice q N c) N rows ∧ Below w.heap.size w w'

set_option maxHeartbeats 1000000 in
theorem copies_is (p : Option Addr) (N c : Nat) (rows : List (List Val.V)) (w : World) (hR : RowsAt w p N rows) (hB : RowsB rows) :
    Calls Tryz.prog 35 #[.slice p N c] w (RowsP N rows w) := by
  have hlen := hR.1
  have hN : N ≤ 8388608 := by rw [← hlen]; exact hB.1
  replace hlen := Lib.hid hlen
  replace hB := Lib.hid hB
  go_enter Tryz.func35, Tryz.ntmps35
  go_wp2
  go_loopw [3, 8] (fun ov iv wr => ∃ (q : Option Addr) (i co : Nat), ov = .slice q i co ∧ iv = .int .i64 (i : Int) ∧ i ≤ N ∧ RowsOwn wr w.heap.size (.slice q i co) i (rows.take i) ∧ Below w.heap.size w wr) (fun _ iv _ => N - (intOf iv).toNat)
  case atStart => exact ⟨none, 0, 0, rfl, by go_num, by omega, RowsOwn.nil _ _, Below.refl _ _⟩
  case round =>
    obtain ⟨q, i, co, rfl, rfl, hi, hrow, hb⟩ := hrel
    by_cases hlt : i < N
    · have hlB : decide ((i : Int) < (N : Int)) = true := by simp; omega
      obtain ⟨r, b, off, q', c', hr, rfl, hbl, c0, hs, hv⟩ := (hR.below hb).at hlt
      have hrl := (hB.out.2 r (List.mem_of_getElem? hr)).1
      have hsn : rows.take (i + 1) = rows.take i ++ [r] := by rw [List.take_add_one, hr]; rfl
      have i0 : (0 : Int) ≤ (i : Int) := by omega
      have i1 : (i : Int) < (N : Int) := by omega
      have hX := hrow.le
      replace hsn := Lib.hid hsn
      replace hr := Lib.hid hr
      go_wp2_with (first
        | (go_at_call 43; refine (clone_is q' r.length c' r wr hv hs hrl).mono ?_; rintro e w1 ⟨q1, c1, rfl, hown1, hb1⟩)
        | (at_builtin; go_must (refine wpList_pushRow rfl rfl _ _ rfl w.heap.size (.slice q i co) i (rows.take i) rfl (hrow.below hb1) _ r (ElAt.own hown1 rfl (fun m hm => (hX m hm).2)) rfl (by omega) (Nat.le_trans hb.size hb1.size) ?_); intro q2 c2 w2 hown2 hb2 _))
      go_roundw
      case rel => exact ⟨q2, i + 1, c2, rfl, by go_num, by omega, by rw [hsn.out]; exact hown2, (hb.trans (hb1.mono hb.size)).trans hb2⟩
      case measure => simp [intOf]; omega
    · have hlB : decide ((i : Int) < (N : Int)) = false := by simp; omega
      obtain rfl : i = N := by omega
      rw [List.take_of_length_le (by rw [hlen.out]; omega)] at hrow
      go_wp2
      go_ret
      exact ⟨q, co, rfl, hrow, hb⟩
end Go.Proofs.YtdapnemcdgjeeaaGreatDoor

