/- Walks: CmpRows of the program and of the reference. -/
import Derived.Test.YtdapnemcdgjeeaaGreatDoorRowsP
import Derived.Test.YtdapnemcdgjeeaaGreatDoorVals
import Derived.Test.YtdapnemcdgjeeaaGreatDoorCmpW6
set_option maxRecDepth 100000
set_option linter.unusedVariables false
set_option linter.unusedSimpArgs false
namespace Go.Proofs.YtdapnemcdgjeeaaGreatDoor
open Go.RowKit

theorem keepR {w W W' : World} {b off b' off' k : Nat} {ka na : Int} {ta : ByteArray} {kb nb : Int} {tb : ByteArray} (h : W.cell? ⟨b, off + k * 3, none⟩ = some (.int .i64 ka) ∧ W.cell? ⟨b, off + k * 3 + 1, none⟩ = some (.int .i64 na) ∧ W.cell? ⟨b, off + k * 3 + 2, none⟩ = some (.string ta) ∧ W.cell? ⟨b', off' + k * 3, none⟩ = some (.int .i64 kb) ∧ W.cell? ⟨b', off' + k * 3 + 1, none⟩ = some (.int .i64 nb) ∧ W.cell? ⟨b', off' + k * 3 + 2, none⟩ = some (.string tb) ∧ b < W.heap.size ∧ b' < W.heap.size ∧ Below w.heap.size w W) (hb : Below W.heap.size W W') : W'.cell? ⟨b, off + k * 3, none⟩ = some (.int .i64 ka) ∧ W'.cell? ⟨b, off + k * 3 + 1, none⟩ = some (.int .i64 na) ∧ W'.cell? ⟨b, off + k * 3 + 2, none⟩ = some (.string ta) ∧ W'.cell? ⟨b', off' + k * 3, none⟩ = some (.int .i64 kb) ∧ W'.cell? ⟨b', off' + k * 3 + 1, none⟩ = some (.int .i64 nb) ∧ W'.cell? ⟨b', off' + k * 3 + 2, none⟩ = some (.string tb) ∧ b < W'.heap.size ∧ b' < W'.heap.size ∧ Below w.heap.size w W' :=
  have l0 : b < W.heap.size := h.2.2.2.2.2.2.1
  have l1 : b' < W.heap.size := h.2.2.2.2.2.2.2.1
  ⟨(hb.cell (p := ⟨b, _, none⟩) l0).trans h.1, (hb.cell (p := ⟨b, _, none⟩) l0).trans h.2.1, (hb.cell (p := ⟨b, _, none⟩) l0).trans h.2.2.1, (hb.cell (p := ⟨b', _, none⟩) l1).trans h.2.2.2.1, (hb.cell (p := ⟨b', _, none⟩) l1).trans h.2.2.2.2.1, (hb.cell (p := ⟨b', _, none⟩) l1).trans h.2.2.2.2.2.1, Nat.lt_of_lt_of_le l0 hb.size, Nat.lt_of_lt_of_le l1 hb.size, h.2.2.2.2.2.2.2.2.trans (hb.mono h.2.2.2.2.2.2.2.2.size)⟩
theorem keepR0 {w W : World} {b off b' off' k : Nat} {ka na : Int} {ta : ByteArray} {kb nb : Int} {tb : ByteArray} (h : W.cell? ⟨b, off + k * 3, none⟩ = some (.int .i64 ka) ∧ W.cell? ⟨b, off + k * 3 + 1, none⟩ = some (.int .i64 na) ∧ W.cell? ⟨b, off + k * 3 + 2, none⟩ = some (.string ta) ∧ W.cell? ⟨b', off' + k * 3, none⟩ = some (.int .i64 kb) ∧ W.cell? ⟨b', off' + k * 3 + 1, none⟩ = some (.int .i64 nb) ∧ W.cell? ⟨b', off' + k * 3 + 2, none⟩ = some (.string tb) ∧ b < W.heap.size ∧ b' < W.heap.size ∧ Below w.heap.size w W) : W.drew.cell? ⟨b, off + k * 3, none⟩ = some (.int .i64 ka) ∧ W.drew.cell? ⟨b, off + k * 3 + 1, none⟩ = some (.int .i64 na) ∧ W.drew.cell? ⟨b, off + k * 3 + 2, none⟩ = some (.string ta) ∧ W.drew.cell? ⟨b', off' + k * 3, none⟩ = some (.int .i64 kb) ∧ W.drew.cell? ⟨b', off' + k * 3 + 1, none⟩ = some (.int .i64 nb) ∧ W.drew.cell? ⟨b', off' + k * 3 + 2, none⟩ = some (.string tb) ∧ b < W.drew.heap.size ∧ b' < W.drew.heap.size ∧ Below w.heap.size w W.drew :=
  ⟨h.1, h.2.1, h.2.2.1, h.2.2.2.1, h.2.2.2.2.1, h.2.2.2.2.2.1, h.2.2.2.2.2.2.1, h.2.2.2.2.2.2.2.1, h.2.2.2.2.2.2.2.2.drew⟩

/-- a slice of collations in memory that was there -/
def CollsAt (W : World) (p : Option Addr) (N : Nat) (cs : List Int) : Prop :=
  cs.length = N ∧ (cs = [] ∨ ∃ b off, p = some ⟨b, off, none⟩ ∧ b < W.heap.size ∧ ∀ k c, cs[k]? = some c → W.cell? ⟨b, off + k, none⟩ = some (.int .i64 c))
theorem CollsAt.below {W W' : World} {p : Option Addr} {N : Nat} {cs : List Int} (h : CollsAt W p N cs) (hb : Below W.heap.size W W') : CollsAt W' p N cs := by
  obtain ⟨h1, h2⟩ := h
  refine ⟨h1, ?_⟩
  rcases h2 with h2 | ⟨b, off, rfl, hl, hc⟩
  · exact .inl h2
  · exact .inr ⟨b, off, rfl, Nat.lt_of_lt_of_le hl hb.size, fun k g hk => (hb.cell (p := ⟨b, _, none⟩) hl).trans (hc k g hk)⟩
/-- what the collation at a place is -/
theorem colls_at {W : World} {p : Option Addr} {N k : Nat} {cs : List Int} (h : CollsAt W p N cs) :
    (¬ k < N ∧ cs.getD k 0 = 0) ∨ (k < N ∧ ∃ b off, p = some ⟨b, off, none⟩ ∧ W.cell? ⟨b, off + k, none⟩ = some (.int .i64 (cs.getD k 0))) := by
  by_cases hk : k < N
  · right
    have hl : k < cs.length := by rw [h.1]; exact hk
    have hg : cs[k]? = some cs[k] := List.getElem?_eq_getElem hl
    rcases h.2 with h0 | ⟨b, off, rfl, _, hc⟩
    · rw [h0] at hl; simp at hl
    · refine ⟨hk, b, off, rfl, ?_⟩
      rw [hc k _ hg]
      simp [List.getD, hg]
  · left
    refine ⟨hk, ?_⟩
    simp [List.getD, List.getElem?_eq_none (show cs.length ≤ k by rw [h.1]; omega)]

set_option maxHeartbeats 4000000 in
theorem vrows_any (p : Option Addr) (N ca : Nat) (q : Option Addr) (M cb : Nat) (s : Option Addr) (L cc : Nat) (va vb : List Val.V) (cs : List Int) (w : World) (hA : ValsAt w p N va) (hA' : ValsAt w q M vb) (hC : CollsAt w s L cs) (hN : N ≤ 1048576) (hM : M ≤ 1048576) (hLl : L ≤ 1048576)
    (hTa : ∀ v ∈ va, v.text.length ≤ 1048576) (hTb : ∀ v ∈ vb, v.text.length ≤ 1048576) (r : Int) (hr : Hid (Val.rowsFrom cs 0 va vb = r)) :
    Calls Tryz.prog 67 #[.slice p N ca, .slice q M cb, .slice s L cc] w fun e w' => e = .returned (.int .i64 r) ∧ Below w.heap.size w w' := by
  have hlen := hA.1
  have hlen' := hA'.1
  replace hTa := Lib.hid hTa
  replace hTb := Lib.hid hTb
  replace hlen := Lib.hid hlen
  replace hlen' := Lib.hid hlen'
  go_enter Tryz.func67, Tryz.ntmps67
  go_wp2
  go_loopw [15] (fun iv wr => ∃ k : Nat, iv = .int .i64 (k : Int) ∧ k ≤ N ∧ k ≤ M ∧ Hid (Val.rowsFrom cs k (va.drop k) (vb.drop k) = r) ∧ Below w.heap.size w wr) (fun iv _ => N - (intOf iv).toNat)
  case atStart => exact ⟨0, by go_num, by omega, by omega, hr, Below.refl _ _⟩
  case round =>
    obtain ⟨k, rfl, hkN, hkM, hq, hB⟩ := hrel
    by_cases hlt : k < N ∧ k < M
    · have hla := hlt.1
      have hlb := hlt.2
      obtain ⟨v, hv⟩ : ∃ v, va[k]? = some v := ⟨_, List.getElem?_eq_getElem (by rw [hlen.out]; exact hla)⟩
      obtain ⟨u, hu⟩ : ∃ u, vb[k]? = some u := ⟨_, List.getElem?_eq_getElem (by rw [hlen'.out]; exact hlb)⟩
      have hst := Val.rows_step cs k va vb v u hv hu
      rw [hq.out] at hst
      have tv := hTa.out v (List.mem_of_getElem? hv)
      have tu := hTb.out u (List.mem_of_getElem? hu)
      rcases (hA.below hB).2 with h0 | ⟨b, off, rfl, hbl, hcell⟩
      · rw [h0] at hv; simp at hv
      rcases (hA'.below hB).2 with h0 | ⟨b', off', rfl, hbl', hcell'⟩
      · rw [h0] at hu; simp at hu
      obtain ⟨c0, c1, c2⟩ := hcell k v hv
      obtain ⟨d0, d1, d2⟩ := hcell' k u hu
      obtain ⟨ka, na, txa⟩ := v
      obtain ⟨ta, rfl⟩ : ∃ t : ByteArray, txa = t.data.toList := ⟨bs txa, rfl⟩
      obtain ⟨kb, nb, txb⟩ := u
      obtain ⟨tb, rfl⟩ : ∃ t : ByteArray, txb = t.data.toList := ⟨bs txb, rfl⟩
      rw [bs_of] at c2 d2
      simp only at c0 c1 c2 d0 d1 d2 tv tu
      have hsa : ta.size ≤ 1048576 := tv
      have hsb : tb.size ≤ 1048576 := tu
      have H0 : wr.cell? ⟨b, off + k * 3, none⟩ = some (.int .i64 ka) ∧ wr.cell? ⟨b, off + k * 3 + 1, none⟩ = some (.int .i64 na) ∧ wr.cell? ⟨b, off + k * 3 + 2, none⟩ = some (.string ta) ∧ wr.cell? ⟨b', off' + k * 3, none⟩ = some (.int .i64 kb) ∧ wr.cell? ⟨b', off' + k * 3 + 1, none⟩ = some (.int .i64 nb) ∧ wr.cell? ⟨b', off' + k * 3 + 2, none⟩ = some (.string tb) ∧ b < wr.heap.size ∧ b' < wr.heap.size ∧ Below w.heap.size w wr := ⟨c0, c1, c2, d0, d1, d2, hbl, hbl', hB⟩
      have i0 : (0 : Int) ≤ (k : Int) := by omega
      have i1 : (k : Int) < (N : Int) := by omega
      have i2 : (k : Int) < (M : Int) := by omega
      have j1 : decide ((k : Int) < (N : Int)) = true := by simp; omega
      have j2 : decide ((k : Int) < (M : Int)) = true := by simp; omega
      have j3 : decide ((k : Int) < min (N : Int) (M : Int)) = true := by simp; omega
      clear hcell hcell' hv hu tv tu hlt hq hr
      obtain ⟨C, hCC⟩ : ∃ C, cs.getD k 0 = C := ⟨_, rfl⟩
      have hco := colls_at (k := k) (hC.below hB)
      rw [hCC] at hst hco
      obtain ⟨d, hd⟩ : ∃ d, Val.cmp ⟨ka, na, ta.data.toList⟩ ⟨kb, nb, tb.data.toList⟩ C = d := ⟨_, rfl⟩
      rw [hd] at hst
      replace hCC := Lib.hid hCC
      replace hd := Lib.hid hd
      by_cases hd0 : d = 0
      · rw [if_neg (by simp [hd0])] at hst
        subst hd0
        replace hst := Lib.hid hst
        rcases hco with ⟨hkL, rfl⟩ | ⟨hkL, b3, off3, rfl, e0⟩
        · have j4 : decide ((k : Int) < (L : Int)) = false := by simp; omega
          go_wp2_with fail
          go_region_held3 (fun W => W.cell? ⟨b, off + k * 3, none⟩ = some (.int .i64 ka) ∧ W.cell? ⟨b, off + k * 3 + 1, none⟩ = some (.int .i64 na) ∧ W.cell? ⟨b, off + k * 3 + 2, none⟩ = some (.string ta) ∧ W.cell? ⟨b', off' + k * 3, none⟩ = some (.int .i64 kb) ∧ W.cell? ⟨b', off' + k * 3 + 1, none⟩ = some (.int .i64 nb) ∧ W.cell? ⟨b', off' + k * 3 + 2, none⟩ = some (.string tb) ∧ b < W.heap.size ∧ b' < W.heap.size ∧ Below w.heap.size w W) (first | assumption | exact keepR (by assumption) (by assumption) | exact keepR0 (by assumption)) (first
            | (go_at_call 65; refine (vcmp_is _ _ _ _ _ _ _ _ hsa hsb _ hd).mono ?_; rintro e w3 ⟨rfl, hb3⟩))
          all_goals (
            go_wp2
            go_roundw
            case rel => exact ⟨k + 1, by go_num, by omega, by omega, Lib.hid hst.out.symm, by rename_i hh; exact hh.2.2.2.2.2.2.2.2⟩
            case measure => simp [intOf]; omega)
        · have j4 : decide ((k : Int) < (L : Int)) = true := by simp; omega
          have i3 : (k : Int) < (L : Int) := by omega
          go_wp2_with fail
          go_region_held3 (fun W => W.cell? ⟨b, off + k * 3, none⟩ = some (.int .i64 ka) ∧ W.cell? ⟨b, off + k * 3 + 1, none⟩ = some (.int .i64 na) ∧ W.cell? ⟨b, off + k * 3 + 2, none⟩ = some (.string ta) ∧ W.cell? ⟨b', off' + k * 3, none⟩ = some (.int .i64 kb) ∧ W.cell? ⟨b', off' + k * 3 + 1, none⟩ = some (.int .i64 nb) ∧ W.cell? ⟨b', off' + k * 3 + 2, none⟩ = some (.string tb) ∧ b < W.heap.size ∧ b' < W.heap.size ∧ Below w.heap.size w W) (first | assumption | exact keepR (by assumption) (by assumption) | exact keepR0 (by assumption)) (first
            | (go_at_call 65; refine (vcmp_is _ _ _ _ _ _ _ _ hsa hsb _ hd).mono ?_; rintro e w3 ⟨rfl, hb3⟩))
          all_goals (
            go_wp2
            go_roundw
            case rel => exact ⟨k + 1, by go_num, by omega, by omega, Lib.hid hst.out.symm, by rename_i hh; exact hh.2.2.2.2.2.2.2.2⟩
            case measure => simp [intOf]; omega)
      · rw [if_pos hd0] at hst
        subst hst
        have hdB : (r != 0) = true := by simp; omega
        rcases hco with ⟨hkL, rfl⟩ | ⟨hkL, b3, off3, rfl, e0⟩
        · have j4 : decide ((k : Int) < (L : Int)) = false := by simp; omega
          go_wp2_with fail
          go_region_held3 (fun W => W.cell? ⟨b, off + k * 3, none⟩ = some (.int .i64 ka) ∧ W.cell? ⟨b, off + k * 3 + 1, none⟩ = some (.int .i64 na) ∧ W.cell? ⟨b, off + k * 3 + 2, none⟩ = some (.string ta) ∧ W.cell? ⟨b', off' + k * 3, none⟩ = some (.int .i64 kb) ∧ W.cell? ⟨b', off' + k * 3 + 1, none⟩ = some (.int .i64 nb) ∧ W.cell? ⟨b', off' + k * 3 + 2, none⟩ = some (.string tb) ∧ b < W.heap.size ∧ b' < W.heap.size ∧ Below w.heap.size w W) (first | assumption | exact keepR (by assumption) (by assumption) | exact keepR0 (by assumption)) (first
            | (go_at_call 65; refine (vcmp_is _ _ _ _ _ _ _ _ hsa hsb _ hd).mono ?_; rintro e w3 ⟨rfl, hb3⟩))
          all_goals (
            go_wp2
            go_ret
            exact ⟨rfl, by rename_i hh; exact hh.2.2.2.2.2.2.2.2⟩)
        · have j4 : decide ((k : Int) < (L : Int)) = true := by simp; omega
          have i3 : (k : Int) < (L : Int) := by omega
          go_wp2_with fail
          go_region_held3 (fun W => W.cell? ⟨b, off + k * 3, none⟩ = some (.int .i64 ka) ∧ W.cell? ⟨b, off + k * 3 + 1, none⟩ = some (.int .i64 na) ∧ W.cell? ⟨b, off + k * 3 + 2, none⟩ = some (.string ta) ∧ W.cell? ⟨b', off' + k * 3, none⟩ = some (.int .i64 kb) ∧ W.cell? ⟨b', off' + k * 3 + 1, none⟩ = some (.int .i64 nb) ∧ W.cell? ⟨b', off' + k * 3 + 2, none⟩ = some (.string tb) ∧ b < W.heap.size ∧ b' < W.heap.size ∧ Below w.heap.size w W) (first | assumption | exact keepR (by assumption) (by assumption) | exact keepR0 (by assumption)) (first
            | (go_at_call 65; refine (vcmp_is _ _ _ _ _ _ _ _ hsa hsb _ hd).mono ?_; rintro e w3 ⟨rfl, hb3⟩))
          all_goals (
            go_wp2
            go_ret
            exact ⟨rfl, by rename_i hh; exact hh.2.2.2.2.2.2.2.2⟩)
    · have he := (Val.rows_end cs k va vb (by rw [hlen.out, hlen'.out]; exact hlt) (by rw [hlen.out]; exact hkN) (by rw [hlen'.out]; exact hkM)).symm.trans hq.out
      rw [hlen.out, hlen'.out] at he
      have j3 : decide ((k : Int) < min (N : Int) (M : Int)) = false := by simp; omega
      replace he := Lib.hid he
      clear hr hq hlt
      go_wp2_with (go_at_call 74; refine (Tryz.cmp_Compare_int _ _ _).mono ?_; rintro e w1 ⟨rfl, hww⟩; obtain rfl := hww.symm; rw [he.out])
      go_ret
      exact ⟨rfl, hB⟩

set_option maxHeartbeats 4000000 in
theorem rrows_any (p : Option Addr) (N ca : Nat) (q : Option Addr) (M cb : Nat) (s : Option Addr) (L cc : Nat) (va vb : List Val.V) (cs : List Int) (w : World) (hA : ValsAt w p N va) (hA' : ValsAt w q M vb) (hC : CollsAt w s L cs) (hN : N ≤ 1048576) (hM : M ≤ 1048576) (hLl : L ≤ 1048576)
    (hTa : ∀ v ∈ va, v.text.length ≤ 1048576) (hTb : ∀ v ∈ vb, v.text.length ≤ 1048576) (r : Int) (hr : Hid (Val.rowsFrom cs 0 va vb = r)) :
    Calls Tryz.prog 61 #[.slice p N ca, .slice q M cb, .slice s L cc] w fun e w' => e = .returned (.int .i64 r) ∧ Below w.heap.size w w' := by
  have hlen := hA.1
  have hlen' := hA'.1
  replace hTa := Lib.hid hTa
  replace hTb := Lib.hid hTb
  replace hlen := Lib.hid hlen
  replace hlen' := Lib.hid hlen'
  go_enter Tryz.func61, Tryz.ntmps61
  go_wp2
  go_loopw [7] (fun iv wr => ∃ k : Nat, iv = .int .i64 (k : Int) ∧ k ≤ N ∧ k ≤ M ∧ Hid (Val.rowsFrom cs k (va.drop k) (vb.drop k) = r) ∧ Below w.heap.size w wr) (fun iv _ => N - (intOf iv).toNat)
  case atStart => exact ⟨0, by go_num, by omega, by omega, hr, Below.refl _ _⟩
  case round =>
    obtain ⟨k, rfl, hkN, hkM, hq, hB⟩ := hrel
    by_cases hlt : k < N ∧ k < M
    · have hla := hlt.1
      have hlb := hlt.2
      obtain ⟨v, hv⟩ : ∃ v, va[k]? = some v := ⟨_, List.getElem?_eq_getElem (by rw [hlen.out]; exact hla)⟩
      obtain ⟨u, hu⟩ : ∃ u, vb[k]? = some u := ⟨_, List.getElem?_eq_getElem (by rw [hlen'.out]; exact hlb)⟩
      have hst := Val.rows_step cs k va vb v u hv hu
      rw [hq.out] at hst
      have tv := hTa.out v (List.mem_of_getElem? hv)
      have tu := hTb.out u (List.mem_of_getElem? hu)
      rcases (hA.below hB).2 with h0 | ⟨b, off, rfl, hbl, hcell⟩
      · rw [h0] at hv; simp at hv
      rcases (hA'.below hB).2 with h0 | ⟨b', off', rfl, hbl', hcell'⟩
      · rw [h0] at hu; simp at hu
      obtain ⟨c0, c1, c2⟩ := hcell k v hv
      obtain ⟨d0, d1, d2⟩ := hcell' k u hu
      obtain ⟨ka, na, txa⟩ := v
      obtain ⟨ta, rfl⟩ : ∃ t : ByteArray, txa = t.data.toList := ⟨bs txa, rfl⟩
      obtain ⟨kb, nb, txb⟩ := u
      obtain ⟨tb, rfl⟩ : ∃ t : ByteArray, txb = t.data.toList := ⟨bs txb, rfl⟩
      rw [bs_of] at c2 d2
      simp only at c0 c1 c2 d0 d1 d2 tv tu
      have hsa : ta.size ≤ 1048576 := tv
      have hsb : tb.size ≤ 1048576 := tu
      have H0 : wr.cell? ⟨b, off + k * 3, none⟩ = some (.int .i64 ka) ∧ wr.cell? ⟨b, off + k * 3 + 1, none⟩ = some (.int .i64 na) ∧ wr.cell? ⟨b, off + k * 3 + 2, none⟩ = some (.string ta) ∧ wr.cell? ⟨b', off' + k * 3, none⟩ = some (.int .i64 kb) ∧ wr.cell? ⟨b', off' + k * 3 + 1, none⟩ = some (.int .i64 nb) ∧ wr.cell? ⟨b', off' + k * 3 + 2, none⟩ = some (.string tb) ∧ b < wr.heap.size ∧ b' < wr.heap.size ∧ Below w.heap.size w wr := ⟨c0, c1, c2, d0, d1, d2, hbl, hbl', hB⟩
      have i0 : (0 : Int) ≤ (k : Int) := by omega
      have i1 : (k : Int) < (N : Int) := by omega
      have i2 : (k : Int) < (M : Int) := by omega
      have j1 : decide ((k : Int) < (N : Int)) = true := by simp; omega
      have j2 : decide ((k : Int) < (M : Int)) = true := by simp; omega
      have j3 : decide ((k : Int) < min (N : Int) (M : Int)) = true := by simp; omega
      clear hcell hcell' hv hu tv tu hlt hq hr
      obtain ⟨C, hCC⟩ : ∃ C, cs.getD k 0 = C := ⟨_, rfl⟩
      have hco := colls_at (k := k) (hC.below hB)
      rw [hCC] at hst hco
      obtain ⟨d, hd⟩ : ∃ d, Val.cmp ⟨ka, na, ta.data.toList⟩ ⟨kb, nb, tb.data.toList⟩ C = d := ⟨_, rfl⟩
      rw [hd] at hst
      replace hCC := Lib.hid hCC
      replace hd := Lib.hid hd
      by_cases hd0 : d = 0
      · rw [if_neg (by simp [hd0])] at hst
        subst hd0
        replace hst := Lib.hid hst
        rcases hco with ⟨hkL, rfl⟩ | ⟨hkL, b3, off3, rfl, e0⟩
        · have j4 : decide ((k : Int) < (L : Int)) = false := by simp; omega
          go_wp2_with fail
          go_region_held3 (fun W => W.cell? ⟨b, off + k * 3, none⟩ = some (.int .i64 ka) ∧ W.cell? ⟨b, off + k * 3 + 1, none⟩ = some (.int .i64 na) ∧ W.cell? ⟨b, off + k * 3 + 2, none⟩ = some (.string ta) ∧ W.cell? ⟨b', off' + k * 3, none⟩ = some (.int .i64 kb) ∧ W.cell? ⟨b', off' + k * 3 + 1, none⟩ = some (.int .i64 nb) ∧ W.cell? ⟨b', off' + k * 3 + 2, none⟩ = some (.string tb) ∧ b < W.heap.size ∧ b' < W.heap.size ∧ Below w.heap.size w W) (first | assumption | exact keepR (by assumption) (by assumption) | exact keepR0 (by assumption)) (first
            | (go_at_call 59; refine (rcmp_is _ _ _ _ _ _ _ _ hsa hsb _ hd).mono ?_; rintro e w3 ⟨rfl, hb3⟩))
          all_goals (
            go_wp2
            go_roundw
            case rel => exact ⟨k + 1, by go_num, by omega, by omega, Lib.hid hst.out.symm, by rename_i hh; exact hh.2.2.2.2.2.2.2.2⟩
            case measure => simp [intOf]; omega)
        · have j4 : decide ((k : Int) < (L : Int)) = true := by simp; omega
          have i3 : (k : Int) < (L : Int) := by omega
          go_wp2_with fail
          go_region_held3 (fun W => W.cell? ⟨b, off + k * 3, none⟩ = some (.int .i64 ka) ∧ W.cell? ⟨b, off + k * 3 + 1, none⟩ = some (.int .i64 na) ∧ W.cell? ⟨b, off + k * 3 + 2, none⟩ = some (.string ta) ∧ W.cell? ⟨b', off' + k * 3, none⟩ = some (.int .i64 kb) ∧ W.cell? ⟨b', off' + k * 3 + 1, none⟩ = some (.int .i64 nb) ∧ W.cell? ⟨b', off' + k * 3 + 2, none⟩ = some (.string tb) ∧ b < W.heap.size ∧ b' < W.heap.size ∧ Below w.heap.size w W) (first | assumption | exact keepR (by assumption) (by assumption) | exact keepR0 (by assumption)) (first
            | (go_at_call 59; refine (rcmp_is _ _ _ _ _ _ _ _ hsa hsb _ hd).mono ?_; rintro e w3 ⟨rfl, hb3⟩))
          all_goals (
            go_wp2
            go_roundw
            case rel => exact ⟨k + 1, by go_num, by omega, by omega, Lib.hid hst.out.symm, by rename_i hh; exact hh.2.2.2.2.2.2.2.2⟩
            case measure => simp [intOf]; omega)
      · rw [if_pos hd0] at hst
        subst hst
        have hdB : (r != 0) = true := by simp; omega
        rcases hco with ⟨hkL, rfl⟩ | ⟨hkL, b3, off3, rfl, e0⟩
        · have j4 : decide ((k : Int) < (L : Int)) = false := by simp; omega
          go_wp2_with fail
          go_region_held3 (fun W => W.cell? ⟨b, off + k * 3, none⟩ = some (.int .i64 ka) ∧ W.cell? ⟨b, off + k * 3 + 1, none⟩ = some (.int .i64 na) ∧ W.cell? ⟨b, off + k * 3 + 2, none⟩ = some (.string ta) ∧ W.cell? ⟨b', off' + k * 3, none⟩ = some (.int .i64 kb) ∧ W.cell? ⟨b', off' + k * 3 + 1, none⟩ = some (.int .i64 nb) ∧ W.cell? ⟨b', off' + k * 3 + 2, none⟩ = some (.string tb) ∧ b < W.heap.size ∧ b' < W.heap.size ∧ Below w.heap.size w W) (first | assumption | exact keepR (by assumption) (by assumption) | exact keepR0 (by assumption)) (first
            | (go_at_call 59; refine (rcmp_is _ _ _ _ _ _ _ _ hsa hsb _ hd).mono ?_; rintro e w3 ⟨rfl, hb3⟩))
          all_goals (
            go_wp2
            go_ret
            exact ⟨rfl, by rename_i hh; exact hh.2.2.2.2.2.2.2.2⟩)
        · have j4 : decide ((k : Int) < (L : Int)) = true := by simp; omega
          have i3 : (k : Int) < (L : Int) := by omega
          go_wp2_with fail
          go_region_held3 (fun W => W.cell? ⟨b, off + k * 3, none⟩ = some (.int .i64 ka) ∧ W.cell? ⟨b, off + k * 3 + 1, none⟩ = some (.int .i64 na) ∧ W.cell? ⟨b, off + k * 3 + 2, none⟩ = some (.string ta) ∧ W.cell? ⟨b', off' + k * 3, none⟩ = some (.int .i64 kb) ∧ W.cell? ⟨b', off' + k * 3 + 1, none⟩ = some (.int .i64 nb) ∧ W.cell? ⟨b', off' + k * 3 + 2, none⟩ = some (.string tb) ∧ b < W.heap.size ∧ b' < W.heap.size ∧ Below w.heap.size w W) (first | assumption | exact keepR (by assumption) (by assumption) | exact keepR0 (by assumption)) (first
            | (go_at_call 59; refine (rcmp_is _ _ _ _ _ _ _ _ hsa hsb _ hd).mono ?_; rintro e w3 ⟨rfl, hb3⟩))
          all_goals (
            go_wp2
            go_ret
            exact ⟨rfl, by rename_i hh; exact hh.2.2.2.2.2.2.2.2⟩)
    · have he := (Val.rows_end cs k va vb (by rw [hlen.out, hlen'.out]; exact hlt) (by rw [hlen.out]; exact hkN) (by rw [hlen'.out]; exact hkM)).symm.trans hq.out
      rw [hlen.out, hlen'.out] at he
      have j3 : decide ((k : Int) < min (N : Int) (M : Int)) = false := by simp; omega
      have key : ∀ t : Bool, decide ((k : Int) < (N : Int)) = t → (t = true → decide ((k : Int) < (M : Int)) = false) → True := fun _ _ _ => trivial
      by_cases h1 : (N : Int) < (M : Int)
      · have b1 : decide ((N : Int) < (M : Int)) = true := by simp; omega
        obtain rfl : -1 = r := by rw [← he, Lib.compareInt, if_pos h1]
        have j1 : decide ((k : Int) < (N : Int)) = false := by simp; omega
        clear hr hq he key
        go_wp2
        go_ret
        exact ⟨rfl, hB⟩
      · have b1 : decide ((N : Int) < (M : Int)) = false := by simp; omega
        by_cases h2 : (N : Int) > (M : Int)
        · have b2 : decide ((N : Int) > (M : Int)) = true := by simp; omega
          obtain rfl : 1 = r := by rw [← he, Lib.compareInt, if_neg h1, if_pos h2]
          have j1 : decide ((k : Int) < (N : Int)) = true := by simp; omega
          have j2 : decide ((k : Int) < (M : Int)) = false := by simp; omega
          have jb1 : k < N := by omega
          have jb2 : ¬ k < M := by omega
          clear hr hq he key
          go_wp2
          go_ret
          exact ⟨rfl, hB⟩
        · have b2 : decide ((N : Int) > (M : Int)) = false := by simp; omega
          obtain rfl : 0 = r := by rw [← he, Lib.compareInt, if_neg h1, if_neg h2]
          have j1 : decide ((k : Int) < (N : Int)) = false := by simp; omega
          clear hr hq he key
          go_wp2
          go_ret
          exact ⟨rfl, hB⟩

end Go.Proofs.YtdapnemcdgjeeaaGreatDoor
