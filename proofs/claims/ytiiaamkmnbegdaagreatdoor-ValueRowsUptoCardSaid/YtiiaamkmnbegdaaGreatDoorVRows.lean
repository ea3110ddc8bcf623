/- Walks: the law ValueRows. -/
import Derived.Test.YtiiaamkmnbegdaaGreatDoorRowsW2
import Derived.Test.YtiiaamkmnbegdaaGreatDoorRowsW3
import Derived.Test.YtiiaamkmnbegdaaGreatDoorVCopy
namespace Go.Proofs.YtiiaamkmnbegdaaGreatDoor
set_option maxRecDepth 100000
set_option linter.unusedVariables false
set_option linter.unusedSimpArgs false
open Go.RowKit

theorem coll_info : (Tryz.prog.info? 25).map (fun i => (i.zero, i.size, i.bytes)) = some (some (.int .i64 0), 1, 8) := by kernel_rfl
theorem one_coll (n : Int) : ∀ u ∈ (#[Value.int .i64 n] : Array Value).toList, u.oneCell' = true := by intro u hu; simp at hu; subst hu; rfl
/-- the cells of collations -/
def collC (l : List Int) : List Value := l.map fun c => .int .i64 c
theorem collC_snoc (l : List Int) (c : Int) : collC (l ++ [c]) = collC l ++ [.int .i64 c] := by simp [collC]
theorem collsAt_own {w : World} {B N c : Nat} {p : Option Addr} {L : List Int} (h : w.ownsRow B 25 1 (.slice p N c) N (collC L)) (hl : L.length = N) : CollsAt w p N L := by
  refine ⟨hl, ?_⟩
  by_cases h0 : N = 0
  · left; exact List.eq_nil_of_length_eq_zero (by omega)
  · right
    obtain ⟨g, cap, hf, _, hlt⟩ := h.form (by omega)
    simp only [Value.slice.injEq, true_and] at hf
    obtain ⟨rfl, rfl⟩ := hf
    refine ⟨g, 0, rfl, hlt, fun k v hk => ?_⟩
    have hkl : k < N := by rw [← hl]; exact (List.getElem?_eq_some_iff.1 hk).1
    rw [Nat.zero_add]
    refine (h.cellAt k (by omega)).trans ?_
    simp [collC, hk]

theorem prow_any (p : Option Addr) (N c : Nat) (vs : List Val.V) (w : World) (hA : ValsAt w p N vs) (hN : N ≤ 1048576) (hI : ∀ v ∈ vs, v.text.length ≤ 1048576 ∧ -9223372036854775808 ≤ v.int ∧ v.int ≤ 9223372036854775807) (hL : Lits w) (Y : ByteArray) (E : Nat) (hY : Hid (bs (Val.printRow vs (vcheck vs)).1 = Y ∧ (Val.printRow vs (vcheck vs)).2 = E)) :
    Calls Tryz.prog 4 #[.slice p N c] w fun e w' => e = .returned (.tuple #[.string Y, .int .i64 (E : Int)]) ∧ Below w.heap.size w w' := by
  obtain ⟨h1, h2⟩ := hY.out
  by_cases h : vcheck vs = 0
  · rw [h] at h1 h2
    simp only [Val.printRow, if_true] at h1 h2
    subst h1 h2
    exact prow_good p N c vs w hA hN h hI hL
  · simp only [Val.printRow, if_neg h] at h1 h2
    subst h1 h2
    exact prow_bad p N c vs w hA hN h
theorem rrow_any (p : Option Addr) (N c : Nat) (vs : List Val.V) (w : World) (hA : ValsAt w p N vs) (hN : N ≤ 1048576) (hI : ∀ v ∈ vs, v.text.length ≤ 1048576 ∧ -9223372036854775808 ≤ v.int ∧ v.int ≤ 9223372036854775807) (hL : Lits w) (Y : ByteArray) (E : Nat) (hY : Hid (bs (Val.printRow vs (vcheck vs)).1 = Y ∧ (Val.printRow vs (vcheck vs)).2 = E)) :
    Calls Tryz.prog 6 #[.slice p N c] w fun e w' => e = .returned (.tuple #[.string Y, .int .i64 (E : Int)]) ∧ Below w.heap.size w w' := by
  obtain ⟨h1, h2⟩ := hY.out
  by_cases h : vcheck vs = 0
  · rw [h] at h1 h2
    simp only [Val.printRow, if_true] at h1 h2
    subst h1 h2
    exact rrow_good p N c vs w hA hN h hI hL
  · simp only [Val.printRow, if_neg h] at h1 h2
    subst h1 h2
    exact rrow_bad p N c vs w hA hN h

set_option maxHeartbeats 2000000 in
theorem value_rows (p : Option Addr) (N ca : Nat) (q : Option Addr) (M cb : Nat) (s : Option Addr) (L cc : Nat) (va vb : List Val.V) (cs : List Int) (w : World) (hA : ValsAt w p N va) (hA' : ValsAt w q M vb) (hC : CollsAt w s L cs) (hN : N ≤ 1048576) (hM : M ≤ 1048576) (hLl : L ≤ 1048576)
    (hTa : ∀ v ∈ va, v.text.length ≤ 1048576 ∧ -9223372036854775808 ≤ v.int ∧ v.int ≤ 9223372036854775807) (hTb : ∀ v ∈ vb, v.text.length ≤ 1048576) (hL : Lits w) :
    Calls Tryz.prog 3 #[.slice p N ca, .slice q M cb, .slice s L cc] w fun e w' => e = .returned (.bool true) ∧ Below w.heap.size w w' := by
  have hlen := hC.1
  replace hlen := Lib.hid hlen
  obtain ⟨Y, hY⟩ : ∃ Y, bs (Val.printRow va (vcheck va)).1 = Y := ⟨_, rfl⟩
  obtain ⟨E, hE⟩ : ∃ E, (Val.printRow va (vcheck va)).2 = E := ⟨_, rfl⟩
  obtain ⟨r, hr⟩ : ∃ r, Val.rowsFrom cs 0 va vb = r := ⟨_, rfl⟩
  have hYE := Lib.hid (And.intro hY hE)
  replace hr := Lib.hid hr
  have hla := hA.1
  replace hla := Lib.hid hla
  replace hTa := Lib.hid hTa
  replace hTb := Lib.hid hTb
  clear hY hE
  go_enter Tryz.func3, Tryz.ntmps3
  go_wp2
  go_loopw [7, 8] (fun vo iv wr => ∃ (po : Option Addr) (i co : Nat) (ks : List Int), vo = .slice po i co ∧ iv = .int .i64 (i : Int) ∧ i ≤ L ∧ wr.ownsRow w.heap.size 25 1 (.slice po i co) i (collC ks) ∧ Hid (ks = cs.take i) ∧ Below w.heap.size w wr) (fun _ iv _ => L - (intOf iv).toNat)
  case atStart => exact ⟨none, 0, 0, [], rfl, by go_num, by omega, World.ownsRow_nil _ _ _ _, Lib.hid rfl, Below.refl _ _⟩
  case round =>
    obtain ⟨po, i, co, ks, rfl, rfl, hi, hrow, hks, hB⟩ := hrel
    by_cases hlt : i < L
    · have hlB : decide ((i : Int) < (L : Int)) = true := by simp; omega
      rcases colls_at (k := i) (hC.below hB) with ⟨hn, _⟩ | ⟨_, b, off, rfl, c0⟩
      · exact absurd hlt hn
      obtain ⟨C, hCC⟩ : ∃ C, cs.getD i 0 = C := ⟨_, rfl⟩
      rw [hCC] at c0
      have hsn : cs.take (i + 1) = ks ++ [C] := by
        have hl : i < cs.length := by rw [hlen.out]; exact hlt
        rw [List.take_add_one, hks.out, List.getElem?_eq_getElem hl]
        have : cs[i] = C := by rw [← hCC]; simp [List.getD, List.getElem?_eq_getElem hl]
        simp [this]
      replace hsn := Lib.hid hsn
      replace hCC := Lib.hid hCC
      have i0 : (0 : Int) ≤ (i : Int) := by omega
      have i1 : (i : Int) < (L : Int) := by omega
      have hi1 : (i + 1) * 8 ≤ 140737488355328 := by omega
      go_wp2_with (at_builtin; go_must (refine wpList_push rfl _ _ 24 rfl w.heap.size 25 Tryz.underlying24 coll_info rfl (by decide) _ _ _ rfl hrow _ rfl rfl (one_coll _) hi1 (by decide) hB.size ?_); rintro _ w2 hown' hb2 ⟨g', cap', rfl⟩ _)
      go_roundw
      case rel =>
        refine ⟨some ⟨g', 0, none⟩, i + 1, cap', ks ++ [C], rfl, by go_num, by omega, ?_, Lib.hid hsn.out.symm, hB.trans hb2⟩
        rw [collC_snoc]; simpa using hown'
      case measure => simp [intOf]; omega
    · have hiN : i = L := by omega
      subst hiN
      have hlB : decide ((i : Int) < (i : Int)) = false := by simp
      have hall : ks = cs := by
        have := hks.out
        rwa [List.take_of_length_le (by rw [hlen.out]; omega)] at this
      subst hall
      have hCo : CollsAt wr po i ks := collsAt_own hrow hlen.out
      have hAr := hA.below hB
      have hAr' := hA'.below hB
      have hLr := hL.below hB
      go_wp2_with (first
        | (go_at_call 5; refine (rcopy_any p N ca va _ hAr hN).mono ?_; rintro e w2 ⟨p2, c2, rfl, hown2, hb2⟩)
        | (go_at_call 4; refine (prow_any p2 N c2 va _ (valsAt_own hown2 hla.out) hN hTa.out (hLr.below hb2) Y E hYE).mono ?_; rintro e w3 ⟨rfl, hb3⟩; have hb23 := hb2.trans (hb3.mono hb2.size))
        | (go_at_call 6; refine (rrow_any p N ca va _ (hAr.below hb23) hN hTa.out (hLr.below hb23) Y E hYE).mono ?_; rintro e w4 ⟨rfl, hb4⟩; have hb24 := hb23.trans (hb4.mono hb23.size))
        | (go_at_call 7; refine (head2_any _ (hLr.below hb24)).mono ?_; rintro e w5 ⟨rfl, hb5⟩; have hb25 := hb24.trans (hb5.mono hb24.size))
        | (go_at_call 8; refine (vrows_any p N ca q M cb po i co va vb ks _ (hAr.below hb25) (hAr'.below hb25) (hCo.below hb25) hN hM hLl (fun v hv => (hTa.out v hv).1) hTb.out r hr).mono ?_; rintro e w6 ⟨rfl, hb6⟩; have hb26 := hb25.trans (hb6.mono hb25.size))
        | (go_at_call 9; refine (rrows_any p N ca q M cb po i co va vb ks _ (hAr.below hb26) (hAr'.below hb26) (hCo.below hb26) hN hM hLl (fun v hv => (hTa.out v hv).1) hTb.out r hr).mono ?_; rintro e w7 ⟨rfl, hb7⟩; have hb27 := hb26.trans (hb7.mono hb26.size)))
      go_ret
      exact ⟨rfl, hB.trans (hb27.mono hB.size)⟩

end Go.Proofs.YtiiaamkmnbegdaaGreatDoor
