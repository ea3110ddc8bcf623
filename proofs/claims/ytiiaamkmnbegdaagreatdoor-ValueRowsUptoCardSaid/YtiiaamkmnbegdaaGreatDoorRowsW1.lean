/- Walks: PrintRow of the program. -/
import Derived.Test.YtiiaamkmnbegdaaGreatDoorRowsP
import Derived.Test.YtiiaamkmnbegdaaGreatDoorVals
import Derived.Test.YtiiaamkmnbegdaaGreatDoorStrs
namespace Go.Proofs.YtiiaamkmnbegdaaGreatDoor
set_option maxRecDepth 100000
set_option linter.unusedVariables false
set_option linter.unusedSimpArgs false
open Go.RowKit

theorem below_grownR {w w' : World} (h : Below w.heap.size w w') : w.grownBy w' none := ⟨h.os, h.tape, h.output, h.size, fun k hk _ => h.block k hk⟩
theorem joinc_any (ws : List (List UInt8)) (p : Option Addr) (c B : Nat) (w : World) (hrow : w.ownsRow B 9 1 (.slice p ws.length c) ws.length (strC ws)) (hn : ws.length ≤ 1048576) (hl : (Lib.join ws [44]).length ≤ 140737488355328) :
    Calls Tryz.prog 12 #[.slice p ws.length c, .string ⟨#[44]⟩] w fun e w' => e = .returned (.string (bs (Lib.join ws [44]))) ∧ Below w.heap.size w w' := by
  by_cases h0 : ws = []
  · subst h0
    refine (Tryz.strings_Join_none _ _ _ w).mono fun e w' ⟨he, hw⟩ => ⟨he, by rw [hw]; exact Below.refl _ _⟩
  · have hpos : 0 < ws.length := List.length_pos_iff.2 h0
    obtain ⟨g, cap, hf, hcap, hlt⟩ := hrow.form hpos
    simp only [Value.slice.injEq, true_and] at hf
    obtain ⟨rfl, rfl⟩ := hf
    have hcc : ws.length ≤ c := by
      rcases hrow.2 with ⟨hv, _⟩ | ⟨g', cap', cur, hv, _, _, hnc, _⟩
      · simp at hv
      · simp at hv; omega
    have hcells : ∀ (j : Nat) x, (ws.map bs)[j]? = some x → w.cell? ⟨g, 0 + j, none⟩ = some (.string x) := by
      intro j x hj
      rw [List.getElem?_map] at hj
      obtain ⟨t, ht, rfl⟩ := Option.map_eq_some_iff.1 hj
      have hjl : j < ws.length := (List.getElem?_eq_some_iff.1 ht).1
      rw [Nat.zero_add]
      refine (hrow.cellAt j (by omega)).trans ?_
      simp [strC, ht]
    have hm : (ws.map bs).map (fun x : ByteArray => x.data.toList) = ws := by
      rw [List.map_map]
      conv => rhs; rw [← List.map_id ws]
      exact List.map_congr_left fun t _ => rfl
    have key := Tryz.strings_Join g 0 c (ws.map bs) ⟨#[44]⟩ w hcells hlt (by simp; omega) (by simpa using hcc) (by rw [hm]; exact hl)
    rw [List.length_map] at key
    refine key.mono fun e w' ⟨he, hb⟩ => ⟨?_, hb⟩
    rw [he, hm]
    rfl


theorem prow_bad (p : Option Addr) (N c : Nat) (vs : List Val.V) (w : World) (hA : ValsAt w p N vs) (hN : N ≤ 1048576) (h : vcheck vs ≠ 0) :
    Calls Tryz.prog 4 #[.slice p N c] w fun e w' => e = .returned (.tuple #[.string ⟨#[]⟩, .int .i64 (vcheck vs : Int)]) ∧ Below w.heap.size w w' := by
  have b1 : ((vcheck vs : Int) != 0) = true := by simp; omega
  clear h
  go_enter Tryz.func4, Tryz.ntmps4
  go_wp2_with (go_at_call 10; refine (vcheck_any p N c vs _ hA hN).mono ?_; rintro e w1 ⟨rfl, hb1⟩)
  go_ret2
  exact ⟨rfl, hb1⟩

theorem prow_good (p : Option Addr) (N c : Nat) (vs : List Val.V) (w : World) (hA : ValsAt w p N vs) (hN : N ≤ 1048576) (h : vcheck vs = 0) (hI : ∀ v ∈ vs, v.text.length ≤ 1048576 ∧ -9223372036854775808 ≤ v.int ∧ v.int ≤ 9223372036854775807) (hL : Lits w) :
    Calls Tryz.prog 4 #[.slice p N c] w fun e w' => e = .returned (.tuple #[.string (bs (Lib.join (Val.litsOf vs) [44])), .int .i64 0]) ∧ Below w.heap.size w w' := by
  have hlen := hA.1
  replace hI := Lib.hid hI
  replace hlen := Lib.hid hlen
  have h' : (vcheck vs : Int) = 0 := by omega
  replace h' := Lib.hid h'
  clear h
  go_enter Tryz.func4, Tryz.ntmps4
  go_wp2_with (go_at_call 10; refine (vcheck_any p N c vs _ hA hN).mono ?_; rintro e w1 ⟨rfl, hb1⟩; rw [h'.out])
  go_loopw [5, 17] (fun vo iv wr => ∃ (po : Option Addr) (i co : Nat) (ws : List (List UInt8)), vo = .slice po i co ∧ iv = .int .i64 (i : Int) ∧ i ≤ N ∧ wr.ownsRow w.heap.size 9 1 (.slice po i co) i (strC ws) ∧ Hid (ws = Val.litsOf (vs.take i)) ∧ Below w.heap.size w wr) (fun _ iv _ => N - (intOf iv).toNat)
  case atStart => exact ⟨none, 0, 0, [], rfl, by go_num, by omega, World.ownsRow_nil _ _ _ _, Lib.hid rfl, hb1⟩
  case round =>
    obtain ⟨po, i, co, ws, rfl, rfl, hi, hrow, hws, hB⟩ := hrel
    have hLr := hL.below hB
    by_cases hlt : i < N
    · obtain ⟨v, hv⟩ : ∃ v, vs[i]? = some v := ⟨_, List.getElem?_eq_getElem (by rw [hlen.out]; exact hlt)⟩
      have hvi := hI.out v (List.mem_of_getElem? hv)
      rcases (hA.below hB).2 with h0 | ⟨b, off, rfl, hbl, hcell⟩
      · rw [h0] at hv; simp at hv
      · obtain ⟨c0, c1, c2⟩ := hcell i v hv
        have hsn := Val.litsOf_snoc hv
        obtain ⟨kd, n, tx⟩ := v
        obtain ⟨t, rfl⟩ : ∃ t : ByteArray, tx = t.data.toList := ⟨bs tx, rfl⟩
        rw [bs_of] at c2
        simp only at c0 c1 c2 hvi
        have hts : t.size ≤ 1048576 := hvi.1
        have hn0 := hvi.2.1
        have hn1 := hvi.2.2
        obtain ⟨⟨y, E⟩, hpr⟩ : ∃ q, Val.print ⟨kd, n, t.data.toList⟩ = q := ⟨_, rfl⟩
        rw [hpr, ← hws.out] at hsn
        have b1 : w.heap.size ≤ wr.heap.size := hB.size
        have hlB : decide ((i : Int) < (N : Int)) = true := by simp; omega
        replace hpr := Lib.hid hpr
        replace hsn := Lib.hid hsn
        clear hv hcell hvi
        have hi1 : (i + 1) * 16 ≤ 140737488355328 := by omega
        go_wp2_with (first
          | (go_at_call 11; refine (vprint_is kd n t _ hpr hts hn0 hn1 (hLr.alloc _)).mono ?_; rintro e w2 ⟨rfl, hb2⟩; have hB1 := (hB.alloc b1 _).trans (hb2.mono (by simp; omega)); have hrow1 := (hrow.alloc _).kept (below_grownR hb2) (Classical.em _))
          | (at_builtin; go_must (refine wpList_push rfl _ _ 37 rfl w.heap.size 9 Tryz.underlying37 str_info rfl (by decide) _ _ _ rfl hrow1 _ rfl rfl (one_str _) hi1 (by decide) hB1.size ?_); rintro _ w3 hown' hb3 ⟨g', cap', rfl⟩ _))
        go_roundw
        case rel =>
          refine ⟨some ⟨g', 0, none⟩, i + 1, cap', ws ++ [y], rfl, by go_num, by omega, ?_, Lib.hid hsn.out.symm, hB1.trans hb3⟩
          rw [strC_snoc]; simpa using hown'
        case measure => simp [intOf]; omega
    · have hiN : i = N := by omega
      subst hiN
      have hlB : decide ((i : Int) < (i : Int)) = false := by simp
      have hall : ws = Val.litsOf vs := by
        have := hws.out
        rwa [List.take_of_length_le (by rw [hlen.out]; omega)] at this
      have hwl : ws.length = i := by rw [hall, Val.litsOf, List.length_map]; exact hlen.out
      have hjl := Val.joinB_len ws 1000 44 (by
        intro x hx
        rw [hall] at hx
        obtain ⟨v, hv, rfl⟩ := List.mem_map.1 hx
        exact Val.print_short v (hI.out v hv).2.1 (hI.out v hv).2.2)
      have hjl2 : (Lib.join ws [44]).length ≤ 140737488355328 := by
        refine Nat.le_trans hjl ?_
        rw [hwl]
        have : i * 1001 ≤ 1048576 * 1001 := Nat.mul_le_mul_right _ hN
        omega
      subst hwl
      replace hall := Lib.hid hall
      clear hjl hws
      go_wp2_with (go_at_call 12; refine (joinc_any ws po co _ _ hrow hN hjl2).mono ?_; rintro e w1 ⟨rfl, hb1⟩)
      go_ret2
      exact ⟨by rw [← hall.out]; rfl, hB.trans (hb1.mono hB.size)⟩

end Go.Proofs.YtiiaamkmnbegdaaGreatDoor
