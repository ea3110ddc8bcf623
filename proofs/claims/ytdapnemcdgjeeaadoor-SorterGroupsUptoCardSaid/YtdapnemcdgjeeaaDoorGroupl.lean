/- The law SorterGroups: Groups of both sides. -/
import Derived.Test.YtdapnemcdgjeeaaDoorRgr2
import Derived.Test.YtdapnemcdgjeeaaDoorKeepsl
import Derived.Test.YtdapnemcdgjeeaaDoorOpenRows
set_option maxRecDepth 100000
set_option linter.unusedVariables false
set_option linter.unusedSimpArgs false
namespace Go.Proofs.YtdapnemcdgjeeaaDoor
open Go.RowKit
open Go.ChangeShapes Go.WideShapes Go.ChangeAt Go.Deep
open Go.Proofs.YtdapnemcdgjeeaaDoor.Ord (mayRow)

/-- a slice that came in: its length is within its capacity -/
theorem open_slok {H : Type} {enc : TypeId × Value → H} {W : World} {q : Option Addr} {N c : Nat} {d : DataW H} {ps : List MemPlace} (hd : DataW.Trod enc Tryd.prog W 0 (fun _ => true) true 22 (.slice q N c) d ps) : SlOk q N c := by
  obtain ⟨n, hn⟩ := hd
  rcases open_slice Tryd.underlying22 hn with ⟨hc, _⟩ | ⟨a, len, cap, m, k, D, Pl, hc, _, hl, hm, hmm, hx, hall⟩
  · simp [Value.cells] at hc
    obtain ⟨rfl, rfl, rfl⟩ := hc
    exact ⟨Nat.le_refl _, fun _ => rfl⟩
  · simp [Value.cells] at hc
    obtain ⟨rfl, rfl, rfl⟩ := hc
    exact ⟨hl, fun h => by cases h⟩

set_option maxHeartbeats 4000000 in
theorem sorter_groups (T : Lib.PrintTabs) (p : Option Addr) (N c : Nat) (width : Int) (rows : List (List Val.V)) (w : World) (hR : RowsAt w p N rows) (hsl : SlOk p N c) (hB : RowsB rows) (hI : RowsI rows) (hT : Tabs T w) :
    Calls Tryd.prog 5 #[.slice p N c, .int .i64 width] w fun e w' => e = .returned (.bool true) ∧ Below w.heap.size w w' := by
  cases hm : mayRows rows with
  | false =>
    replace hB := Lib.hid hB
    replace hI := Lib.hid hI
    replace hT := Lib.hid hT
    replace hm := Lib.hid hm
    go_enter Tryd.func5, Tryd.ntmps5
    go_wp2_with (first
      | (go_at_call 9; refine (head_any T _ hT.out).mono ?_; rintro e w1 ⟨rfl, hb1⟩)
      | (go_at_call 15; refine (mayRows_is p N c rows _ (hR.below hb1) hB.out false hm).mono ?_; rintro e w2 ⟨rfl, hb2⟩))
    go_ret
    exact ⟨rfl, hb1.trans (hb2.mono hb1.size)⟩
  | true =>
    have hM := mayRows_all hm
    have hfl := groups_flat width rows
    obtain ⟨gs, hgs⟩ : ∃ gs, groupsV width rows = gs := ⟨_, rfl⟩
    rw [hgs] at hfl
    have hflb : RowsB gs.flatten := by rw [hfl]; exact sort_b hB
    have hfll : gs.flatten.length = N := by rw [hfl, sort_len, hR.1]
    have hne : ∀ g ∈ gs, g ≠ [] := by rw [← hgs]; exact groups_ne width rows
    have hgl : gs.length ≤ N := by
      rw [← hgs, ← hR.1]
      exact Nat.le_trans (Stb.runs_len _ _ _).1 (by rw [sort_len]; exact Nat.le_refl _)
    have hN : N ≤ 8388608 := by rw [← hR.1]; exact hB.1
    have hgb : ∀ g ∈ gs, RowsB g := fun g hg => ⟨by have := (List.sublist_flatten_of_mem hg).length_le; have := hflb.1; omega, fun r hr => hflb.2 r ((List.sublist_flatten_of_mem hg).subset hr)⟩
    replace hB := Lib.hid hB
    replace hI := Lib.hid hI
    replace hT := Lib.hid hT
    replace hm := Lib.hid hm
    replace hM := Lib.hid hM
    replace hgs := Lib.hid hgs
    replace hgb := Lib.hid hgb
    clear hfl hflb hfll hne
    go_enter Tryd.func5, Tryd.ntmps5
    go_wp2_with (first
      | (go_at_call 9; refine (head_any T _ hT.out).mono ?_; rintro e w1 ⟨rfl, hb1⟩)
      | (go_at_call 15; refine (mayRows_is p N c rows _ (hR.below hb1) hB.out true hm).mono ?_; rintro e w2 ⟨rfl, hb2'⟩; have hb2 := hb1.trans (hb2'.mono hb1.size))
      | (go_at_call 16; have hs3 := sgroups_is T p N c rows width _ (hR.below hb2) hB.out hI.out hM.out (hT.out.below hb2); rw [hgs.out] at hs3; refine hs3.mono ?_; clear hs3; rintro e w3 ⟨q3, n3, c3, rfl, hG3, hb3'⟩; have hb3 := hb2.trans (hb3'.mono hb2.size))
      | (go_at_call 17; have hs4 := rgroups_is p N c rows width _ (hR.below hb3) hsl hB.out hM.out; rw [hgs.out] at hs4; refine hs4.mono ?_; clear hs4; rintro e w4 ⟨q4, n4, c4, rfl, hG4, hb4'⟩; have hb4 := hb3.trans (hb4'.mono hb3.size); have hG34 := hG3.below hb4'; obtain rfl : n4 = n3 := hG4.1.symm.trans hG3.1; have hn4 : n4 ≤ 8388608 := (by rw [← hG4.1]; omega)))
    replace hgl := Lib.hid hgl
    clear hR hG3
    go_loopw [7] (fun iv wr => ∃ i : Nat, iv = .int .i64 (i : Int) ∧ i ≤ n4 ∧ Below w4.heap.size w4 wr) (fun iv _ => n4 - (intOf iv).toNat)
    case atStart => exact ⟨0, by go_num, by omega, Below.refl _ _⟩
    case round =>
      obtain ⟨i, rfl, hi, hb⟩ := hrel
      by_cases hlt : i < n4
      · have hlB : decide ((i : Int) < (n4 : Int)) = true := by simp; omega
        obtain ⟨g, b1, off1, r1, k1, hg1, rfl, hl1, x1, hR1⟩ := (hG34.below hb).at hlt
        obtain ⟨g', b2, off2, r2, k2, hg2, rfl, hl2, x2, hR2⟩ := (hG4.below hb).at hlt
        obtain rfl : g' = g := Option.some.inj (hg2.symm.trans hg1)
        have hgB := hgb.out g' (List.mem_of_getElem? hg1)
        have H0 : wr.cell? ⟨b1, off1 + i, none⟩ = some (.slice r1 g'.length k1) ∧ wr.cell? ⟨b2, off2 + i, none⟩ = some (.slice r2 g'.length k2) ∧ Below wr.heap.size wr wr := ⟨x1, x2, Below.refl _ _⟩
        have i0 : (0 : Int) ≤ (i : Int) := by omega
        have i1 : (i : Int) < (n4 : Int) := by omega
        clear x1 x2 hg1 hg2
        go_wp2_with fail
        go_region_held3 (fun W => W.cell? ⟨b1, off1 + i, none⟩ = some (.slice r1 g'.length k1) ∧ W.cell? ⟨b2, off2 + i, none⟩ = some (.slice r2 g'.length k2) ∧ Below wr.heap.size wr W) (first | assumption | exact keepC2 hl1 hl2 (by assumption) (by assumption) | exact keepC20 (by assumption)) (first
          | (go_at_call 10; have hSS := (by assumption : _ ∧ _ ∧ Below wr.heap.size wr _); refine (sameRows_is r1 g'.length k1 r2 g'.length k2 g' g' _ (hR1.below hSS.2.2) (hR2.below hSS.2.2) hgB true (Lib.hid (by simp))).mono ?_; rintro e w5 ⟨rfl, hb5⟩; clear hSS))
        rename_i hS7
        have hb7 := hS7.2.2
        clear hS7
        go_wp2
        go_roundw
        case rel => exact ⟨i + 1, by go_num, by omega, hb.trans (hb7.mono hb.size)⟩
        case measure => simp [intOf]; omega
      · have hlB : decide ((i : Int) < (n4 : Int)) = false := by simp; omega
        go_wp2
        go_ret
        exact ⟨rfl, hb4.trans (hb.mono hb4.size)⟩
end Go.Proofs.YtdapnemcdgjeeaaDoor
