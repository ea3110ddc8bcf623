/- Walks: rows put together (Compound, package sorter and the reference's). -/
import Derived.Test.YtdapnemcdgjeeaaGreatDoorCat
import Derived.Test.YtdapnemcdgjeeaaGreatDoorSame
set_option maxRecDepth 100000
set_option linter.unusedVariables false
set_option linter.unusedSimpArgs false
namespace Go.Proofs.YtdapnemcdgjeeaaGreatDoor
open Go.RowKit

/-- rows put together -/
def compV (c : Int) (a b : List (List Val.V)) : List (List Val.V) :=
  if c = 2 then a ++ b else if c = 1 then Sets.dd (a ++ b) else if c = 3 then Sets.dd (keepV b true a) else if c = 4 then Sets.dd (keepV b false a) else []
def compE (c : Int) : Int := if c = 2 ∨ c = 1 ∨ c = 3 ∨ c = 4 then 0 else 2
/-- what putting together answers -/
def TwoP (rows : List (List Val.V)) (E : Int) (w : World) (e : Ending) (w' : World) : Prop :=
  ∃ q c, e = .returned (.tuple #[.slice q rows.length c, .int .i64 E]) ∧ RowsAt w' q rows.length rows ∧ Below w.heap.size w w'
theorem RowsB.app {a b : List (List Val.V)} (ha : RowsB a) (hb : RowsB b) (hl : a.length + b.length ≤ 8388608) : RowsB (a ++ b) := ⟨by rw [List.length_append]; exact hl, fun r hr => (List.mem_append.1 hr).elim (ha.2 r) (hb.2 r)⟩
theorem RowsI.app {a b : List (List Val.V)} (ha : RowsI a) (hb : RowsI b) : RowsI (a ++ b) := fun r hr => (List.mem_append.1 hr).elim (ha r) (hb r)

set_option maxHeartbeats 4000000 in
theorem scompound_is (T : Lib.PrintTabs) (cn : Int) (p : Option Addr) (N c : Nat) (q : Option Addr) (M c' : Nat) (ra rb : List (List Val.V)) (w : World) (hA : RowsAt w p N ra) (hA' : RowsAt w q M rb) (hB1 : RowsB ra) (hB2 : RowsB rb) (hN : N ≤ 1048576) (hM : M ≤ 1048576) (hI1 : RowsI ra) (hI2 : RowsI rb) (hT : Tabs T w) :
    Calls Tryz.prog 32 #[.int .i64 cn, .slice p N c, .slice q M c'] w (TwoP (compV cn ra rb) (compE cn) w) := by
  have hBab : RowsB (ra ++ rb) := hB1.app hB2 (by rw [hA.1, hA'.1]; omega)
  have hIab : RowsI (ra ++ rb) := hI1.app hI2
  have hlab : (ra ++ rb).length = N + M := by rw [List.length_append, hA.1, hA'.1]
  replace hBab := Lib.hid hBab
  replace hIab := Lib.hid hIab
  replace hlab := Lib.hid hlab
  replace hB1 := Lib.hid hB1
  replace hB2 := Lib.hid hB2
  replace hI1 := Lib.hid hI1
  replace hI2 := Lib.hid hI2
  replace hT := Lib.hid hT
  have hb0 := (Below.refl w.heap.size w).alloc (Nat.le_refl _) (.cells #[.slice p N c] 22)
  -- WAYS
  by_cases c2 : cn = 2
  · have hv : compV cn ra rb = ra ++ rb := by rw [compV, if_pos c2]
    have hE : compE cn = 0 := by rw [compE, if_pos (by omega)]
    subst c2
    rw [hv, hE]
    clear hv hE
    go_enter Tryz.func32, Tryz.ntmps32
    go_wp2_with (first
      | (go_at_call 56; refine (smarks_is T q M c' rb _ (hA'.below hb0) hB2.out hI2.out (hT.out.below hb0)).mono ?_; rintro e w1 ⟨mb, mn, D, rfl, hmap, hmet, _, hb1⟩; replace hmet := Lib.hid hmet; have k0 : w1.cell? ⟨w.heap.size, 0, none⟩ = some (.slice p N c) := (hb1.cell (p := ⟨w.heap.size, 0, none⟩) (by simp)).trans (cell_of_row _ _ _ _ _ _ (heap_new w _)); have k1 : (w1.alloc (.cells #[.map (some mb)] 98)).cell? ⟨w.heap.size, 0, none⟩ = some (.slice p N c) := Lib.cell?_alloc_some _ k0; have hw1 : Below w.heap.size w w1 := hb0.trans (hb1.mono (by simp)); have hw2 : Below w.heap.size w (w1.alloc (.cells #[.map (some mb)] 98)) := hw1.alloc hw1.size _)
      | (go_at_call 58; go_must (refine (concat_is p N c q M c' ra rb (w1.heap.size + 1) _ (hA.below (hw2.alloc (Nat.le_trans hw1.size (by simp)) _)) (hA'.below (hw2.alloc (Nat.le_trans hw1.size (by simp)) _)) hN hM (cell_of_row _ _ _ _ _ _ (heap_new2 w1 _ _)) (cell_of_row _ _ _ _ _ _ (heap_new2 w1 _ _)) (by simp)).mono ?_); rintro e w3 ⟨q3, c3, rfl, ho3, hb3⟩; have hw3 := (hw2.alloc (Nat.le_trans hw1.size (by simp)) (.cells #[.slice p N c, .slice q M c'] 22)).trans (hb3.mono (by simp; have := hw1.size; omega)))
      | (go_at_call 35; refine (copies_is q3 (N + M) c3 (ra ++ rb) w3 ho3.rows hBab.out).mono ?_; rintro e w4 ⟨q4, c4, rfl, ho4, hb4⟩))
    go_ret2
    exact ⟨q4, c4, by rw [hlab.out]; rfl, by rw [hlab.out]; exact ho4.rows, hw3.trans (hb4.mono hw3.size)⟩
  by_cases c1 : cn = 1
  · have hv : compV cn ra rb = Sets.dd (ra ++ rb) := by rw [compV, if_neg c2, if_pos c1]
    have hE : compE cn = 0 := by rw [compE, if_pos (by omega)]
    subst c1
    rw [hv, hE]
    clear hv hE
    go_enter Tryz.func32, Tryz.ntmps32
    go_wp2_with (first
      | (go_at_call 56; refine (smarks_is T q M c' rb _ (hA'.below hb0) hB2.out hI2.out (hT.out.below hb0)).mono ?_; rintro e w1 ⟨mb, mn, D, rfl, hmap, hmet, _, hb1⟩; replace hmet := Lib.hid hmet; have k0 : w1.cell? ⟨w.heap.size, 0, none⟩ = some (.slice p N c) := (hb1.cell (p := ⟨w.heap.size, 0, none⟩) (by simp)).trans (cell_of_row _ _ _ _ _ _ (heap_new w _)); have k1 : (w1.alloc (.cells #[.map (some mb)] 98)).cell? ⟨w.heap.size, 0, none⟩ = some (.slice p N c) := Lib.cell?_alloc_some _ k0; have hw1 : Below w.heap.size w w1 := hb0.trans (hb1.mono (by simp)); have hw2 : Below w.heap.size w (w1.alloc (.cells #[.map (some mb)] 98)) := hw1.alloc hw1.size _)
      | (go_at_call 58; go_must (refine (concat_is p N c q M c' ra rb (w1.heap.size + 1) _ (hA.below (hw2.alloc (Nat.le_trans hw1.size (by simp)) _)) (hA'.below (hw2.alloc (Nat.le_trans hw1.size (by simp)) _)) hN hM (cell_of_row _ _ _ _ _ _ (heap_new2 w1 _ _)) (cell_of_row _ _ _ _ _ _ (heap_new2 w1 _ _)) (by simp)).mono ?_); rintro e w3 ⟨q3, c3, rfl, ho3, hb3⟩; have hw3 := (hw2.alloc (Nat.le_trans hw1.size (by simp)) (.cells #[.slice p N c, .slice q M c'] 22)).trans (hb3.mono (by simp; have := hw1.size; omega)))
      | (go_at_call 31; refine (sdistinct_is T q3 (N + M) c3 (ra ++ rb) w3 ho3.rows hBab.out hIab.out (hT.out.below hw3)).mono ?_; rintro e w4 ⟨q4, c4, rfl, ho4, hb4⟩))
    go_ret2
    exact ⟨q4, c4, rfl, ho4.rows, hw3.trans (hb4.mono hw3.size)⟩
  by_cases c3 : cn = 3
  · have hv : compV cn ra rb = Sets.dd (keepV rb true ra) := by rw [compV, if_neg c2, if_neg c1, if_pos c3]
    have hE : compE cn = 0 := by rw [compE, if_pos (by omega)]
    subst c3
    rw [hv, hE]
    clear hv hE
    go_enter Tryz.func32, Tryz.ntmps32
    go_wp2_with (first
      | (go_at_call 56; refine (smarks_is T q M c' rb _ (hA'.below hb0) hB2.out hI2.out (hT.out.below hb0)).mono ?_; rintro e w1 ⟨mb, mn, D, rfl, hmap, hmet, _, hb1⟩; replace hmet := Lib.hid hmet; have k0 : w1.cell? ⟨w.heap.size, 0, none⟩ = some (.slice p N c) := (hb1.cell (p := ⟨w.heap.size, 0, none⟩) (by simp)).trans (cell_of_row _ _ _ _ _ _ (heap_new w _)); have k1 : (w1.alloc (.cells #[.map (some mb)] 98)).cell? ⟨w.heap.size, 0, none⟩ = some (.slice p N c) := Lib.cell?_alloc_some _ k0; have hw1 : Below w.heap.size w w1 := hb0.trans (hb1.mono (by simp)); have hw2 : Below w.heap.size w (w1.alloc (.cells #[.map (some mb)] 98)) := hw1.alloc hw1.size _)
      | (go_at_call 57; go_must (refine (skeep_is T true p N c ra rb w.heap.size w1.heap.size mb mn D _ (hA.below hw2) hB1.out hI1.out (hT.out.below hw2) k1 (cell_of_row _ _ _ _ _ _ (heap_new w1 _)) (by simp) (hmap.alloc _) hmet.out).mono ?_); rintro e w4 ⟨q4, c4, rfl, ho4, hb4⟩))
    go_ret2
    exact ⟨q4, c4, rfl, ho4.rows, hw2.trans (hb4.mono hw2.size)⟩
  by_cases c4 : cn = 4
  · have hv : compV cn ra rb = Sets.dd (keepV rb false ra) := by rw [compV, if_neg c2, if_neg c1, if_neg c3, if_pos c4]
    have hE : compE cn = 0 := by rw [compE, if_pos (by omega)]
    subst c4
    rw [hv, hE]
    clear hv hE
    go_enter Tryz.func32, Tryz.ntmps32
    go_wp2_with (first
      | (go_at_call 56; refine (smarks_is T q M c' rb _ (hA'.below hb0) hB2.out hI2.out (hT.out.below hb0)).mono ?_; rintro e w1 ⟨mb, mn, D, rfl, hmap, hmet, _, hb1⟩; replace hmet := Lib.hid hmet; have k0 : w1.cell? ⟨w.heap.size, 0, none⟩ = some (.slice p N c) := (hb1.cell (p := ⟨w.heap.size, 0, none⟩) (by simp)).trans (cell_of_row _ _ _ _ _ _ (heap_new w _)); have k1 : (w1.alloc (.cells #[.map (some mb)] 98)).cell? ⟨w.heap.size, 0, none⟩ = some (.slice p N c) := Lib.cell?_alloc_some _ k0; have hw1 : Below w.heap.size w w1 := hb0.trans (hb1.mono (by simp)); have hw2 : Below w.heap.size w (w1.alloc (.cells #[.map (some mb)] 98)) := hw1.alloc hw1.size _)
      | (go_at_call 57; go_must (refine (skeep_is T false p N c ra rb w.heap.size w1.heap.size mb mn D _ (hA.below hw2) hB1.out hI1.out (hT.out.below hw2) k1 (cell_of_row _ _ _ _ _ _ (heap_new w1 _)) (by simp) (hmap.alloc _) hmet.out).mono ?_); rintro e w4 ⟨q4, c4, rfl, ho4, hb4⟩))
    go_ret2
    exact ⟨q4, c4, rfl, ho4.rows, hw2.trans (hb4.mono hw2.size)⟩
  have hv : compV cn ra rb = [] := by rw [compV, if_neg c2, if_neg c1, if_neg c3, if_neg c4]
  have hE : compE cn = 2 := by rw [compE, if_neg (by omega)]
  have e1 : (cn == 1) = false := by simp; omega
  have e2 : (cn == 2) = false := by simp; omega
  have e3 : (cn == 3) = false := by simp; omega
  have e4 : (cn == 4) = false := by simp; omega
  rw [hv, hE]
  clear hv hE c1 c2 c3 c4
  go_enter Tryz.func32, Tryz.ntmps32
  go_wp2_with (go_at_call 56; refine (smarks_is T q M c' rb _ (hA'.below hb0) hB2.out hI2.out (hT.out.below hb0)).mono ?_; rintro e w1 ⟨mb, mn, D, rfl, hmap, hmet, _, hb1⟩; replace hmet := Lib.hid hmet; have k0 : w1.cell? ⟨w.heap.size, 0, none⟩ = some (.slice p N c) := (hb1.cell (p := ⟨w.heap.size, 0, none⟩) (by simp)).trans (cell_of_row _ _ _ _ _ _ (heap_new w _)); have k1 : (w1.alloc (.cells #[.map (some mb)] 98)).cell? ⟨w.heap.size, 0, none⟩ = some (.slice p N c) := Lib.cell?_alloc_some _ k0; have hw1 : Below w.heap.size w w1 := hb0.trans (hb1.mono (by simp)); have hw2 : Below w.heap.size w (w1.alloc (.cells #[.map (some mb)] 98)) := hw1.alloc hw1.size _)
  go_ret2
  exact ⟨none, 0, rfl, ⟨rfl, .inl rfl⟩, hw2⟩
end Go.Proofs.YtdapnemcdgjeeaaGreatDoor
