/- Walks: the law CalcLogic where both values may be. -/
import Derived.Test.YthdpgekjbkpomaaGreatDoorCalcTw
import Derived.Test.YthdpgekjbkpomaaGreatDoorCalcN
import Derived.Test.YthdpgekjbkpomaaGreatDoorBlkK
set_option maxRecDepth 100000
set_option linter.unusedVariables false
set_option linter.unusedSimpArgs false
namespace Go.Proofs.YthdpgekjbkpomaaGreatDoor
open Go.RowKit

theorem one_at (k n : Int) (t : ByteArray) (T : TypeId) (W : World) : ValsAt (W.alloc (.cells #[.int .i64 k, .int .i64 n, .string t] T)) (some ⟨W.heap.size, 0, none⟩) 1 [⟨k, n, t.data.toList⟩] := by
  refine ⟨rfl, .inr ⟨W.heap.size, 0, rfl, by simp, fun i v hi => ?_⟩⟩
  obtain ⟨x0, x1, x2, _, _, _⟩ := cells3 (Below.refl (W.alloc (.cells #[.int .i64 k, .int .i64 n, .string t] T)).heap.size (W.alloc (.cells #[.int .i64 k, .int .i64 n, .string t] T))) (by simp) (heap_new W (.cells #[.int .i64 k, .int .i64 n, .string t] T))
  cases i with
  | zero =>
    simp only [List.getElem?_cons_zero, Option.some.injEq] at hi
    subst hi
    rw [bs_of]
    exact ⟨x0, x1, x2⟩
  | succ i => simp at hi
set_option maxHeartbeats 16000000 in
theorem calc_logic_at (ka na : Int) (ta : ByteArray) (kb nb : Int) (tb : ByteArray) (c : Int) (w : World) (hL : Lits w) (ha : Val.inr na) (hb : Val.inr nb) (hm1 : Val.may ⟨ka, na, ta.data.toList⟩ = true) (hm2 : Val.may ⟨kb, nb, tb.data.toList⟩ = true) (k1 n1 k2 n2 k3 n3 k4 n4 k5 n5 k6 n6 k7 n7 k8 n8 k9 n9 k10 n10 k11 n11 k12 n12 k13 n13 k14 n14 : Int) (i1 : Val.inr n1) (i2 : Val.inr n2) (i3 : Val.inr n3) (i4 : Val.inr n4) (i5 : Val.inr n5) (i6 : Val.inr n6) (i7 : Val.inr n7) (i8 : Val.inr n8) (i9 : Val.inr n9) (i10 : Val.inr n10) (i11 : Val.inr n11) (i12 : Val.inr n12) (i13 : Val.inr n13) (i14 : Val.inr n14) (hand : Hid (Val.two 21 ⟨ka, na, ta.data.toList⟩ ⟨kb, nb, tb.data.toList⟩ c = ⟨k1, n1, (⟨#[]⟩ : ByteArray).data.toList⟩)) (hand2 : Hid (Val.two 21 ⟨kb, nb, tb.data.toList⟩ ⟨ka, na, ta.data.toList⟩ c = ⟨k1, n1, (⟨#[]⟩ : ByteArray).data.toList⟩)) (hor : Hid (Val.two 22 ⟨ka, na, ta.data.toList⟩ ⟨kb, nb, tb.data.toList⟩ c = ⟨k2, n2, (⟨#[]⟩ : ByteArray).data.toList⟩)) (hor2 : Hid (Val.two 22 ⟨kb, nb, tb.data.toList⟩ ⟨ka, na, ta.data.toList⟩ c = ⟨k2, n2, (⟨#[]⟩ : ByteArray).data.toList⟩)) (hna : Hid (Val.nott ⟨ka, na, ta.data.toList⟩ = ⟨k3, n3, (⟨#[]⟩ : ByteArray).data.toList⟩)) (hnna : Hid (Val.nott ⟨k3, n3, (⟨#[]⟩ : ByteArray).data.toList⟩ = ⟨k4, n4, (⟨#[]⟩ : ByteArray).data.toList⟩)) (hn3 : Hid (Val.nott ⟨k4, n4, (⟨#[]⟩ : ByteArray).data.toList⟩ = ⟨k3, n3, (⟨#[]⟩ : ByteArray).data.toList⟩)) (hnb : Hid (Val.nott ⟨kb, nb, tb.data.toList⟩ = ⟨k5, n5, (⟨#[]⟩ : ByteArray).data.toList⟩)) (hnand : Hid (Val.nott ⟨k1, n1, (⟨#[]⟩ : ByteArray).data.toList⟩ = ⟨k6, n6, (⟨#[]⟩ : ByteArray).data.toList⟩)) (hdm : Hid (Val.two 22 ⟨k3, n3, (⟨#[]⟩ : ByteArray).data.toList⟩ ⟨k5, n5, (⟨#[]⟩ : ByteArray).data.toList⟩ c = ⟨k6, n6, (⟨#[]⟩ : ByteArray).data.toList⟩)) (hne : Hid (Val.two 14 ⟨ka, na, ta.data.toList⟩ ⟨kb, nb, tb.data.toList⟩ c = ⟨k7, n7, (⟨#[]⟩ : ByteArray).data.toList⟩)) (heq : Hid (Val.two 13 ⟨ka, na, ta.data.toList⟩ ⟨kb, nb, tb.data.toList⟩ c = ⟨k8, n8, (⟨#[]⟩ : ByteArray).data.toList⟩)) (hneq : Hid (Val.nott ⟨k8, n8, (⟨#[]⟩ : ByteArray).data.toList⟩ = ⟨k7, n7, (⟨#[]⟩ : ByteArray).data.toList⟩)) (hge : Hid (Val.two 18 ⟨ka, na, ta.data.toList⟩ ⟨kb, nb, tb.data.toList⟩ c = ⟨k9, n9, (⟨#[]⟩ : ByteArray).data.toList⟩)) (hlt : Hid (Val.two 15 ⟨ka, na, ta.data.toList⟩ ⟨kb, nb, tb.data.toList⟩ c = ⟨k10, n10, (⟨#[]⟩ : ByteArray).data.toList⟩)) (hgelt : Hid (Val.nott ⟨k10, n10, (⟨#[]⟩ : ByteArray).data.toList⟩ = ⟨k9, n9, (⟨#[]⟩ : ByteArray).data.toList⟩)) (hgt : Hid (Val.two 17 ⟨ka, na, ta.data.toList⟩ ⟨kb, nb, tb.data.toList⟩ c = ⟨k11, n11, (⟨#[]⟩ : ByteArray).data.toList⟩)) (hle : Hid (Val.two 16 ⟨ka, na, ta.data.toList⟩ ⟨kb, nb, tb.data.toList⟩ c = ⟨k12, n12, (⟨#[]⟩ : ByteArray).data.toList⟩)) (hgtle : Hid (Val.nott ⟨k12, n12, (⟨#[]⟩ : ByteArray).data.toList⟩ = ⟨k11, n11, (⟨#[]⟩ : ByteArray).data.toList⟩)) (hisn : Hid (Val.two 20 ⟨ka, na, ta.data.toList⟩ ⟨kb, nb, tb.data.toList⟩ c = ⟨k13, n13, (⟨#[]⟩ : ByteArray).data.toList⟩)) (his : Hid (Val.two 19 ⟨ka, na, ta.data.toList⟩ ⟨kb, nb, tb.data.toList⟩ c = ⟨k14, n14, (⟨#[]⟩ : ByteArray).data.toList⟩)) (hisnis : Hid (Val.nott ⟨k14, n14, (⟨#[]⟩ : ByteArray).data.toList⟩ = ⟨k13, n13, (⟨#[]⟩ : ByteArray).data.toList⟩)) (hgt2 : Hid (Val.two 17 ⟨kb, nb, tb.data.toList⟩ ⟨ka, na, ta.data.toList⟩ c = ⟨k10, n10, (⟨#[]⟩ : ByteArray).data.toList⟩)) (hin : Hid (Val.isIn ⟨ka, na, ta.data.toList⟩ [⟨kb, nb, tb.data.toList⟩] c = ⟨k8, n8, []⟩)) :
    Calls Tryz.prog 7 #[.agg #[.int .i64 ka, .int .i64 na, .string ta], .agg #[.int .i64 kb, .int .i64 nb, .string tb], .int .i64 c] w fun e w' => e = .returned (.bool true) ∧ Below w.heap.size w w' := by
  have hS := startK2 (start2 w (.int .i64 ka) (.int .i64 na) (.string ta) (.int .i64 kb) (.int .i64 nb) (.string tb) 24 24)
  replace ha := Lib.hid ha
  replace hb := Lib.hid hb
  replace hm1 := Lib.hid hm1
  replace hm2 := Lib.hid hm2
  replace i1 := Lib.hid i1
  replace i2 := Lib.hid i2
  replace i3 := Lib.hid i3
  replace i4 := Lib.hid i4
  replace i5 := Lib.hid i5
  replace i6 := Lib.hid i6
  replace i7 := Lib.hid i7
  replace i8 := Lib.hid i8
  replace i9 := Lib.hid i9
  replace i10 := Lib.hid i10
  replace i11 := Lib.hid i11
  replace i12 := Lib.hid i12
  replace i13 := Lib.hid i13
  replace i14 := Lib.hid i14
  go_enter Tryz.func7, Tryz.ntmps7
  go_wp2_with (first
    | (go_at_call 13; refine (head3_any _ (hL.below (belowK2 hS))).mono ?_; rintro e w1 ⟨rfl, hb1⟩; have hS1 := keepK2 hS hb1; obtain ⟨ka00, ka01, ka02, ka03, ka10, ka11, ka12, ka13, kas, kaB⟩ := id hS1)
    | (go_at_call 25; first
      | (have hq9 := hS2; refine (rmay_is _ _ _ _ hm2).mono ?_; rintro e w3 ⟨rfl, hb3⟩; have hS3 := keepK2 hS2 hb3)
      | (refine (rmay_is _ _ _ _ hm1).mono ?_; rintro e w2 ⟨rfl, hb2⟩; have hS2 := keepK2 hS1 hb2; obtain ⟨kb00, kb01, kb02, kb03, kb10, kb11, kb12, kb13, kbs, kbB⟩ := id hS2)))
  clear hS hS1 hS2 ka00 ka01 ka02 ka03 ka10 ka11 ka12 ka13 kb00 kb01 kb02 kb03 kb10 kb11 kb12 kb13 kas kaB kbs kbB
  have hK6 := keepKd2 hS3
  obtain ⟨W1, hW1⟩ : ∃ W, w3.drew = W := ⟨_, rfl⟩
  rw [hW1] at hK6
  obtain ⟨B, hBB⟩ : ∃ B, W1.heap.size = B := ⟨_, rfl⟩
  have hbb : ∀ {W : World}, Below B W1 W → Below W1.heap.size W1 W := by rw [hBB]; exact fun h => h
  obtain ⟨kc00, kc01, kc02, kc03, kc10, kc11, kc12, kc13, kcs, kcB⟩ := id hK6
  rw [hBB] at kc03 kc13
  have r1 : Below B W1 W1 := Below.refl _ _
  have rB : B ≤ W1.heap.size := by omega
  replace hBB := Lib.hid hBB
  refine wp_region_held_drew (S := (fun W => B ≤ W.heap.size ∧ Below B W1 W)) (by kernel_rfl) ?_ (fun hH8 => ?_)
  · rw [hW1]; exact ⟨rB, r1⟩
  rw [hW1] at hH8 ⊢
  clear hW1 hS3
  refine wpAnyH_take (i := 0) (v := ?_) rfl (by kernel_rfl) (by kernel_rfl) (by kernel_rfl) (fun _ _ _ h => h) (Or.inl ⟨by rfl, ?_⟩) hH8 ?_
  rotate_left
  · (intro W hSw; (try dsimp only at hSw); have z0 := (hSw.2.cell (p := ⟨w.heap.size, 0, none⟩) kc03).trans kc00; have z1 := (hSw.2.cell (p := ⟨w.heap.size, 1, none⟩) kc03).trans kc01; have z2 := (hSw.2.cell (p := ⟨w.heap.size, 2, none⟩) kc03).trans kc02; go_simp; try with_reducible rfl)
  try simp only [List.getElem_toArray, List.getElem_cons_zero, List.getElem_cons_succ, Act.put, List.setIfInBounds_toArray, List.set_cons_zero, List.set_cons_succ]
  refine wpAnyH_take (i := 1) (v := ?_) rfl (by kernel_rfl) (by kernel_rfl) (by kernel_rfl) (fun _ _ _ h => h) (Or.inl ⟨by rfl, ?_⟩) hH8 ?_
  rotate_left
  · (intro W hSw; (try dsimp only at hSw); have z0 := (hSw.2.cell (p := ⟨w.heap.size + 1, 0, none⟩) kc13).trans kc10; have z1 := (hSw.2.cell (p := ⟨w.heap.size + 1, 1, none⟩) kc13).trans kc11; have z2 := (hSw.2.cell (p := ⟨w.heap.size + 1, 2, none⟩) kc13).trans kc12; go_simp; try with_reducible rfl)
  try simp only [List.getElem_toArray, List.getElem_cons_zero, List.getElem_cons_succ, Act.put, List.setIfInBounds_toArray, List.set_cons_zero, List.set_cons_succ]
  refine wpAnyH_take (i := 2) (v := ?_) rfl (by kernel_rfl) (by kernel_rfl) (by kernel_rfl) (fun _ _ _ h => h) (Or.inl ⟨by rfl, ?_⟩) hH8 ?_
  rotate_left
  · (intro W hSw; (try dsimp only at hSw); go_simp; try with_reducible rfl)
  try simp only [List.getElem_toArray, List.getElem_cons_zero, List.getElem_cons_succ, Act.put, List.setIfInBounds_toArray, List.set_cons_zero, List.set_cons_succ]
  refine wpAnyH_take (i := 4) (v := ?_) rfl (by kernel_rfl) (by kernel_rfl) (by kernel_rfl) (fun _ _ _ h => h) (Or.inl ⟨by rfl, ?_⟩) hH8 ?_
  rotate_left
  · (intro W hSw; (try dsimp only at hSw); have z0 := (hSw.2.cell (p := ⟨w.heap.size, 0, none⟩) kc03).trans kc00; have z1 := (hSw.2.cell (p := ⟨w.heap.size, 1, none⟩) kc03).trans kc01; have z2 := (hSw.2.cell (p := ⟨w.heap.size, 2, none⟩) kc03).trans kc02; go_simp; try with_reducible rfl)
  try simp only [List.getElem_toArray, List.getElem_cons_zero, List.getElem_cons_succ, Act.put, List.setIfInBounds_toArray, List.set_cons_zero, List.set_cons_succ]
  refine wpAnyH_take (i := 5) (v := ?_) rfl (by kernel_rfl) (by kernel_rfl) (by kernel_rfl) (fun _ _ _ h => h) (Or.inl ⟨by rfl, ?_⟩) hH8 ?_
  rotate_left
  · (intro W hSw; (try dsimp only at hSw); have z0 := (hSw.2.cell (p := ⟨w.heap.size + 1, 0, none⟩) kc13).trans kc10; have z1 := (hSw.2.cell (p := ⟨w.heap.size + 1, 1, none⟩) kc13).trans kc11; have z2 := (hSw.2.cell (p := ⟨w.heap.size + 1, 2, none⟩) kc13).trans kc12; go_simp; try with_reducible rfl)
  try simp only [List.getElem_toArray, List.getElem_cons_zero, List.getElem_cons_succ, Act.put, List.setIfInBounds_toArray, List.set_cons_zero, List.set_cons_succ]
  refine wpAnyH_take (i := 6) (v := ?_) rfl (by kernel_rfl) (by kernel_rfl) (by kernel_rfl) (fun _ _ _ h => h) (Or.inl ⟨by rfl, ?_⟩) hH8 ?_
  rotate_left
  · (intro W hSw; (try dsimp only at hSw); go_simp; try with_reducible rfl)
  try simp only [List.getElem_toArray, List.getElem_cons_zero, List.getElem_cons_succ, Act.put, List.setIfInBounds_toArray, List.set_cons_zero, List.set_cons_succ]
  refine' (fun (key : ∀ (g8 g9 : Nat) (W : World), ((B ≤ W.heap.size ∧ Below B W1 W) ∧ OutAt W g8 0 0 ∧ OutAt W g9 0 0 ∧ g8 ≠ g9 ∧ B ≤ g8 ∧ B ≤ g9) → (_ : Nat → Nat → World → Prop) g8 g9 W) => ?main) ?keyp
  case main =>
    refine wpAnyH_ready (rs := [3, 8, 9]) (by kernel_rfl) (by simp) ?_
    refine AllReadyH.cons rfl (fun K hK => ?_) (AllReadyH.cons rfl (fun K hK => ?_) (AllReadyH.cons rfl (fun K hK => ?_) AllReadyH.nil))
    · go_simp
      go_at_call 26; refine (two_is 21 ka na ta kb nb tb c _ (hL.below (belowK2 (keepK2 hK6 (hbb hH8.2)))) ha.out hb.out _ _ ⟨#[]⟩ hand).mono ?_; rintro e W1q3 ⟨rfl, hb1⟩
      have hG1 : B ≤ W1q3.heap.size ∧ Below B W1 W1q3 := ⟨Nat.le_trans hH8.1 hb1.size, below_step hH8.2 hH8.1 hb1⟩
      refine hK.out _ _ ?_ (fun _ => ?_)
      · exact hG1
      clear hK K
      try simp only [List.getElem_toArray, List.getElem_cons_zero, List.getElem_cons_succ, Act.put, List.setIfInBounds_toArray, List.set_cons_zero, List.set_cons_succ]
      refine wpAnyH_ready (rs := [7, 8, 9]) (by kernel_rfl) (by simp) ?_
      refine AllReadyH.cons rfl (fun K hK => ?_) (AllReadyH.cons rfl (fun K hK => ?_) (AllReadyH.cons rfl (fun K hK => ?_) AllReadyH.nil))
      · go_simp
        go_at_call 26; refine (two_is 22 ka na ta kb nb tb c _ (hL.below (belowK2 (keepK2 hK6 (hbb hG1.2)))) ha.out hb.out _ _ ⟨#[]⟩ hor).mono ?_; rintro e W2q7 ⟨rfl, hb2⟩
        have hG2 : B ≤ W2q7.heap.size ∧ Below B W1 W2q7 := ⟨Nat.le_trans hG1.1 hb2.size, below_step hG1.2 hG1.1 hb2⟩
        refine hK.out _ _ ?_ (fun _ => ?_)
        · exact hG2
        clear hK K
        try simp only [List.getElem_toArray, List.getElem_cons_zero, List.getElem_cons_succ, Act.put, List.setIfInBounds_toArray, List.set_cons_zero, List.set_cons_succ]
        refine wpAnyH_ready (rs := [8, 9]) (by kernel_rfl) (by simp) ?_
        refine AllReadyH.cons rfl (fun K hK => ?_) (AllReadyH.cons rfl (fun K hK => ?_) AllReadyH.nil)
        · go_simp
          have hI8 := OutAt.new W2q7 0 0
          have hG3 : B ≤ (W2q7.alloc (.cells #[.int .i64 0, .int .i64 0, .string ⟨#[]⟩] 24)).heap.size ∧ Below B W1 (W2q7.alloc (.cells #[.int .i64 0, .int .i64 0, .string ⟨#[]⟩] 24)) := ⟨Nat.le_trans hG2.1 (by simp), hG2.2.alloc hG2.1 _⟩
          refine hK.out _ _ ?_ (fun _ => ?_)
          · exact hG3
          clear hK K
          try simp only [List.getElem_toArray, List.getElem_cons_zero, List.getElem_cons_succ, Act.put, List.setIfInBounds_toArray, List.set_cons_zero, List.set_cons_succ]
          obtain ⟨g8, hg8⟩ : ∃ g, W2q7.heap.size = g := ⟨_, rfl⟩
          have hg8B : B ≤ g8 := by rw [← hg8]; exact hG2.1
          rw [hg8] at hI8 ⊢
          obtain ⟨W3q8, hWn⟩ : ∃ W, W2q7.alloc (.cells #[.int .i64 0, .int .i64 0, .string ⟨#[]⟩] 24) = W := ⟨_, rfl⟩
          rw [hWn] at hI8 hG3 ⊢
          clear hWn
          refine wpAnyH_ready (rs := [9]) (by kernel_rfl) (by simp) ?_
          refine AllReadyH.cons rfl (fun K hK => ?_) AllReadyH.nil
          · go_simp
            have hI9 := OutAt.new W3q8 0 0
            have hG4 : B ≤ (W3q8.alloc (.cells #[.int .i64 0, .int .i64 0, .string ⟨#[]⟩] 24)).heap.size ∧ Below B W1 (W3q8.alloc (.cells #[.int .i64 0, .int .i64 0, .string ⟨#[]⟩] 24)) := ⟨Nat.le_trans hG3.1 (by simp), hG3.2.alloc hG3.1 _⟩
            have hlt := hI8.2.2.2.2.2.2
            replace hI8 := hI8.below (below_new W3q8 (.cells #[.int .i64 0, .int .i64 0, .string ⟨#[]⟩] 24))
            refine hK.out _ _ ?_ (fun _ => ?_)
            · exact hG4
            clear hK K
            try simp only [List.getElem_toArray, List.getElem_cons_zero, List.getElem_cons_succ, Act.put, List.setIfInBounds_toArray, List.set_cons_zero, List.set_cons_succ]
            obtain ⟨g9, hg9⟩ : ∃ g, W3q8.heap.size = g := ⟨_, rfl⟩
            have hg9B : B ≤ g9 := by rw [← hg9]; exact hG3.1
            have hne : g8 ≠ g9 := by omega
            rw [hg9] at hI9 ⊢
            obtain ⟨W4q9, hWn⟩ : ∃ W, W3q8.alloc (.cells #[.int .i64 0, .int .i64 0, .string ⟨#[]⟩] 24) = W := ⟨_, rfl⟩
            rw [hWn] at hI9 hG4 hI8 ⊢
            clear hWn
            exact key g8 g9 W4q9 ⟨hG4, hI8, hI9, hne, hg8B, hg9B⟩
        · go_simp
          have hI9 := OutAt.new W2q7 0 0
          have hG3 : B ≤ (W2q7.alloc (.cells #[.int .i64 0, .int .i64 0, .string ⟨#[]⟩] 24)).heap.size ∧ Below B W1 (W2q7.alloc (.cells #[.int .i64 0, .int .i64 0, .string ⟨#[]⟩] 24)) := ⟨Nat.le_trans hG2.1 (by simp), hG2.2.alloc hG2.1 _⟩
          refine hK.out _ _ ?_ (fun _ => ?_)
          · exact hG3
          clear hK K
          try simp only [List.getElem_toArray, List.getElem_cons_zero, List.getElem_cons_succ, Act.put, List.setIfInBounds_toArray, List.set_cons_zero, List.set_cons_succ]
          obtain ⟨g9, hg9⟩ : ∃ g, W2q7.heap.size = g := ⟨_, rfl⟩
          have hg9B : B ≤ g9 := by rw [← hg9]; exact hG2.1
          rw [hg9] at hI9 ⊢
          obtain ⟨W3q9, hWn⟩ : ∃ W, W2q7.alloc (.cells #[.int .i64 0, .int .i64 0, .string ⟨#[]⟩] 24) = W := ⟨_, rfl⟩
          rw [hWn] at hI9 hG3 ⊢
          clear hWn
          refine wpAnyH_ready (rs := [8]) (by kernel_rfl) (by simp) ?_
          refine AllReadyH.cons rfl (fun K hK => ?_) AllReadyH.nil
          · go_simp
            have hI8 := OutAt.new W3q9 0 0
            have hG4 : B ≤ (W3q9.alloc (.cells #[.int .i64 0, .int .i64 0, .string ⟨#[]⟩] 24)).heap.size ∧ Below B W1 (W3q9.alloc (.cells #[.int .i64 0, .int .i64 0, .string ⟨#[]⟩] 24)) := ⟨Nat.le_trans hG3.1 (by simp), hG3.2.alloc hG3.1 _⟩
            have hlt := hI9.2.2.2.2.2.2
            replace hI9 := hI9.below (below_new W3q9 (.cells #[.int .i64 0, .int .i64 0, .string ⟨#[]⟩] 24))
            refine hK.out _ _ ?_ (fun _ => ?_)
            · exact hG4
            clear hK K
            try simp only [List.getElem_toArray, List.getElem_cons_zero, List.getElem_cons_succ, Act.put, List.setIfInBounds_toArray, List.set_cons_zero, List.set_cons_succ]
            obtain ⟨g8, hg8⟩ : ∃ g, W3q9.heap.size = g := ⟨_, rfl⟩
            have hg8B : B ≤ g8 := by rw [← hg8]; exact hG3.1
            have hne : g8 ≠ g9 := by omega
            rw [hg8] at hI8 ⊢
            obtain ⟨W4q8, hWn⟩ : ∃ W, W3q9.alloc (.cells #[.int .i64 0, .int .i64 0, .string ⟨#[]⟩] 24) = W := ⟨_, rfl⟩
            rw [hWn] at hI8 hG4 hI9 ⊢
            clear hWn
            exact key g8 g9 W4q8 ⟨hG4, hI8, hI9, hne, hg8B, hg9B⟩
      · go_simp
        have hI8 := OutAt.new W1q3 0 0
        have hG2 : B ≤ (W1q3.alloc (.cells #[.int .i64 0, .int .i64 0, .string ⟨#[]⟩] 24)).heap.size ∧ Below B W1 (W1q3.alloc (.cells #[.int .i64 0, .int .i64 0, .string ⟨#[]⟩] 24)) := ⟨Nat.le_trans hG1.1 (by simp), hG1.2.alloc hG1.1 _⟩
        refine hK.out _ _ ?_ (fun _ => ?_)
        · exact hG2
        clear hK K
        try simp only [List.getElem_toArray, List.getElem_cons_zero, List.getElem_cons_succ, Act.put, List.setIfInBounds_toArray, List.set_cons_zero, List.set_cons_succ]
        obtain ⟨g8, hg8⟩ : ∃ g, W1q3.heap.size = g := ⟨_, rfl⟩
        have hg8B : B ≤ g8 := by rw [← hg8]; exact hG1.1
        rw [hg8] at hI8 ⊢
        obtain ⟨W2q8, hWn⟩ : ∃ W, W1q3.alloc (.cells #[.int .i64 0, .int .i64 0, .string ⟨#[]⟩] 24) = W := ⟨_, rfl⟩
        rw [hWn] at hI8 hG2 ⊢
        clear hWn
        refine wpAnyH_ready (rs := [7, 9]) (by kernel_rfl) (by simp) ?_
        refine AllReadyH.cons rfl (fun K hK => ?_) (AllReadyH.cons rfl (fun K hK => ?_) AllReadyH.nil)
        · go_simp
          go_at_call 26; refine (two_is 22 ka na ta kb nb tb c _ (hL.below (belowK2 (keepK2 hK6 (hbb hG2.2)))) ha.out hb.out _ _ ⟨#[]⟩ hor).mono ?_; rintro e W3q7 ⟨rfl, hb3⟩
          have hG3 : B ≤ W3q7.heap.size ∧ Below B W1 W3q7 := ⟨Nat.le_trans hG2.1 hb3.size, below_step hG2.2 hG2.1 hb3⟩
          replace hI8 := hI8.below hb3
          refine hK.out _ _ ?_ (fun _ => ?_)
          · exact hG3
          clear hK K
          try simp only [List.getElem_toArray, List.getElem_cons_zero, List.getElem_cons_succ, Act.put, List.setIfInBounds_toArray, List.set_cons_zero, List.set_cons_succ]
          refine wpAnyH_ready (rs := [9]) (by kernel_rfl) (by simp) ?_
          refine AllReadyH.cons rfl (fun K hK => ?_) AllReadyH.nil
          · go_simp
            have hI9 := OutAt.new W3q7 0 0
            have hG4 : B ≤ (W3q7.alloc (.cells #[.int .i64 0, .int .i64 0, .string ⟨#[]⟩] 24)).heap.size ∧ Below B W1 (W3q7.alloc (.cells #[.int .i64 0, .int .i64 0, .string ⟨#[]⟩] 24)) := ⟨Nat.le_trans hG3.1 (by simp), hG3.2.alloc hG3.1 _⟩
            have hlt := hI8.2.2.2.2.2.2
            replace hI8 := hI8.below (below_new W3q7 (.cells #[.int .i64 0, .int .i64 0, .string ⟨#[]⟩] 24))
            refine hK.out _ _ ?_ (fun _ => ?_)
            · exact hG4
            clear hK K
            try simp only [List.getElem_toArray, List.getElem_cons_zero, List.getElem_cons_succ, Act.put, List.setIfInBounds_toArray, List.set_cons_zero, List.set_cons_succ]
            obtain ⟨g9, hg9⟩ : ∃ g, W3q7.heap.size = g := ⟨_, rfl⟩
            have hg9B : B ≤ g9 := by rw [← hg9]; exact hG3.1
            have hne : g8 ≠ g9 := by omega
            rw [hg9] at hI9 ⊢
            obtain ⟨W4q9, hWn⟩ : ∃ W, W3q7.alloc (.cells #[.int .i64 0, .int .i64 0, .string ⟨#[]⟩] 24) = W := ⟨_, rfl⟩
            rw [hWn] at hI9 hG4 hI8 ⊢
            clear hWn
            exact key g8 g9 W4q9 ⟨hG4, hI8, hI9, hne, hg8B, hg9B⟩
        · go_simp
          have hI9 := OutAt.new W2q8 0 0
          have hG3 : B ≤ (W2q8.alloc (.cells #[.int .i64 0, .int .i64 0, .string ⟨#[]⟩] 24)).heap.size ∧ Below B W1 (W2q8.alloc (.cells #[.int .i64 0, .int .i64 0, .string ⟨#[]⟩] 24)) := ⟨Nat.le_trans hG2.1 (by simp), hG2.2.alloc hG2.1 _⟩
          have hlt := hI8.2.2.2.2.2.2
          replace hI8 := hI8.below (below_new W2q8 (.cells #[.int .i64 0, .int .i64 0, .string ⟨#[]⟩] 24))
          refine hK.out _ _ ?_ (fun _ => ?_)
          · exact hG3
          clear hK K
          try simp only [List.getElem_toArray, List.getElem_cons_zero, List.getElem_cons_succ, Act.put, List.setIfInBounds_toArray, List.set_cons_zero, List.set_cons_succ]
          obtain ⟨g9, hg9⟩ : ∃ g, W2q8.heap.size = g := ⟨_, rfl⟩
          have hg9B : B ≤ g9 := by rw [← hg9]; exact hG2.1
          have hne : g8 ≠ g9 := by omega
          rw [hg9] at hI9 ⊢
          obtain ⟨W3q9, hWn⟩ : ∃ W, W2q8.alloc (.cells #[.int .i64 0, .int .i64 0, .string ⟨#[]⟩] 24) = W := ⟨_, rfl⟩
          rw [hWn] at hI9 hG3 hI8 ⊢
          clear hWn
          refine wpAnyH_ready (rs := [7]) (by kernel_rfl) (by simp) ?_
          refine AllReadyH.cons rfl (fun K hK => ?_) AllReadyH.nil
          · go_simp
            go_at_call 26; refine (two_is 22 ka na ta kb nb tb c _ (hL.below (belowK2 (keepK2 hK6 (hbb hG3.2)))) ha.out hb.out _ _ ⟨#[]⟩ hor).mono ?_; rintro e W4q7 ⟨rfl, hb4⟩
            have hG4 : B ≤ W4q7.heap.size ∧ Below B W1 W4q7 := ⟨Nat.le_trans hG3.1 hb4.size, below_step hG3.2 hG3.1 hb4⟩
            replace hI8 := hI8.below hb4
            replace hI9 := hI9.below hb4
            refine hK.out _ _ ?_ (fun _ => ?_)
            · exact hG4
            clear hK K
            try simp only [List.getElem_toArray, List.getElem_cons_zero, List.getElem_cons_succ, Act.put, List.setIfInBounds_toArray, List.set_cons_zero, List.set_cons_succ]
            exact key g8 g9 W4q7 ⟨hG4, hI8, hI9, hne, hg8B, hg9B⟩
      · go_simp
        have hI9 := OutAt.new W1q3 0 0
        have hG2 : B ≤ (W1q3.alloc (.cells #[.int .i64 0, .int .i64 0, .string ⟨#[]⟩] 24)).heap.size ∧ Below B W1 (W1q3.alloc (.cells #[.int .i64 0, .int .i64 0, .string ⟨#[]⟩] 24)) := ⟨Nat.le_trans hG1.1 (by simp), hG1.2.alloc hG1.1 _⟩
        refine hK.out _ _ ?_ (fun _ => ?_)
        · exact hG2
        clear hK K
        try simp only [List.getElem_toArray, List.getElem_cons_zero, List.getElem_cons_succ, Act.put, List.setIfInBounds_toArray, List.set_cons_zero, List.set_cons_succ]
        obtain ⟨g9, hg9⟩ : ∃ g, W1q3.heap.size = g := ⟨_, rfl⟩
        have hg9B : B ≤ g9 := by rw [← hg9]; exact hG1.1
        rw [hg9] at hI9 ⊢
        obtain ⟨W2q9, hWn⟩ : ∃ W, W1q3.alloc (.cells #[.int .i64 0, .int .i64 0, .string ⟨#[]⟩] 24) = W := ⟨_, rfl⟩
        rw [hWn] at hI9 hG2 ⊢
        clear hWn
        refine wpAnyH_ready (rs := [7, 8]) (by kernel_rfl) (by simp) ?_
        refine AllReadyH.cons rfl (fun K hK => ?_) (AllReadyH.cons rfl (fun K hK => ?_) AllReadyH.nil)
        · go_simp
          go_at_call 26; refine (two_is 22 ka na ta kb nb tb c _ (hL.below (belowK2 (keepK2 hK6 (hbb hG2.2)))) ha.out hb.out _ _ ⟨#[]⟩ hor).mono ?_; rintro e W3q7 ⟨rfl, hb3⟩
          have hG3 : B ≤ W3q7.heap.size ∧ Below B W1 W3q7 := ⟨Nat.le_trans hG2.1 hb3.size, below_step hG2.2 hG2.1 hb3⟩
          replace hI9 := hI9.below hb3
          refine hK.out _ _ ?_ (fun _ => ?_)
          · exact hG3
          clear hK K
          try simp only [List.getElem_toArray, List.getElem_cons_zero, List.getElem_cons_succ, Act.put, List.setIfInBounds_toArray, List.set_cons_zero, List.set_cons_succ]
          refine wpAnyH_ready (rs := [8]) (by kernel_rfl) (by simp) ?_
          refine AllReadyH.cons rfl (fun K hK => ?_) AllReadyH.nil
          · go_simp
            have hI8 := OutAt.new W3q7 0 0
            have hG4 : B ≤ (W3q7.alloc (.cells #[.int .i64 0, .int .i64 0, .string ⟨#[]⟩] 24)).heap.size ∧ Below B W1 (W3q7.alloc (.cells #[.int .i64 0, .int .i64 0, .string ⟨#[]⟩] 24)) := ⟨Nat.le_trans hG3.1 (by simp), hG3.2.alloc hG3.1 _⟩
            have hlt := hI9.2.2.2.2.2.2
            replace hI9 := hI9.below (below_new W3q7 (.cells #[.int .i64 0, .int .i64 0, .string ⟨#[]⟩] 24))
            refine hK.out _ _ ?_ (fun _ => ?_)
            · exact hG4
            clear hK K
            try simp only [List.getElem_toArray, List.getElem_cons_zero, List.getElem_cons_succ, Act.put, List.setIfInBounds_toArray, List.set_cons_zero, List.set_cons_succ]
            obtain ⟨g8, hg8⟩ : ∃ g, W3q7.heap.size = g := ⟨_, rfl⟩
            have hg8B : B ≤ g8 := by rw [← hg8]; exact hG3.1
            have hne : g8 ≠ g9 := by omega
            rw [hg8] at hI8 ⊢
            obtain ⟨W4q8, hWn⟩ : ∃ W, W3q7.alloc (.cells #[.int .i64 0, .int .i64 0, .string ⟨#[]⟩] 24) = W := ⟨_, rfl⟩
            rw [hWn] at hI8 hG4 hI9 ⊢
            clear hWn
            exact key g8 g9 W4q8 ⟨hG4, hI8, hI9, hne, hg8B, hg9B⟩
        · go_simp
          have hI8 := OutAt.new W2q9 0 0
          have hG3 : B ≤ (W2q9.alloc (.cells #[.int .i64 0, .int .i64 0, .string ⟨#[]⟩] 24)).heap.size ∧ Below B W1 (W2q9.alloc (.cells #[.int .i64 0, .int .i64 0, .string ⟨#[]⟩] 24)) := ⟨Nat.le_trans hG2.1 (by simp), hG2.2.alloc hG2.1 _⟩
          have hlt := hI9.2.2.2.2.2.2
          replace hI9 := hI9.below (below_new W2q9 (.cells #[.int .i64 0, .int .i64 0, .string ⟨#[]⟩] 24))
          refine hK.out _ _ ?_ (fun _ => ?_)
          · exact hG3
          clear hK K
          try simp only [List.getElem_toArray, List.getElem_cons_zero, List.getElem_cons_succ, Act.put, List.setIfInBounds_toArray, List.set_cons_zero, List.set_cons_succ]
          obtain ⟨g8, hg8⟩ : ∃ g, W2q9.heap.size = g := ⟨_, rfl⟩
          have hg8B : B ≤ g8 := by rw [← hg8]; exact hG2.1
          have hne : g8 ≠ g9 := by omega
          rw [hg8] at hI8 ⊢
          obtain ⟨W3q8, hWn⟩ : ∃ W, W2q9.alloc (.cells #[.int .i64 0, .int .i64 0, .string ⟨#[]⟩] 24) = W := ⟨_, rfl⟩
          rw [hWn] at hI8 hG3 hI9 ⊢
          clear hWn
          refine wpAnyH_ready (rs := [7]) (by kernel_rfl) (by simp) ?_
          refine AllReadyH.cons rfl (fun K hK => ?_) AllReadyH.nil
          · go_simp
            go_at_call 26; refine (two_is 22 ka na ta kb nb tb c _ (hL.below (belowK2 (keepK2 hK6 (hbb hG3.2)))) ha.out hb.out _ _ ⟨#[]⟩ hor).mono ?_; rintro e W4q7 ⟨rfl, hb4⟩
            have hG4 : B ≤ W4q7.heap.size ∧ Below B W1 W4q7 := ⟨Nat.le_trans hG3.1 hb4.size, below_step hG3.2 hG3.1 hb4⟩
            replace hI8 := hI8.below hb4
            replace hI9 := hI9.below hb4
            refine hK.out _ _ ?_ (fun _ => ?_)
            · exact hG4
            clear hK K
            try simp only [List.getElem_toArray, List.getElem_cons_zero, List.getElem_cons_succ, Act.put, List.setIfInBounds_toArray, List.set_cons_zero, List.set_cons_succ]
            exact key g8 g9 W4q7 ⟨hG4, hI8, hI9, hne, hg8B, hg9B⟩
    · go_simp
      have hI8 := OutAt.new W1 0 0
      have hG1 : B ≤ (W1.alloc (.cells #[.int .i64 0, .int .i64 0, .string ⟨#[]⟩] 24)).heap.size ∧ Below B W1 (W1.alloc (.cells #[.int .i64 0, .int .i64 0, .string ⟨#[]⟩] 24)) := ⟨Nat.le_trans hH8.1 (by simp), hH8.2.alloc hH8.1 _⟩
      refine hK.out _ _ ?_ (fun _ => ?_)
      · exact hG1
      clear hK K
      try simp only [List.getElem_toArray, List.getElem_cons_zero, List.getElem_cons_succ, Act.put, List.setIfInBounds_toArray, List.set_cons_zero, List.set_cons_succ]
      obtain ⟨g8, hg8⟩ : ∃ g, W1.heap.size = g := ⟨_, rfl⟩
      have hg8B : B ≤ g8 := by rw [← hg8]; exact hH8.1
      rw [hg8] at hI8 ⊢
      obtain ⟨W1q8, hWn⟩ : ∃ W, W1.alloc (.cells #[.int .i64 0, .int .i64 0, .string ⟨#[]⟩] 24) = W := ⟨_, rfl⟩
      rw [hWn] at hI8 hG1 ⊢
      clear hWn
      refine wpAnyH_ready (rs := [3, 9]) (by kernel_rfl) (by simp) ?_
      refine AllReadyH.cons rfl (fun K hK => ?_) (AllReadyH.cons rfl (fun K hK => ?_) AllReadyH.nil)
      · go_simp
        go_at_call 26; refine (two_is 21 ka na ta kb nb tb c _ (hL.below (belowK2 (keepK2 hK6 (hbb hG1.2)))) ha.out hb.out _ _ ⟨#[]⟩ hand).mono ?_; rintro e W2q3 ⟨rfl, hb2⟩
        have hG2 : B ≤ W2q3.heap.size ∧ Below B W1 W2q3 := ⟨Nat.le_trans hG1.1 hb2.size, below_step hG1.2 hG1.1 hb2⟩
        replace hI8 := hI8.below hb2
        refine hK.out _ _ ?_ (fun _ => ?_)
        · exact hG2
        clear hK K
        try simp only [List.getElem_toArray, List.getElem_cons_zero, List.getElem_cons_succ, Act.put, List.setIfInBounds_toArray, List.set_cons_zero, List.set_cons_succ]
        refine wpAnyH_ready (rs := [7, 9]) (by kernel_rfl) (by simp) ?_
        refine AllReadyH.cons rfl (fun K hK => ?_) (AllReadyH.cons rfl (fun K hK => ?_) AllReadyH.nil)
        · go_simp
          go_at_call 26; refine (two_is 22 ka na ta kb nb tb c _ (hL.below (belowK2 (keepK2 hK6 (hbb hG2.2)))) ha.out hb.out _ _ ⟨#[]⟩ hor).mono ?_; rintro e W3q7 ⟨rfl, hb3⟩
          have hG3 : B ≤ W3q7.heap.size ∧ Below B W1 W3q7 := ⟨Nat.le_trans hG2.1 hb3.size, below_step hG2.2 hG2.1 hb3⟩
          replace hI8 := hI8.below hb3
          refine hK.out _ _ ?_ (fun _ => ?_)
          · exact hG3
          clear hK K
          try simp only [List.getElem_toArray, List.getElem_cons_zero, List.getElem_cons_succ, Act.put, List.setIfInBounds_toArray, List.set_cons_zero, List.set_cons_succ]
          refine wpAnyH_ready (rs := [9]) (by kernel_rfl) (by simp) ?_
          refine AllReadyH.cons rfl (fun K hK => ?_) AllReadyH.nil
          · go_simp
            have hI9 := OutAt.new W3q7 0 0
            have hG4 : B ≤ (W3q7.alloc (.cells #[.int .i64 0, .int .i64 0, .string ⟨#[]⟩] 24)).heap.size ∧ Below B W1 (W3q7.alloc (.cells #[.int .i64 0, .int .i64 0, .string ⟨#[]⟩] 24)) := ⟨Nat.le_trans hG3.1 (by simp), hG3.2.alloc hG3.1 _⟩
            have hlt := hI8.2.2.2.2.2.2
            replace hI8 := hI8.below (below_new W3q7 (.cells #[.int .i64 0, .int .i64 0, .string ⟨#[]⟩] 24))
            refine hK.out _ _ ?_ (fun _ => ?_)
            · exact hG4
            clear hK K
            try simp only [List.getElem_toArray, List.getElem_cons_zero, List.getElem_cons_succ, Act.put, List.setIfInBounds_toArray, List.set_cons_zero, List.set_cons_succ]
            obtain ⟨g9, hg9⟩ : ∃ g, W3q7.heap.size = g := ⟨_, rfl⟩
            have hg9B : B ≤ g9 := by rw [← hg9]; exact hG3.1
            have hne : g8 ≠ g9 := by omega
            rw [hg9] at hI9 ⊢
            obtain ⟨W4q9, hWn⟩ : ∃ W, W3q7.alloc (.cells #[.int .i64 0, .int .i64 0, .string ⟨#[]⟩] 24) = W := ⟨_, rfl⟩
            rw [hWn] at hI9 hG4 hI8 ⊢
            clear hWn
            exact key g8 g9 W4q9 ⟨hG4, hI8, hI9, hne, hg8B, hg9B⟩
        · go_simp
          have hI9 := OutAt.new W2q3 0 0
          have hG3 : B ≤ (W2q3.alloc (.cells #[.int .i64 0, .int .i64 0, .string ⟨#[]⟩] 24)).heap.size ∧ Below B W1 (W2q3.alloc (.cells #[.int .i64 0, .int .i64 0, .string ⟨#[]⟩] 24)) := ⟨Nat.le_trans hG2.1 (by simp), hG2.2.alloc hG2.1 _⟩
          have hlt := hI8.2.2.2.2.2.2
          replace hI8 := hI8.below (below_new W2q3 (.cells #[.int .i64 0, .int .i64 0, .string ⟨#[]⟩] 24))
          refine hK.out _ _ ?_ (fun _ => ?_)
          · exact hG3
          clear hK K
          try simp only [List.getElem_toArray, List.getElem_cons_zero, List.getElem_cons_succ, Act.put, List.setIfInBounds_toArray, List.set_cons_zero, List.set_cons_succ]
          obtain ⟨g9, hg9⟩ : ∃ g, W2q3.heap.size = g := ⟨_, rfl⟩
          have hg9B : B ≤ g9 := by rw [← hg9]; exact hG2.1
          have hne : g8 ≠ g9 := by omega
          rw [hg9] at hI9 ⊢
          obtain ⟨W3q9, hWn⟩ : ∃ W, W2q3.alloc (.cells #[.int .i64 0, .int .i64 0, .string ⟨#[]⟩] 24) = W := ⟨_, rfl⟩
          rw [hWn] at hI9 hG3 hI8 ⊢
          clear hWn
          refine wpAnyH_ready (rs := [7]) (by kernel_rfl) (by simp) ?_
          refine AllReadyH.cons rfl (fun K hK => ?_) AllReadyH.nil
          · go_simp
            go_at_call 26; refine (two_is 22 ka na ta kb nb tb c _ (hL.below (belowK2 (keepK2 hK6 (hbb hG3.2)))) ha.out hb.out _ _ ⟨#[]⟩ hor).mono ?_; rintro e W4q7 ⟨rfl, hb4⟩
            have hG4 : B ≤ W4q7.heap.size ∧ Below B W1 W4q7 := ⟨Nat.le_trans hG3.1 hb4.size, below_step hG3.2 hG3.1 hb4⟩
            replace hI8 := hI8.below hb4
            replace hI9 := hI9.below hb4
            refine hK.out _ _ ?_ (fun _ => ?_)
            · exact hG4
            clear hK K
            try simp only [List.getElem_toArray, List.getElem_cons_zero, List.getElem_cons_succ, Act.put, List.setIfInBounds_toArray, List.set_cons_zero, List.set_cons_succ]
            exact key g8 g9 W4q7 ⟨hG4, hI8, hI9, hne, hg8B, hg9B⟩
      · go_simp
        have hI9 := OutAt.new W1q8 0 0
        have hG2 : B ≤ (W1q8.alloc (.cells #[.int .i64 0, .int .i64 0, .string ⟨#[]⟩] 24)).heap.size ∧ Below B W1 (W1q8.alloc (.cells #[.int .i64 0, .int .i64 0, .string ⟨#[]⟩] 24)) := ⟨Nat.le_trans hG1.1 (by simp), hG1.2.alloc hG1.1 _⟩
        have hlt := hI8.2.2.2.2.2.2
        replace hI8 := hI8.below (below_new W1q8 (.cells #[.int .i64 0, .int .i64 0, .string ⟨#[]⟩] 24))
        refine hK.out _ _ ?_ (fun _ => ?_)
        · exact hG2
        clear hK K
        try simp only [List.getElem_toArray, List.getElem_cons_zero, List.getElem_cons_succ, Act.put, List.setIfInBounds_toArray, List.set_cons_zero, List.set_cons_succ]
        obtain ⟨g9, hg9⟩ : ∃ g, W1q8.heap.size = g := ⟨_, rfl⟩
        have hg9B : B ≤ g9 := by rw [← hg9]; exact hG1.1
        have hne : g8 ≠ g9 := by omega
        rw [hg9] at hI9 ⊢
        obtain ⟨W2q9, hWn⟩ : ∃ W, W1q8.alloc (.cells #[.int .i64 0, .int .i64 0, .string ⟨#[]⟩] 24) = W := ⟨_, rfl⟩
        rw [hWn] at hI9 hG2 hI8 ⊢
        clear hWn
        refine wpAnyH_ready (rs := [3]) (by kernel_rfl) (by simp) ?_
        refine AllReadyH.cons rfl (fun K hK => ?_) AllReadyH.nil
        · go_simp
          go_at_call 26; refine (two_is 21 ka na ta kb nb tb c _ (hL.below (belowK2 (keepK2 hK6 (hbb hG2.2)))) ha.out hb.out _ _ ⟨#[]⟩ hand).mono ?_; rintro e W3q3 ⟨rfl, hb3⟩
          have hG3 : B ≤ W3q3.heap.size ∧ Below B W1 W3q3 := ⟨Nat.le_trans hG2.1 hb3.size, below_step hG2.2 hG2.1 hb3⟩
          replace hI8 := hI8.below hb3
          replace hI9 := hI9.below hb3
          refine hK.out _ _ ?_ (fun _ => ?_)
          · exact hG3
          clear hK K
          try simp only [List.getElem_toArray, List.getElem_cons_zero, List.getElem_cons_succ, Act.put, List.setIfInBounds_toArray, List.set_cons_zero, List.set_cons_succ]
          refine wpAnyH_ready (rs := [7]) (by kernel_rfl) (by simp) ?_
          refine AllReadyH.cons rfl (fun K hK => ?_) AllReadyH.nil
          · go_simp
            go_at_call 26; refine (two_is 22 ka na ta kb nb tb c _ (hL.below (belowK2 (keepK2 hK6 (hbb hG3.2)))) ha.out hb.out _ _ ⟨#[]⟩ hor).mono ?_; rintro e W4q7 ⟨rfl, hb4⟩
            have hG4 : B ≤ W4q7.heap.size ∧ Below B W1 W4q7 := ⟨Nat.le_trans hG3.1 hb4.size, below_step hG3.2 hG3.1 hb4⟩
            replace hI8 := hI8.below hb4
            replace hI9 := hI9.below hb4
            refine hK.out _ _ ?_ (fun _ => ?_)
            · exact hG4
            clear hK K
            try simp only [List.getElem_toArray, List.getElem_cons_zero, List.getElem_cons_succ, Act.put, List.setIfInBounds_toArray, List.set_cons_zero, List.set_cons_succ]
            exact key g8 g9 W4q7 ⟨hG4, hI8, hI9, hne, hg8B, hg9B⟩
    · go_simp
      have hI9 := OutAt.new W1 0 0
      have hG1 : B ≤ (W1.alloc (.cells #[.int .i64 0, .int .i64 0, .string ⟨#[]⟩] 24)).heap.size ∧ Below B W1 (W1.alloc (.cells #[.int .i64 0, .int .i64 0, .string ⟨#[]⟩] 24)) := ⟨Nat.le_trans hH8.1 (by simp), hH8.2.alloc hH8.1 _⟩
      refine hK.out _ _ ?_ (fun _ => ?_)
      · exact hG1
      clear hK K
      try simp only [List.getElem_toArray, List.getElem_cons_zero, List.getElem_cons_succ, Act.put, List.setIfInBounds_toArray, List.set_cons_zero, List.set_cons_succ]
      obtain ⟨g9, hg9⟩ : ∃ g, W1.heap.size = g := ⟨_, rfl⟩
      have hg9B : B ≤ g9 := by rw [← hg9]; exact hH8.1
      rw [hg9] at hI9 ⊢
      obtain ⟨W1q9, hWn⟩ : ∃ W, W1.alloc (.cells #[.int .i64 0, .int .i64 0, .string ⟨#[]⟩] 24) = W := ⟨_, rfl⟩
      rw [hWn] at hI9 hG1 ⊢
      clear hWn
      refine wpAnyH_ready (rs := [3, 8]) (by kernel_rfl) (by simp) ?_
      refine AllReadyH.cons rfl (fun K hK => ?_) (AllReadyH.cons rfl (fun K hK => ?_) AllReadyH.nil)
      · go_simp
        go_at_call 26; refine (two_is 21 ka na ta kb nb tb c _ (hL.below (belowK2 (keepK2 hK6 (hbb hG1.2)))) ha.out hb.out _ _ ⟨#[]⟩ hand).mono ?_; rintro e W2q3 ⟨rfl, hb2⟩
        have hG2 : B ≤ W2q3.heap.size ∧ Below B W1 W2q3 := ⟨Nat.le_trans hG1.1 hb2.size, below_step hG1.2 hG1.1 hb2⟩
        replace hI9 := hI9.below hb2
        refine hK.out _ _ ?_ (fun _ => ?_)
        · exact hG2
        clear hK K
        try simp only [List.getElem_toArray, List.getElem_cons_zero, List.getElem_cons_succ, Act.put, List.setIfInBounds_toArray, List.set_cons_zero, List.set_cons_succ]
        refine wpAnyH_ready (rs := [7, 8]) (by kernel_rfl) (by simp) ?_
        refine AllReadyH.cons rfl (fun K hK => ?_) (AllReadyH.cons rfl (fun K hK => ?_) AllReadyH.nil)
        · go_simp
          go_at_call 26; refine (two_is 22 ka na ta kb nb tb c _ (hL.below (belowK2 (keepK2 hK6 (hbb hG2.2)))) ha.out hb.out _ _ ⟨#[]⟩ hor).mono ?_; rintro e W3q7 ⟨rfl, hb3⟩
          have hG3 : B ≤ W3q7.heap.size ∧ Below B W1 W3q7 := ⟨Nat.le_trans hG2.1 hb3.size, below_step hG2.2 hG2.1 hb3⟩
          replace hI9 := hI9.below hb3
          refine hK.out _ _ ?_ (fun _ => ?_)
          · exact hG3
          clear hK K
          try simp only [List.getElem_toArray, List.getElem_cons_zero, List.getElem_cons_succ, Act.put, List.setIfInBounds_toArray, List.set_cons_zero, List.set_cons_succ]
          refine wpAnyH_ready (rs := [8]) (by kernel_rfl) (by simp) ?_
          refine AllReadyH.cons rfl (fun K hK => ?_) AllReadyH.nil
          · go_simp
            have hI8 := OutAt.new W3q7 0 0
            have hG4 : B ≤ (W3q7.alloc (.cells #[.int .i64 0, .int .i64 0, .string ⟨#[]⟩] 24)).heap.size ∧ Below B W1 (W3q7.alloc (.cells #[.int .i64 0, .int .i64 0, .string ⟨#[]⟩] 24)) := ⟨Nat.le_trans hG3.1 (by simp), hG3.2.alloc hG3.1 _⟩
            have hlt := hI9.2.2.2.2.2.2
            replace hI9 := hI9.below (below_new W3q7 (.cells #[.int .i64 0, .int .i64 0, .string ⟨#[]⟩] 24))
            refine hK.out _ _ ?_ (fun _ => ?_)
            · exact hG4
            clear hK K
            try simp only [List.getElem_toArray, List.getElem_cons_zero, List.getElem_cons_succ, Act.put, List.setIfInBounds_toArray, List.set_cons_zero, List.set_cons_succ]
            obtain ⟨g8, hg8⟩ : ∃ g, W3q7.heap.size = g := ⟨_, rfl⟩
            have hg8B : B ≤ g8 := by rw [← hg8]; exact hG3.1
            have hne : g8 ≠ g9 := by omega
            rw [hg8] at hI8 ⊢
            obtain ⟨W4q8, hWn⟩ : ∃ W, W3q7.alloc (.cells #[.int .i64 0, .int .i64 0, .string ⟨#[]⟩] 24) = W := ⟨_, rfl⟩
            rw [hWn] at hI8 hG4 hI9 ⊢
            clear hWn
            exact key g8 g9 W4q8 ⟨hG4, hI8, hI9, hne, hg8B, hg9B⟩
        · go_simp
          have hI8 := OutAt.new W2q3 0 0
          have hG3 : B ≤ (W2q3.alloc (.cells #[.int .i64 0, .int .i64 0, .string ⟨#[]⟩] 24)).heap.size ∧ Below B W1 (W2q3.alloc (.cells #[.int .i64 0, .int .i64 0, .string ⟨#[]⟩] 24)) := ⟨Nat.le_trans hG2.1 (by simp), hG2.2.alloc hG2.1 _⟩
          have hlt := hI9.2.2.2.2.2.2
          replace hI9 := hI9.below (below_new W2q3 (.cells #[.int .i64 0, .int .i64 0, .string ⟨#[]⟩] 24))
          refine hK.out _ _ ?_ (fun _ => ?_)
          · exact hG3
          clear hK K
          try simp only [List.getElem_toArray, List.getElem_cons_zero, List.getElem_cons_succ, Act.put, List.setIfInBounds_toArray, List.set_cons_zero, List.set_cons_succ]
          obtain ⟨g8, hg8⟩ : ∃ g, W2q3.heap.size = g := ⟨_, rfl⟩
          have hg8B : B ≤ g8 := by rw [← hg8]; exact hG2.1
          have hne : g8 ≠ g9 := by omega
          rw [hg8] at hI8 ⊢
          obtain ⟨W3q8, hWn⟩ : ∃ W, W2q3.alloc (.cells #[.int .i64 0, .int .i64 0, .string ⟨#[]⟩] 24) = W := ⟨_, rfl⟩
          rw [hWn] at hI8 hG3 hI9 ⊢
          clear hWn
          refine wpAnyH_ready (rs := [7]) (by kernel_rfl) (by simp) ?_
          refine AllReadyH.cons rfl (fun K hK => ?_) AllReadyH.nil
          · go_simp
            go_at_call 26; refine (two_is 22 ka na ta kb nb tb c _ (hL.below (belowK2 (keepK2 hK6 (hbb hG3.2)))) ha.out hb.out _ _ ⟨#[]⟩ hor).mono ?_; rintro e W4q7 ⟨rfl, hb4⟩
            have hG4 : B ≤ W4q7.heap.size ∧ Below B W1 W4q7 := ⟨Nat.le_trans hG3.1 hb4.size, below_step hG3.2 hG3.1 hb4⟩
            replace hI8 := hI8.below hb4
            replace hI9 := hI9.below hb4
            refine hK.out _ _ ?_ (fun _ => ?_)
            · exact hG4
            clear hK K
            try simp only [List.getElem_toArray, List.getElem_cons_zero, List.getElem_cons_succ, Act.put, List.setIfInBounds_toArray, List.set_cons_zero, List.set_cons_succ]
            exact key g8 g9 W4q7 ⟨hG4, hI8, hI9, hne, hg8B, hg9B⟩
      · go_simp
        have hI8 := OutAt.new W1q9 0 0
        have hG2 : B ≤ (W1q9.alloc (.cells #[.int .i64 0, .int .i64 0, .string ⟨#[]⟩] 24)).heap.size ∧ Below B W1 (W1q9.alloc (.cells #[.int .i64 0, .int .i64 0, .string ⟨#[]⟩] 24)) := ⟨Nat.le_trans hG1.1 (by simp), hG1.2.alloc hG1.1 _⟩
        have hlt := hI9.2.2.2.2.2.2
        replace hI9 := hI9.below (below_new W1q9 (.cells #[.int .i64 0, .int .i64 0, .string ⟨#[]⟩] 24))
        refine hK.out _ _ ?_ (fun _ => ?_)
        · exact hG2
        clear hK K
        try simp only [List.getElem_toArray, List.getElem_cons_zero, List.getElem_cons_succ, Act.put, List.setIfInBounds_toArray, List.set_cons_zero, List.set_cons_succ]
        obtain ⟨g8, hg8⟩ : ∃ g, W1q9.heap.size = g := ⟨_, rfl⟩
        have hg8B : B ≤ g8 := by rw [← hg8]; exact hG1.1
        have hne : g8 ≠ g9 := by omega
        rw [hg8] at hI8 ⊢
        obtain ⟨W2q8, hWn⟩ : ∃ W, W1q9.alloc (.cells #[.int .i64 0, .int .i64 0, .string ⟨#[]⟩] 24) = W := ⟨_, rfl⟩
        rw [hWn] at hI8 hG2 hI9 ⊢
        clear hWn
        refine wpAnyH_ready (rs := [3]) (by kernel_rfl) (by simp) ?_
        refine AllReadyH.cons rfl (fun K hK => ?_) AllReadyH.nil
        · go_simp
          go_at_call 26; refine (two_is 21 ka na ta kb nb tb c _ (hL.below (belowK2 (keepK2 hK6 (hbb hG2.2)))) ha.out hb.out _ _ ⟨#[]⟩ hand).mono ?_; rintro e W3q3 ⟨rfl, hb3⟩
          have hG3 : B ≤ W3q3.heap.size ∧ Below B W1 W3q3 := ⟨Nat.le_trans hG2.1 hb3.size, below_step hG2.2 hG2.1 hb3⟩
          replace hI8 := hI8.below hb3
          replace hI9 := hI9.below hb3
          refine hK.out _ _ ?_ (fun _ => ?_)
          · exact hG3
          clear hK K
          try simp only [List.getElem_toArray, List.getElem_cons_zero, List.getElem_cons_succ, Act.put, List.setIfInBounds_toArray, List.set_cons_zero, List.set_cons_succ]
          refine wpAnyH_ready (rs := [7]) (by kernel_rfl) (by simp) ?_
          refine AllReadyH.cons rfl (fun K hK => ?_) AllReadyH.nil
          · go_simp
            go_at_call 26; refine (two_is 22 ka na ta kb nb tb c _ (hL.below (belowK2 (keepK2 hK6 (hbb hG3.2)))) ha.out hb.out _ _ ⟨#[]⟩ hor).mono ?_; rintro e W4q7 ⟨rfl, hb4⟩
            have hG4 : B ≤ W4q7.heap.size ∧ Below B W1 W4q7 := ⟨Nat.le_trans hG3.1 hb4.size, below_step hG3.2 hG3.1 hb4⟩
            replace hI8 := hI8.below hb4
            replace hI9 := hI9.below hb4
            refine hK.out _ _ ?_ (fun _ => ?_)
            · exact hG4
            clear hK K
            try simp only [List.getElem_toArray, List.getElem_cons_zero, List.getElem_cons_succ, Act.put, List.setIfInBounds_toArray, List.set_cons_zero, List.set_cons_succ]
            exact key g8 g9 W4q7 ⟨hG4, hI8, hI9, hne, hg8B, hg9B⟩
  case keyp =>
    intro g8 g9 W2 ⟨hG, hI8, hI9, hne, hg8B, hg9B⟩
    obtain ⟨p0, p1, p2, p3, p4, p5, pz⟩ := id hI8
    refine wpAnyH_ready (rs := [10]) (by kernel_rfl) (by simp) ?_
    refine AllReadyH.cons rfl (fun K hK => ?_) AllReadyH.nil
    go_simp
    refine hK.out _ _ ?_ (fun hG2 => ?_)
    · exact ⟨by simp only [World.size_setCell]; exact hG.1, ((hG.2.setCell hg8B _).setCell hg8B _).setCell hg8B _⟩
    clear hK K
    try simp only [List.getElem_toArray, List.getElem_cons_zero, List.getElem_cons_succ, Act.put, List.setIfInBounds_toArray, List.set_cons_zero, List.set_cons_succ]
    clear p0 p1 p2 p3 p4 p5
    have hJ8 := hI8.put k1 n1
    have hJ9 := hI9.other (Ne.symm hne) (.int .i64 k1) (.int .i64 n1) (.string ⟨#[]⟩)
    obtain ⟨W3, hW3⟩ : ∃ W, ((W2.setCell ⟨g8, 0, none⟩ (.int .i64 k1)).setCell ⟨g8, 1, none⟩ (.int .i64 n1)).setCell ⟨g8, 2, none⟩ (.string ⟨#[]⟩) = W := ⟨_, rfl⟩
    rw [hW3] at hJ8 hJ9 hG2 ⊢
    clear hW3
    obtain ⟨p0, p1, p2, p3, p4, p5, pz9⟩ := id hJ9
    refine wpAnyH_ready (rs := [11]) (by kernel_rfl) (by simp) ?_
    refine AllReadyH.cons rfl (fun K hK => ?_) AllReadyH.nil
    go_simp
    refine hK.out _ _ ?_ (fun hG3 => ?_)
    · exact ⟨by simp only [World.size_setCell]; exact hG2.1, ((hG2.2.setCell hg9B _).setCell hg9B _).setCell hg9B _⟩
    clear hK K
    try simp only [List.getElem_toArray, List.getElem_cons_zero, List.getElem_cons_succ, Act.put, List.setIfInBounds_toArray, List.set_cons_zero, List.set_cons_succ]
    clear p0 p1 p2 p3 p4 p5
    have hM8 := hJ8.other hne (.int .i64 k2) (.int .i64 n2) (.string ⟨#[]⟩)
    have hM9 := hJ9.put k2 n2
    obtain ⟨W4, hW4⟩ : ∃ W, ((W3.setCell ⟨g9, 0, none⟩ (.int .i64 k2)).setCell ⟨g9, 1, none⟩ (.int .i64 n2)).setCell ⟨g9, 2, none⟩ (.string ⟨#[]⟩) = W := ⟨_, rfl⟩
    rw [hW4] at hM8 hM9 hG3 ⊢
    clear hW4 hI8 hI9 hJ8 hJ9 hG hG2
    have hQ : W4.cell? ⟨w.heap.size, 0, none⟩ = some (.int .i64 ka) ∧ W4.cell? ⟨w.heap.size, 1, none⟩ = some (.int .i64 na) ∧ W4.cell? ⟨w.heap.size, 2, none⟩ = some (.string ta) ∧ w.heap.size < W4.heap.size ∧ W4.cell? ⟨(w.heap.size + 1), 0, none⟩ = some (.int .i64 kb) ∧ W4.cell? ⟨(w.heap.size + 1), 1, none⟩ = some (.int .i64 nb) ∧ W4.cell? ⟨(w.heap.size + 1), 2, none⟩ = some (.string tb) ∧ (w.heap.size + 1) < W4.heap.size ∧ W4.cell? ⟨g8, 0, none⟩ = some (.int .i64 k1) ∧ W4.cell? ⟨g8, 1, none⟩ = some (.int .i64 n1) ∧ W4.cell? ⟨g8, 2, none⟩ = some (.string ⟨#[]⟩) ∧ g8 < W4.heap.size ∧ W4.cell? ⟨g9, 0, none⟩ = some (.int .i64 k2) ∧ W4.cell? ⟨g9, 1, none⟩ = some (.int .i64 n2) ∧ W4.cell? ⟨g9, 2, none⟩ = some (.string ⟨#[]⟩) ∧ g9 < W4.heap.size ∧ w.heap.size ≤ W4.heap.size ∧ Below w.heap.size w W4 := by
      obtain ⟨kd00, kd01, kd02, kd03, kd10, kd11, kd12, kd13, kds, kdB⟩ := keepK2 hK6 (hbb hG3.2)
      obtain ⟨m0, m1, m2, _, _, _, mz⟩ := hM8
      obtain ⟨o0, o1, o2, _, _, _, oz⟩ := hM9
      exact ⟨kd00, kd01, kd02, kd03, kd10, kd11, kd12, kd13, m0, m1, m2, mz, o0, o1, o2, oz, kds, kdB⟩
    clear hM8 hM9 hG3 hK6 kc00 kc01 kc02 kc03 kc10 kc11 kc12 kc13 kcs kcB hbb hBB r1 rB pz pz9 hne hg8B hg9B
    refine wpAnyH_done (by kernel_rfl) ?_ _
    go_wp2_with fail
    have hQd := keepKd4 hQ
    obtain ⟨WR, hWR⟩ : ∃ W, W4.drew = W := ⟨_, rfl⟩
    rw [hWR] at hQd
    refine wp_region_held_drew (S := (fun W => W.cell? ⟨w.heap.size, 0, none⟩ = some (.int .i64 ka) ∧ W.cell? ⟨w.heap.size, 1, none⟩ = some (.int .i64 na) ∧ W.cell? ⟨w.heap.size, 2, none⟩ = some (.string ta) ∧ w.heap.size < W.heap.size ∧ W.cell? ⟨(w.heap.size + 1), 0, none⟩ = some (.int .i64 kb) ∧ W.cell? ⟨(w.heap.size + 1), 1, none⟩ = some (.int .i64 nb) ∧ W.cell? ⟨(w.heap.size + 1), 2, none⟩ = some (.string tb) ∧ (w.heap.size + 1) < W.heap.size ∧ W.cell? ⟨g8, 0, none⟩ = some (.int .i64 k1) ∧ W.cell? ⟨g8, 1, none⟩ = some (.int .i64 n1) ∧ W.cell? ⟨g8, 2, none⟩ = some (.string ⟨#[]⟩) ∧ g8 < W.heap.size ∧ W.cell? ⟨g9, 0, none⟩ = some (.int .i64 k2) ∧ W.cell? ⟨g9, 1, none⟩ = some (.int .i64 n2) ∧ W.cell? ⟨g9, 2, none⟩ = some (.string ⟨#[]⟩) ∧ g9 < W.heap.size ∧ w.heap.size ≤ W.heap.size ∧ Below w.heap.size w W)) (by kernel_rfl) ?_ (fun hR0 => ?_)
    · rw [hWR]; exact hQd
    rw [hWR] at hR0 ⊢
    clear hWR hQd hQ
    refine wpAnyH_take (i := 0) (v := ?_) rfl (by kernel_rfl) (by kernel_rfl) (by kernel_rfl) (fun _ _ _ h => h) (Or.inl ⟨by rfl, ?_⟩) hR0 ?_
    rotate_left
    · (intro W hSw; (try dsimp only at hSw); go_simp; try with_reducible rfl)
    try simp only [List.getElem_toArray, List.getElem_cons_zero, List.getElem_cons_succ, Act.put, List.setIfInBounds_toArray, List.set_cons_zero, List.set_cons_succ]
    refine wpAnyH_take (i := 4) (v := ?_) rfl (by kernel_rfl) (by kernel_rfl) (by kernel_rfl) (fun _ _ _ h => h) (Or.inl ⟨by rfl, ?_⟩) hR0 ?_
    rotate_left
    · (intro W hSw; (try dsimp only at hSw); go_simp; try with_reducible rfl)
    try simp only [List.getElem_toArray, List.getElem_cons_zero, List.getElem_cons_succ, Act.put, List.setIfInBounds_toArray, List.set_cons_zero, List.set_cons_succ]
    refine wpAnyH_ready (rs := [1]) (by kernel_rfl) (by simp) ?_
    refine AllReadyH.cons rfl (fun K hK => ?_) AllReadyH.nil
    go_simp
    go_at_call 27; refine (not_is ka na ta _ (hL.below (belowK4 hR0)) ha.out _ _ ⟨#[]⟩ hna).mono ?_; rintro e wr1 ⟨rfl, hbr1⟩
    refine hK.out _ _ ?_ (fun hR1 => ?_)
    · exact keepK4 hR0 hbr1
    clear hK K
    try simp only [List.getElem_toArray, List.getElem_cons_zero, List.getElem_cons_succ, Act.put, List.setIfInBounds_toArray, List.set_cons_zero, List.set_cons_succ]
    refine wpAnyH_ready (rs := [2]) (by kernel_rfl) (by simp) ?_
    refine AllReadyH.cons rfl (fun K hK => ?_) AllReadyH.nil
    go_simp
    go_at_call 27; refine (not_is k3 n3 ⟨#[]⟩ _ (hL.below (belowK4 hR1)) i3.out _ _ ⟨#[]⟩ hnna).mono ?_; rintro e wr2 ⟨rfl, hbr2⟩
    refine hK.out _ _ ?_ (fun hR2 => ?_)
    · exact keepK4 hR1 hbr2
    clear hK K
    try simp only [List.getElem_toArray, List.getElem_cons_zero, List.getElem_cons_succ, Act.put, List.setIfInBounds_toArray, List.set_cons_zero, List.set_cons_succ]
    refine wpAnyH_ready (rs := [3]) (by kernel_rfl) (by simp) ?_
    refine AllReadyH.cons rfl (fun K hK => ?_) AllReadyH.nil
    go_simp
    go_at_call 27; refine (not_is k4 n4 ⟨#[]⟩ _ (hL.below (belowK4 hR2)) i4.out _ _ ⟨#[]⟩ hn3).mono ?_; rintro e wr3 ⟨rfl, hbr3⟩
    refine hK.out _ _ ?_ (fun hR3 => ?_)
    · exact keepK4 hR2 hbr3
    clear hK K
    try simp only [List.getElem_toArray, List.getElem_cons_zero, List.getElem_cons_succ, Act.put, List.setIfInBounds_toArray, List.set_cons_zero, List.set_cons_succ]
    refine wpAnyH_ready (rs := [5]) (by kernel_rfl) (by simp) ?_
    refine AllReadyH.cons rfl (fun K hK => ?_) AllReadyH.nil
    go_simp
    go_at_call 27; refine (not_is ka na ta _ (hL.below (belowK4 hR3)) ha.out _ _ ⟨#[]⟩ hna).mono ?_; rintro e wr4 ⟨rfl, hbr4⟩
    refine hK.out _ _ ?_ (fun hR4 => ?_)
    · exact keepK4 hR3 hbr4
    clear hK K
    try simp only [List.getElem_toArray, List.getElem_cons_zero, List.getElem_cons_succ, Act.put, List.setIfInBounds_toArray, List.set_cons_zero, List.set_cons_succ]
    refine wpAnyH_take (i := 6) (v := ?_) rfl (by kernel_rfl) (by kernel_rfl) (by kernel_rfl) (fun _ _ _ h => h) (Or.inl ⟨by rfl, ?_⟩) hR4 ?_
    rotate_left
    · (intro W hSw; (try dsimp only at hSw); go_simp; try with_reducible rfl)
    try simp only [List.getElem_toArray, List.getElem_cons_zero, List.getElem_cons_succ, Act.put, List.setIfInBounds_toArray, List.set_cons_zero, List.set_cons_succ]
    refine wpAnyH_take (i := 7) (v := ?_) rfl (by kernel_rfl) (by kernel_rfl) (by kernel_rfl) (fun _ _ _ h => h) (Or.inl ⟨by rfl, ?_⟩) hR4 ?_
    rotate_left
    · (intro W hSw; (try dsimp only at hSw); go_simp; try with_reducible rfl)
    try simp only [List.getElem_toArray, List.getElem_cons_zero, List.getElem_cons_succ, Act.put, List.setIfInBounds_toArray, List.set_cons_zero, List.set_cons_succ]
    refine wpAnyH_take (i := 8) (v := ?_) rfl (by kernel_rfl) (by kernel_rfl) (by kernel_rfl) (fun _ _ _ h => h) (Or.inl ⟨by rfl, ?_⟩) hR4 ?_
    rotate_left
    · (intro W hSw; (try dsimp only at hSw); go_simp; try with_reducible rfl)
    try simp only [List.getElem_toArray, List.getElem_cons_zero, List.getElem_cons_succ, Act.put, List.setIfInBounds_toArray, List.set_cons_zero, List.set_cons_succ]
    refine wpAnyH_take (i := 9) (v := ?_) rfl (by kernel_rfl) (by kernel_rfl) (by kernel_rfl) (fun _ _ _ h => h) (Or.inl ⟨by rfl, ?_⟩) hR4 ?_
    rotate_left
    · (intro W hSw; (try dsimp only at hSw); go_simp; try with_reducible rfl)
    try simp only [List.getElem_toArray, List.getElem_cons_zero, List.getElem_cons_succ, Act.put, List.setIfInBounds_toArray, List.set_cons_zero, List.set_cons_succ]
    refine wpAnyH_take (i := 10) (v := ?_) rfl (by kernel_rfl) (by kernel_rfl) (by kernel_rfl) (fun _ _ _ h => h) (Or.inl ⟨by rfl, ?_⟩) hR4 ?_
    rotate_left
    · (intro W hSw; (try dsimp only at hSw); go_simp; try with_reducible rfl)
    try simp only [List.getElem_toArray, List.getElem_cons_zero, List.getElem_cons_succ, Act.put, List.setIfInBounds_toArray, List.set_cons_zero, List.set_cons_succ]
    refine wpAnyH_take (i := 11) (v := ?_) rfl (by kernel_rfl) (by kernel_rfl) (by kernel_rfl) (fun _ _ _ h => h) (Or.inl ⟨by rfl, ?_⟩) hR4 ?_
    rotate_left
    · (intro W hSw; (try dsimp only at hSw); go_simp; try with_reducible rfl)
    try simp only [List.getElem_toArray, List.getElem_cons_zero, List.getElem_cons_succ, Act.put, List.setIfInBounds_toArray, List.set_cons_zero, List.set_cons_succ]
    refine wpAnyH_ready (rs := [12]) (by kernel_rfl) (by simp) ?_
    refine AllReadyH.cons rfl (fun K hK => ?_) AllReadyH.nil
    go_simp
    go_at_call 26; refine (two_is 21 kb nb tb ka na ta c _ (hL.below (belowK4 hR4)) hb.out ha.out _ _ ⟨#[]⟩ hand2).mono ?_; rintro e wr5 ⟨rfl, hbr5⟩
    refine hK.out _ _ ?_ (fun hR5 => ?_)
    · exact keepK4 hR4 hbr5
    clear hK K
    try simp only [List.getElem_toArray, List.getElem_cons_zero, List.getElem_cons_succ, Act.put, List.setIfInBounds_toArray, List.set_cons_zero, List.set_cons_succ]
    refine wpAnyH_take (i := 13) (v := ?_) rfl (by kernel_rfl) (by kernel_rfl) (by kernel_rfl) (fun _ _ _ h => h) (Or.inl ⟨by rfl, ?_⟩) hR5 ?_
    rotate_left
    · (intro W hSw; (try dsimp only at hSw); go_simp; try with_reducible rfl)
    try simp only [List.getElem_toArray, List.getElem_cons_zero, List.getElem_cons_succ, Act.put, List.setIfInBounds_toArray, List.set_cons_zero, List.set_cons_succ]
    refine wpAnyH_take (i := 14) (v := ?_) rfl (by kernel_rfl) (by kernel_rfl) (by kernel_rfl) (fun _ _ _ h => h) (Or.inl ⟨by rfl, ?_⟩) hR5 ?_
    rotate_left
    · (intro W hSw; (try dsimp only at hSw); go_simp; try with_reducible rfl)
    try simp only [List.getElem_toArray, List.getElem_cons_zero, List.getElem_cons_succ, Act.put, List.setIfInBounds_toArray, List.set_cons_zero, List.set_cons_succ]
    refine wpAnyH_take (i := 15) (v := ?_) rfl (by kernel_rfl) (by kernel_rfl) (by kernel_rfl) (fun _ _ _ h => h) (Or.inl ⟨by rfl, ?_⟩) hR5 ?_
    rotate_left
    · (intro W hSw; (try dsimp only at hSw); go_simp; try with_reducible rfl)
    try simp only [List.getElem_toArray, List.getElem_cons_zero, List.getElem_cons_succ, Act.put, List.setIfInBounds_toArray, List.set_cons_zero, List.set_cons_succ]
    refine wpAnyH_take (i := 16) (v := ?_) rfl (by kernel_rfl) (by kernel_rfl) (by kernel_rfl) (fun _ _ _ h => h) (Or.inl ⟨by rfl, ?_⟩) hR5 ?_
    rotate_left
    · (intro W hSw; (try dsimp only at hSw); go_simp; try with_reducible rfl)
    try simp only [List.getElem_toArray, List.getElem_cons_zero, List.getElem_cons_succ, Act.put, List.setIfInBounds_toArray, List.set_cons_zero, List.set_cons_succ]
    refine wpAnyH_take (i := 17) (v := ?_) rfl (by kernel_rfl) (by kernel_rfl) (by kernel_rfl) (fun _ _ _ h => h) (Or.inl ⟨by rfl, ?_⟩) hR5 ?_
    rotate_left
    · (intro W hSw; (try dsimp only at hSw); go_simp; try with_reducible rfl)
    try simp only [List.getElem_toArray, List.getElem_cons_zero, List.getElem_cons_succ, Act.put, List.setIfInBounds_toArray, List.set_cons_zero, List.set_cons_succ]
    refine wpAnyH_take (i := 18) (v := ?_) rfl (by kernel_rfl) (by kernel_rfl) (by kernel_rfl) (fun _ _ _ h => h) (Or.inl ⟨by rfl, ?_⟩) hR5 ?_
    rotate_left
    · (intro W hSw; (try dsimp only at hSw); go_simp; try with_reducible rfl)
    try simp only [List.getElem_toArray, List.getElem_cons_zero, List.getElem_cons_succ, Act.put, List.setIfInBounds_toArray, List.set_cons_zero, List.set_cons_succ]
    refine wpAnyH_take (i := 19) (v := ?_) rfl (by kernel_rfl) (by kernel_rfl) (by kernel_rfl) (fun _ _ _ h => h) (Or.inl ⟨by rfl, ?_⟩) hR5 ?_
    rotate_left
    · (intro W hSw; (try dsimp only at hSw); go_simp; try with_reducible rfl)
    try simp only [List.getElem_toArray, List.getElem_cons_zero, List.getElem_cons_succ, Act.put, List.setIfInBounds_toArray, List.set_cons_zero, List.set_cons_succ]
    refine wpAnyH_ready (rs := [20]) (by kernel_rfl) (by simp) ?_
    refine AllReadyH.cons rfl (fun K hK => ?_) AllReadyH.nil
    go_simp
    go_at_call 26; refine (two_is 22 kb nb tb ka na ta c _ (hL.below (belowK4 hR5)) hb.out ha.out _ _ ⟨#[]⟩ hor2).mono ?_; rintro e wr6 ⟨rfl, hbr6⟩
    refine hK.out _ _ ?_ (fun hR6 => ?_)
    · exact keepK4 hR5 hbr6
    clear hK K
    try simp only [List.getElem_toArray, List.getElem_cons_zero, List.getElem_cons_succ, Act.put, List.setIfInBounds_toArray, List.set_cons_zero, List.set_cons_succ]
    refine wpAnyH_take (i := 21) (v := ?_) rfl (by kernel_rfl) (by kernel_rfl) (by kernel_rfl) (fun _ _ _ h => h) (Or.inl ⟨by rfl, ?_⟩) hR6 ?_
    rotate_left
    · (intro W hSw; (try dsimp only at hSw); go_simp; try with_reducible rfl)
    try simp only [List.getElem_toArray, List.getElem_cons_zero, List.getElem_cons_succ, Act.put, List.setIfInBounds_toArray, List.set_cons_zero, List.set_cons_succ]
    refine wpAnyH_take (i := 22) (v := ?_) rfl (by kernel_rfl) (by kernel_rfl) (by kernel_rfl) (fun _ _ _ h => h) (Or.inl ⟨by rfl, ?_⟩) hR6 ?_
    rotate_left
    · (intro W hSw; (try dsimp only at hSw); go_simp; try with_reducible rfl)
    try simp only [List.getElem_toArray, List.getElem_cons_zero, List.getElem_cons_succ, Act.put, List.setIfInBounds_toArray, List.set_cons_zero, List.set_cons_succ]
    refine wpAnyH_take (i := 23) (v := ?_) rfl (by kernel_rfl) (by kernel_rfl) (by kernel_rfl) (fun _ _ _ h => h) (Or.inl ⟨by rfl, ?_⟩) hR6 ?_
    rotate_left
    · (intro W hSw; (try dsimp only at hSw); go_simp; try with_reducible rfl)
    try simp only [List.getElem_toArray, List.getElem_cons_zero, List.getElem_cons_succ, Act.put, List.setIfInBounds_toArray, List.set_cons_zero, List.set_cons_succ]
    refine wpAnyH_take (i := 24) (v := ?_) rfl (by kernel_rfl) (by kernel_rfl) (by kernel_rfl) (fun _ _ _ h => h) (Or.inl ⟨by rfl, ?_⟩) hR6 ?_
    rotate_left
    · (intro W hSw; (try dsimp only at hSw); go_simp; try with_reducible rfl)
    try simp only [List.getElem_toArray, List.getElem_cons_zero, List.getElem_cons_succ, Act.put, List.setIfInBounds_toArray, List.set_cons_zero, List.set_cons_succ]
    refine wpAnyH_take (i := 26) (v := ?_) rfl (by kernel_rfl) (by kernel_rfl) (by kernel_rfl) (fun _ _ _ h => h) (Or.inl ⟨by rfl, ?_⟩) hR6 ?_
    rotate_left
    · (intro W hSw; (try dsimp only at hSw); go_simp; try with_reducible rfl)
    try simp only [List.getElem_toArray, List.getElem_cons_zero, List.getElem_cons_succ, Act.put, List.setIfInBounds_toArray, List.set_cons_zero, List.set_cons_succ]
    refine wpAnyH_take (i := 28) (v := ?_) rfl (by kernel_rfl) (by kernel_rfl) (by kernel_rfl) (fun _ _ _ h => h) (Or.inl ⟨by rfl, ?_⟩) hR6 ?_
    rotate_left
    · (intro W hSw; (try dsimp only at hSw); go_simp; try with_reducible rfl)
    try simp only [List.getElem_toArray, List.getElem_cons_zero, List.getElem_cons_succ, Act.put, List.setIfInBounds_toArray, List.set_cons_zero, List.set_cons_succ]
    refine wpAnyH_take (i := 30) (v := ?_) rfl (by kernel_rfl) (by kernel_rfl) (by kernel_rfl) (fun _ _ _ h => h) (Or.inl ⟨by rfl, ?_⟩) hR6 ?_
    rotate_left
    · (intro W hSw; (try dsimp only at hSw); go_simp; try with_reducible rfl)
    try simp only [List.getElem_toArray, List.getElem_cons_zero, List.getElem_cons_succ, Act.put, List.setIfInBounds_toArray, List.set_cons_zero, List.set_cons_succ]
    refine wpAnyH_ready (rs := [25]) (by kernel_rfl) (by simp) ?_
    refine AllReadyH.cons rfl (fun K hK => ?_) AllReadyH.nil
    go_simp
    go_at_call 27; refine (not_is k1 n1 ⟨#[]⟩ _ (hL.below (belowK4 hR6)) i1.out _ _ ⟨#[]⟩ hnand).mono ?_; rintro e wr7 ⟨rfl, hbr7⟩
    refine hK.out _ _ ?_ (fun hR7 => ?_)
    · exact keepK4 hR6 hbr7
    clear hK K
    try simp only [List.getElem_toArray, List.getElem_cons_zero, List.getElem_cons_succ, Act.put, List.setIfInBounds_toArray, List.set_cons_zero, List.set_cons_succ]
    refine wpAnyH_ready (rs := [27]) (by kernel_rfl) (by simp) ?_
    refine AllReadyH.cons rfl (fun K hK => ?_) AllReadyH.nil
    go_simp
    go_at_call 27; refine (not_is ka na ta _ (hL.below (belowK4 hR7)) ha.out _ _ ⟨#[]⟩ hna).mono ?_; rintro e wr8 ⟨rfl, hbr8⟩
    refine hK.out _ _ ?_ (fun hR8 => ?_)
    · exact keepK4 hR7 hbr8
    clear hK K
    try simp only [List.getElem_toArray, List.getElem_cons_zero, List.getElem_cons_succ, Act.put, List.setIfInBounds_toArray, List.set_cons_zero, List.set_cons_succ]
    refine wpAnyH_ready (rs := [29]) (by kernel_rfl) (by simp) ?_
    refine AllReadyH.cons rfl (fun K hK => ?_) AllReadyH.nil
    go_simp
    go_at_call 27; refine (not_is kb nb tb _ (hL.below (belowK4 hR8)) hb.out _ _ ⟨#[]⟩ hnb).mono ?_; rintro e wr9 ⟨rfl, hbr9⟩
    refine hK.out _ _ ?_ (fun hR9 => ?_)
    · exact keepK4 hR8 hbr9
    clear hK K
    try simp only [List.getElem_toArray, List.getElem_cons_zero, List.getElem_cons_succ, Act.put, List.setIfInBounds_toArray, List.set_cons_zero, List.set_cons_succ]
    refine wpAnyH_ready (rs := [31]) (by kernel_rfl) (by simp) ?_
    refine AllReadyH.cons rfl (fun K hK => ?_) AllReadyH.nil
    go_simp
    go_at_call 26; refine (two_is 22 k3 n3 ⟨#[]⟩ k5 n5 ⟨#[]⟩ c _ (hL.below (belowK4 hR9)) i3.out i5.out _ _ ⟨#[]⟩ hdm).mono ?_; rintro e wr10 ⟨rfl, hbr10⟩
    refine hK.out _ _ ?_ (fun hR10 => ?_)
    · exact keepK4 hR9 hbr10
    clear hK K
    try simp only [List.getElem_toArray, List.getElem_cons_zero, List.getElem_cons_succ, Act.put, List.setIfInBounds_toArray, List.set_cons_zero, List.set_cons_succ]
    refine wpAnyH_take (i := 32) (v := ?_) rfl (by kernel_rfl) (by kernel_rfl) (by kernel_rfl) (fun _ _ _ h => h) (Or.inl ⟨by rfl, ?_⟩) hR10 ?_
    rotate_left
    · (intro W hSw; (try dsimp only at hSw); go_simp; try with_reducible rfl)
    try simp only [List.getElem_toArray, List.getElem_cons_zero, List.getElem_cons_succ, Act.put, List.setIfInBounds_toArray, List.set_cons_zero, List.set_cons_succ]
    refine wpAnyH_take (i := 33) (v := ?_) rfl (by kernel_rfl) (by kernel_rfl) (by kernel_rfl) (fun _ _ _ h => h) (Or.inl ⟨by rfl, ?_⟩) hR10 ?_
    rotate_left
    · (intro W hSw; (try dsimp only at hSw); go_simp; try with_reducible rfl)
    try simp only [List.getElem_toArray, List.getElem_cons_zero, List.getElem_cons_succ, Act.put, List.setIfInBounds_toArray, List.set_cons_zero, List.set_cons_succ]
    refine wpAnyH_done (by kernel_rfl) ?_ _
    go_wp2_with fail
    have hQd := keepKd4 hR10
    obtain ⟨WR, hWR⟩ : ∃ W, wr10.drew = W := ⟨_, rfl⟩
    rw [hWR] at hQd
    refine wp_region_held_drew (S := (fun W => W.cell? ⟨w.heap.size, 0, none⟩ = some (.int .i64 ka) ∧ W.cell? ⟨w.heap.size, 1, none⟩ = some (.int .i64 na) ∧ W.cell? ⟨w.heap.size, 2, none⟩ = some (.string ta) ∧ w.heap.size < W.heap.size ∧ W.cell? ⟨(w.heap.size + 1), 0, none⟩ = some (.int .i64 kb) ∧ W.cell? ⟨(w.heap.size + 1), 1, none⟩ = some (.int .i64 nb) ∧ W.cell? ⟨(w.heap.size + 1), 2, none⟩ = some (.string tb) ∧ (w.heap.size + 1) < W.heap.size ∧ W.cell? ⟨g8, 0, none⟩ = some (.int .i64 k1) ∧ W.cell? ⟨g8, 1, none⟩ = some (.int .i64 n1) ∧ W.cell? ⟨g8, 2, none⟩ = some (.string ⟨#[]⟩) ∧ g8 < W.heap.size ∧ W.cell? ⟨g9, 0, none⟩ = some (.int .i64 k2) ∧ W.cell? ⟨g9, 1, none⟩ = some (.int .i64 n2) ∧ W.cell? ⟨g9, 2, none⟩ = some (.string ⟨#[]⟩) ∧ g9 < W.heap.size ∧ w.heap.size ≤ W.heap.size ∧ Below w.heap.size w W)) (by kernel_rfl) ?_ (fun hR0 => ?_)
    · rw [hWR]; exact hQd
    rw [hWR] at hR0 ⊢
    clear hWR hQd hR10
    refine wpAnyH_take (i := 0) (v := ?_) rfl (by kernel_rfl) (by kernel_rfl) (by kernel_rfl) (fun _ _ _ h => h) (Or.inl ⟨by rfl, ?_⟩) hR0 ?_
    rotate_left
    · (intro W hSw; (try dsimp only at hSw); go_simp; try with_reducible rfl)
    try simp only [List.getElem_toArray, List.getElem_cons_zero, List.getElem_cons_succ, Act.put, List.setIfInBounds_toArray, List.set_cons_zero, List.set_cons_succ]
    refine wpAnyH_take (i := 1) (v := ?_) rfl (by kernel_rfl) (by kernel_rfl) (by kernel_rfl) (fun _ _ _ h => h) (Or.inl ⟨by rfl, ?_⟩) hR0 ?_
    rotate_left
    · (intro W hSw; (try dsimp only at hSw); go_simp; try with_reducible rfl)
    try simp only [List.getElem_toArray, List.getElem_cons_zero, List.getElem_cons_succ, Act.put, List.setIfInBounds_toArray, List.set_cons_zero, List.set_cons_succ]
    refine wpAnyH_take (i := 2) (v := ?_) rfl (by kernel_rfl) (by kernel_rfl) (by kernel_rfl) (fun _ _ _ h => h) (Or.inl ⟨by rfl, ?_⟩) hR0 ?_
    rotate_left
    · (intro W hSw; (try dsimp only at hSw); go_simp; try with_reducible rfl)
    try simp only [List.getElem_toArray, List.getElem_cons_zero, List.getElem_cons_succ, Act.put, List.setIfInBounds_toArray, List.set_cons_zero, List.set_cons_succ]
    refine wpAnyH_take (i := 4) (v := ?_) rfl (by kernel_rfl) (by kernel_rfl) (by kernel_rfl) (fun _ _ _ h => h) (Or.inl ⟨by rfl, ?_⟩) hR0 ?_
    rotate_left
    · (intro W hSw; (try dsimp only at hSw); go_simp; try with_reducible rfl)
    try simp only [List.getElem_toArray, List.getElem_cons_zero, List.getElem_cons_succ, Act.put, List.setIfInBounds_toArray, List.set_cons_zero, List.set_cons_succ]
    refine wpAnyH_take (i := 5) (v := ?_) rfl (by kernel_rfl) (by kernel_rfl) (by kernel_rfl) (fun _ _ _ h => h) (Or.inl ⟨by rfl, ?_⟩) hR0 ?_
    rotate_left
    · (intro W hSw; (try dsimp only at hSw); go_simp; try with_reducible rfl)
    try simp only [List.getElem_toArray, List.getElem_cons_zero, List.getElem_cons_succ, Act.put, List.setIfInBounds_toArray, List.set_cons_zero, List.set_cons_succ]
    refine wpAnyH_take (i := 6) (v := ?_) rfl (by kernel_rfl) (by kernel_rfl) (by kernel_rfl) (fun _ _ _ h => h) (Or.inl ⟨by rfl, ?_⟩) hR0 ?_
    rotate_left
    · (intro W hSw; (try dsimp only at hSw); go_simp; try with_reducible rfl)
    try simp only [List.getElem_toArray, List.getElem_cons_zero, List.getElem_cons_succ, Act.put, List.setIfInBounds_toArray, List.set_cons_zero, List.set_cons_succ]
    refine wpAnyH_ready (rs := [3]) (by kernel_rfl) (by simp) ?_
    refine AllReadyH.cons rfl (fun K hK => ?_) AllReadyH.nil
    go_simp
    go_at_call 26; refine (two_is 14 ka na ta kb nb tb c _ (hL.below (belowK4 hR0)) ha.out hb.out _ _ ⟨#[]⟩ hne).mono ?_; rintro e wr11 ⟨rfl, hbr11⟩
    refine hK.out _ _ ?_ (fun hR11 => ?_)
    · exact keepK4 hR0 hbr11
    clear hK K
    try simp only [List.getElem_toArray, List.getElem_cons_zero, List.getElem_cons_succ, Act.put, List.setIfInBounds_toArray, List.set_cons_zero, List.set_cons_succ]
    refine wpAnyH_ready (rs := [7]) (by kernel_rfl) (by simp) ?_
    refine AllReadyH.cons rfl (fun K hK => ?_) AllReadyH.nil
    go_simp
    go_at_call 26; refine (two_is 13 ka na ta kb nb tb c _ (hL.below (belowK4 hR11)) ha.out hb.out _ _ ⟨#[]⟩ heq).mono ?_; rintro e wr12 ⟨rfl, hbr12⟩
    refine hK.out _ _ ?_ (fun hR12 => ?_)
    · exact keepK4 hR11 hbr12
    clear hK K
    try simp only [List.getElem_toArray, List.getElem_cons_zero, List.getElem_cons_succ, Act.put, List.setIfInBounds_toArray, List.set_cons_zero, List.set_cons_succ]
    refine wpAnyH_ready (rs := [8]) (by kernel_rfl) (by simp) ?_
    refine AllReadyH.cons rfl (fun K hK => ?_) AllReadyH.nil
    go_simp
    go_at_call 27; refine (not_is k8 n8 ⟨#[]⟩ _ (hL.below (belowK4 hR12)) i8.out _ _ ⟨#[]⟩ hneq).mono ?_; rintro e wr13 ⟨rfl, hbr13⟩
    refine hK.out _ _ ?_ (fun hR13 => ?_)
    · exact keepK4 hR12 hbr13
    clear hK K
    try simp only [List.getElem_toArray, List.getElem_cons_zero, List.getElem_cons_succ, Act.put, List.setIfInBounds_toArray, List.set_cons_zero, List.set_cons_succ]
    refine wpAnyH_take (i := 9) (v := ?_) rfl (by kernel_rfl) (by kernel_rfl) (by kernel_rfl) (fun _ _ _ h => h) (Or.inl ⟨by rfl, ?_⟩) hR13 ?_
    rotate_left
    · (intro W hSw; (try dsimp only at hSw); go_simp; try with_reducible rfl)
    try simp only [List.getElem_toArray, List.getElem_cons_zero, List.getElem_cons_succ, Act.put, List.setIfInBounds_toArray, List.set_cons_zero, List.set_cons_succ]
    refine wpAnyH_take (i := 10) (v := ?_) rfl (by kernel_rfl) (by kernel_rfl) (by kernel_rfl) (fun _ _ _ h => h) (Or.inl ⟨by rfl, ?_⟩) hR13 ?_
    rotate_left
    · (intro W hSw; (try dsimp only at hSw); go_simp; try with_reducible rfl)
    try simp only [List.getElem_toArray, List.getElem_cons_zero, List.getElem_cons_succ, Act.put, List.setIfInBounds_toArray, List.set_cons_zero, List.set_cons_succ]
    refine wpAnyH_take (i := 11) (v := ?_) rfl (by kernel_rfl) (by kernel_rfl) (by kernel_rfl) (fun _ _ _ h => h) (Or.inl ⟨by rfl, ?_⟩) hR13 ?_
    rotate_left
    · (intro W hSw; (try dsimp only at hSw); go_simp; try with_reducible rfl)
    try simp only [List.getElem_toArray, List.getElem_cons_zero, List.getElem_cons_succ, Act.put, List.setIfInBounds_toArray, List.set_cons_zero, List.set_cons_succ]
    refine wpAnyH_take (i := 12) (v := ?_) rfl (by kernel_rfl) (by kernel_rfl) (by kernel_rfl) (fun _ _ _ h => h) (Or.inl ⟨by rfl, ?_⟩) hR13 ?_
    rotate_left
    · (intro W hSw; (try dsimp only at hSw); go_simp; try with_reducible rfl)
    try simp only [List.getElem_toArray, List.getElem_cons_zero, List.getElem_cons_succ, Act.put, List.setIfInBounds_toArray, List.set_cons_zero, List.set_cons_succ]
    refine wpAnyH_take (i := 13) (v := ?_) rfl (by kernel_rfl) (by kernel_rfl) (by kernel_rfl) (fun _ _ _ h => h) (Or.inl ⟨by rfl, ?_⟩) hR13 ?_
    rotate_left
    · (intro W hSw; (try dsimp only at hSw); go_simp; try with_reducible rfl)
    try simp only [List.getElem_toArray, List.getElem_cons_zero, List.getElem_cons_succ, Act.put, List.setIfInBounds_toArray, List.set_cons_zero, List.set_cons_succ]
    refine wpAnyH_take (i := 15) (v := ?_) rfl (by kernel_rfl) (by kernel_rfl) (by kernel_rfl) (fun _ _ _ h => h) (Or.inl ⟨by rfl, ?_⟩) hR13 ?_
    rotate_left
    · (intro W hSw; (try dsimp only at hSw); go_simp; try with_reducible rfl)
    try simp only [List.getElem_toArray, List.getElem_cons_zero, List.getElem_cons_succ, Act.put, List.setIfInBounds_toArray, List.set_cons_zero, List.set_cons_succ]
    refine wpAnyH_take (i := 16) (v := ?_) rfl (by kernel_rfl) (by kernel_rfl) (by kernel_rfl) (fun _ _ _ h => h) (Or.inl ⟨by rfl, ?_⟩) hR13 ?_
    rotate_left
    · (intro W hSw; (try dsimp only at hSw); go_simp; try with_reducible rfl)
    try simp only [List.getElem_toArray, List.getElem_cons_zero, List.getElem_cons_succ, Act.put, List.setIfInBounds_toArray, List.set_cons_zero, List.set_cons_succ]
    refine wpAnyH_take (i := 17) (v := ?_) rfl (by kernel_rfl) (by kernel_rfl) (by kernel_rfl) (fun _ _ _ h => h) (Or.inl ⟨by rfl, ?_⟩) hR13 ?_
    rotate_left
    · (intro W hSw; (try dsimp only at hSw); go_simp; try with_reducible rfl)
    try simp only [List.getElem_toArray, List.getElem_cons_zero, List.getElem_cons_succ, Act.put, List.setIfInBounds_toArray, List.set_cons_zero, List.set_cons_succ]
    refine wpAnyH_ready (rs := [14]) (by kernel_rfl) (by simp) ?_
    refine AllReadyH.cons rfl (fun K hK => ?_) AllReadyH.nil
    go_simp
    go_at_call 26; refine (two_is 18 ka na ta kb nb tb c _ (hL.below (belowK4 hR13)) ha.out hb.out _ _ ⟨#[]⟩ hge).mono ?_; rintro e wr14 ⟨rfl, hbr14⟩
    refine hK.out _ _ ?_ (fun hR14 => ?_)
    · exact keepK4 hR13 hbr14
    clear hK K
    try simp only [List.getElem_toArray, List.getElem_cons_zero, List.getElem_cons_succ, Act.put, List.setIfInBounds_toArray, List.set_cons_zero, List.set_cons_succ]
    refine wpAnyH_ready (rs := [18]) (by kernel_rfl) (by simp) ?_
    refine AllReadyH.cons rfl (fun K hK => ?_) AllReadyH.nil
    go_simp
    go_at_call 26; refine (two_is 15 ka na ta kb nb tb c _ (hL.below (belowK4 hR14)) ha.out hb.out _ _ ⟨#[]⟩ hlt).mono ?_; rintro e wr15 ⟨rfl, hbr15⟩
    refine hK.out _ _ ?_ (fun hR15 => ?_)
    · exact keepK4 hR14 hbr15
    clear hK K
    try simp only [List.getElem_toArray, List.getElem_cons_zero, List.getElem_cons_succ, Act.put, List.setIfInBounds_toArray, List.set_cons_zero, List.set_cons_succ]
    refine wpAnyH_ready (rs := [19]) (by kernel_rfl) (by simp) ?_
    refine AllReadyH.cons rfl (fun K hK => ?_) AllReadyH.nil
    go_simp
    go_at_call 27; refine (not_is k10 n10 ⟨#[]⟩ _ (hL.below (belowK4 hR15)) i10.out _ _ ⟨#[]⟩ hgelt).mono ?_; rintro e wr16 ⟨rfl, hbr16⟩
    refine hK.out _ _ ?_ (fun hR16 => ?_)
    · exact keepK4 hR15 hbr16
    clear hK K
    try simp only [List.getElem_toArray, List.getElem_cons_zero, List.getElem_cons_succ, Act.put, List.setIfInBounds_toArray, List.set_cons_zero, List.set_cons_succ]
    refine wpAnyH_take (i := 20) (v := ?_) rfl (by kernel_rfl) (by kernel_rfl) (by kernel_rfl) (fun _ _ _ h => h) (Or.inl ⟨by rfl, ?_⟩) hR16 ?_
    rotate_left
    · (intro W hSw; (try dsimp only at hSw); go_simp; try with_reducible rfl)
    try simp only [List.getElem_toArray, List.getElem_cons_zero, List.getElem_cons_succ, Act.put, List.setIfInBounds_toArray, List.set_cons_zero, List.set_cons_succ]
    refine wpAnyH_take (i := 21) (v := ?_) rfl (by kernel_rfl) (by kernel_rfl) (by kernel_rfl) (fun _ _ _ h => h) (Or.inl ⟨by rfl, ?_⟩) hR16 ?_
    rotate_left
    · (intro W hSw; (try dsimp only at hSw); go_simp; try with_reducible rfl)
    try simp only [List.getElem_toArray, List.getElem_cons_zero, List.getElem_cons_succ, Act.put, List.setIfInBounds_toArray, List.set_cons_zero, List.set_cons_succ]
    refine wpAnyH_take (i := 22) (v := ?_) rfl (by kernel_rfl) (by kernel_rfl) (by kernel_rfl) (fun _ _ _ h => h) (Or.inl ⟨by rfl, ?_⟩) hR16 ?_
    rotate_left
    · (intro W hSw; (try dsimp only at hSw); go_simp; try with_reducible rfl)
    try simp only [List.getElem_toArray, List.getElem_cons_zero, List.getElem_cons_succ, Act.put, List.setIfInBounds_toArray, List.set_cons_zero, List.set_cons_succ]
    refine wpAnyH_take (i := 23) (v := ?_) rfl (by kernel_rfl) (by kernel_rfl) (by kernel_rfl) (fun _ _ _ h => h) (Or.inl ⟨by rfl, ?_⟩) hR16 ?_
    rotate_left
    · (intro W hSw; (try dsimp only at hSw); go_simp; try with_reducible rfl)
    try simp only [List.getElem_toArray, List.getElem_cons_zero, List.getElem_cons_succ, Act.put, List.setIfInBounds_toArray, List.set_cons_zero, List.set_cons_succ]
    refine wpAnyH_take (i := 24) (v := ?_) rfl (by kernel_rfl) (by kernel_rfl) (by kernel_rfl) (fun _ _ _ h => h) (Or.inl ⟨by rfl, ?_⟩) hR16 ?_
    rotate_left
    · (intro W hSw; (try dsimp only at hSw); go_simp; try with_reducible rfl)
    try simp only [List.getElem_toArray, List.getElem_cons_zero, List.getElem_cons_succ, Act.put, List.setIfInBounds_toArray, List.set_cons_zero, List.set_cons_succ]
    refine wpAnyH_take (i := 25) (v := ?_) rfl (by kernel_rfl) (by kernel_rfl) (by kernel_rfl) (fun _ _ _ h => h) (Or.inl ⟨by rfl, ?_⟩) hR16 ?_
    rotate_left
    · (intro W hSw; (try dsimp only at hSw); go_simp; try with_reducible rfl)
    try simp only [List.getElem_toArray, List.getElem_cons_zero, List.getElem_cons_succ, Act.put, List.setIfInBounds_toArray, List.set_cons_zero, List.set_cons_succ]
    refine wpAnyH_take (i := 27) (v := ?_) rfl (by kernel_rfl) (by kernel_rfl) (by kernel_rfl) (fun _ _ _ h => h) (Or.inl ⟨by rfl, ?_⟩) hR16 ?_
    rotate_left
    · (intro W hSw; (try dsimp only at hSw); go_simp; try with_reducible rfl)
    try simp only [List.getElem_toArray, List.getElem_cons_zero, List.getElem_cons_succ, Act.put, List.setIfInBounds_toArray, List.set_cons_zero, List.set_cons_succ]
    refine wpAnyH_take (i := 28) (v := ?_) rfl (by kernel_rfl) (by kernel_rfl) (by kernel_rfl) (fun _ _ _ h => h) (Or.inl ⟨by rfl, ?_⟩) hR16 ?_
    rotate_left
    · (intro W hSw; (try dsimp only at hSw); go_simp; try with_reducible rfl)
    try simp only [List.getElem_toArray, List.getElem_cons_zero, List.getElem_cons_succ, Act.put, List.setIfInBounds_toArray, List.set_cons_zero, List.set_cons_succ]
    refine wpAnyH_take (i := 29) (v := ?_) rfl (by kernel_rfl) (by kernel_rfl) (by kernel_rfl) (fun _ _ _ h => h) (Or.inl ⟨by rfl, ?_⟩) hR16 ?_
    rotate_left
    · (intro W hSw; (try dsimp only at hSw); go_simp; try with_reducible rfl)
    try simp only [List.getElem_toArray, List.getElem_cons_zero, List.getElem_cons_succ, Act.put, List.setIfInBounds_toArray, List.set_cons_zero, List.set_cons_succ]
    refine wpAnyH_ready (rs := [26]) (by kernel_rfl) (by simp) ?_
    refine AllReadyH.cons rfl (fun K hK => ?_) AllReadyH.nil
    go_simp
    go_at_call 26; refine (two_is 17 ka na ta kb nb tb c _ (hL.below (belowK4 hR16)) ha.out hb.out _ _ ⟨#[]⟩ hgt).mono ?_; rintro e wr17 ⟨rfl, hbr17⟩
    refine hK.out _ _ ?_ (fun hR17 => ?_)
    · exact keepK4 hR16 hbr17
    clear hK K
    try simp only [List.getElem_toArray, List.getElem_cons_zero, List.getElem_cons_succ, Act.put, List.setIfInBounds_toArray, List.set_cons_zero, List.set_cons_succ]
    refine wpAnyH_ready (rs := [30]) (by kernel_rfl) (by simp) ?_
    refine AllReadyH.cons rfl (fun K hK => ?_) AllReadyH.nil
    go_simp
    go_at_call 26; refine (two_is 16 ka na ta kb nb tb c _ (hL.below (belowK4 hR17)) ha.out hb.out _ _ ⟨#[]⟩ hle).mono ?_; rintro e wr18 ⟨rfl, hbr18⟩
    refine hK.out _ _ ?_ (fun hR18 => ?_)
    · exact keepK4 hR17 hbr18
    clear hK K
    try simp only [List.getElem_toArray, List.getElem_cons_zero, List.getElem_cons_succ, Act.put, List.setIfInBounds_toArray, List.set_cons_zero, List.set_cons_succ]
    refine wpAnyH_ready (rs := [31]) (by kernel_rfl) (by simp) ?_
    refine AllReadyH.cons rfl (fun K hK => ?_) AllReadyH.nil
    go_simp
    go_at_call 27; refine (not_is k12 n12 ⟨#[]⟩ _ (hL.below (belowK4 hR18)) i12.out _ _ ⟨#[]⟩ hgtle).mono ?_; rintro e wr19 ⟨rfl, hbr19⟩
    refine hK.out _ _ ?_ (fun hR19 => ?_)
    · exact keepK4 hR18 hbr19
    clear hK K
    try simp only [List.getElem_toArray, List.getElem_cons_zero, List.getElem_cons_succ, Act.put, List.setIfInBounds_toArray, List.set_cons_zero, List.set_cons_succ]
    refine wpAnyH_take (i := 32) (v := ?_) rfl (by kernel_rfl) (by kernel_rfl) (by kernel_rfl) (fun _ _ _ h => h) (Or.inl ⟨by rfl, ?_⟩) hR19 ?_
    rotate_left
    · (intro W hSw; (try dsimp only at hSw); go_simp; try with_reducible rfl)
    try simp only [List.getElem_toArray, List.getElem_cons_zero, List.getElem_cons_succ, Act.put, List.setIfInBounds_toArray, List.set_cons_zero, List.set_cons_succ]
    refine wpAnyH_take (i := 33) (v := ?_) rfl (by kernel_rfl) (by kernel_rfl) (by kernel_rfl) (fun _ _ _ h => h) (Or.inl ⟨by rfl, ?_⟩) hR19 ?_
    rotate_left
    · (intro W hSw; (try dsimp only at hSw); go_simp; try with_reducible rfl)
    try simp only [List.getElem_toArray, List.getElem_cons_zero, List.getElem_cons_succ, Act.put, List.setIfInBounds_toArray, List.set_cons_zero, List.set_cons_succ]
    refine wpAnyH_take (i := 34) (v := ?_) rfl (by kernel_rfl) (by kernel_rfl) (by kernel_rfl) (fun _ _ _ h => h) (Or.inl ⟨by rfl, ?_⟩) hR19 ?_
    rotate_left
    · (intro W hSw; (try dsimp only at hSw); go_simp; try with_reducible rfl)
    try simp only [List.getElem_toArray, List.getElem_cons_zero, List.getElem_cons_succ, Act.put, List.setIfInBounds_toArray, List.set_cons_zero, List.set_cons_succ]
    refine wpAnyH_take (i := 35) (v := ?_) rfl (by kernel_rfl) (by kernel_rfl) (by kernel_rfl) (fun _ _ _ h => h) (Or.inl ⟨by rfl, ?_⟩) hR19 ?_
    rotate_left
    · (intro W hSw; (try dsimp only at hSw); go_simp; try with_reducible rfl)
    try simp only [List.getElem_toArray, List.getElem_cons_zero, List.getElem_cons_succ, Act.put, List.setIfInBounds_toArray, List.set_cons_zero, List.set_cons_succ]
    refine wpAnyH_take (i := 36) (v := ?_) rfl (by kernel_rfl) (by kernel_rfl) (by kernel_rfl) (fun _ _ _ h => h) (Or.inl ⟨by rfl, ?_⟩) hR19 ?_
    rotate_left
    · (intro W hSw; (try dsimp only at hSw); go_simp; try with_reducible rfl)
    try simp only [List.getElem_toArray, List.getElem_cons_zero, List.getElem_cons_succ, Act.put, List.setIfInBounds_toArray, List.set_cons_zero, List.set_cons_succ]
    refine wpAnyH_take (i := 37) (v := ?_) rfl (by kernel_rfl) (by kernel_rfl) (by kernel_rfl) (fun _ _ _ h => h) (Or.inl ⟨by rfl, ?_⟩) hR19 ?_
    rotate_left
    · (intro W hSw; (try dsimp only at hSw); go_simp; try with_reducible rfl)
    try simp only [List.getElem_toArray, List.getElem_cons_zero, List.getElem_cons_succ, Act.put, List.setIfInBounds_toArray, List.set_cons_zero, List.set_cons_succ]
    refine wpAnyH_take (i := 39) (v := ?_) rfl (by kernel_rfl) (by kernel_rfl) (by kernel_rfl) (fun _ _ _ h => h) (Or.inl ⟨by rfl, ?_⟩) hR19 ?_
    rotate_left
    · (intro W hSw; (try dsimp only at hSw); go_simp; try with_reducible rfl)
    try simp only [List.getElem_toArray, List.getElem_cons_zero, List.getElem_cons_succ, Act.put, List.setIfInBounds_toArray, List.set_cons_zero, List.set_cons_succ]
    refine wpAnyH_take (i := 40) (v := ?_) rfl (by kernel_rfl) (by kernel_rfl) (by kernel_rfl) (fun _ _ _ h => h) (Or.inl ⟨by rfl, ?_⟩) hR19 ?_
    rotate_left
    · (intro W hSw; (try dsimp only at hSw); go_simp; try with_reducible rfl)
    try simp only [List.getElem_toArray, List.getElem_cons_zero, List.getElem_cons_succ, Act.put, List.setIfInBounds_toArray, List.set_cons_zero, List.set_cons_succ]
    refine wpAnyH_take (i := 41) (v := ?_) rfl (by kernel_rfl) (by kernel_rfl) (by kernel_rfl) (fun _ _ _ h => h) (Or.inl ⟨by rfl, ?_⟩) hR19 ?_
    rotate_left
    · (intro W hSw; (try dsimp only at hSw); go_simp; try with_reducible rfl)
    try simp only [List.getElem_toArray, List.getElem_cons_zero, List.getElem_cons_succ, Act.put, List.setIfInBounds_toArray, List.set_cons_zero, List.set_cons_succ]
    refine wpAnyH_ready (rs := [38]) (by kernel_rfl) (by simp) ?_
    refine AllReadyH.cons rfl (fun K hK => ?_) AllReadyH.nil
    go_simp
    go_at_call 26; refine (two_is 20 ka na ta kb nb tb c _ (hL.below (belowK4 hR19)) ha.out hb.out _ _ ⟨#[]⟩ hisn).mono ?_; rintro e wr20 ⟨rfl, hbr20⟩
    refine hK.out _ _ ?_ (fun hR20 => ?_)
    · exact keepK4 hR19 hbr20
    clear hK K
    try simp only [List.getElem_toArray, List.getElem_cons_zero, List.getElem_cons_succ, Act.put, List.setIfInBounds_toArray, List.set_cons_zero, List.set_cons_succ]
    refine wpAnyH_ready (rs := [42]) (by kernel_rfl) (by simp) ?_
    refine AllReadyH.cons rfl (fun K hK => ?_) AllReadyH.nil
    go_simp
    go_at_call 26; refine (two_is 19 ka na ta kb nb tb c _ (hL.below (belowK4 hR20)) ha.out hb.out _ _ ⟨#[]⟩ his).mono ?_; rintro e wr21 ⟨rfl, hbr21⟩
    refine hK.out _ _ ?_ (fun hR21 => ?_)
    · exact keepK4 hR20 hbr21
    clear hK K
    try simp only [List.getElem_toArray, List.getElem_cons_zero, List.getElem_cons_succ, Act.put, List.setIfInBounds_toArray, List.set_cons_zero, List.set_cons_succ]
    refine wpAnyH_ready (rs := [43]) (by kernel_rfl) (by simp) ?_
    refine AllReadyH.cons rfl (fun K hK => ?_) AllReadyH.nil
    go_simp
    go_at_call 27; refine (not_is k14 n14 ⟨#[]⟩ _ (hL.below (belowK4 hR21)) i14.out _ _ ⟨#[]⟩ hisnis).mono ?_; rintro e wr22 ⟨rfl, hbr22⟩
    refine hK.out _ _ ?_ (fun hR22 => ?_)
    · exact keepK4 hR21 hbr22
    clear hK K
    try simp only [List.getElem_toArray, List.getElem_cons_zero, List.getElem_cons_succ, Act.put, List.setIfInBounds_toArray, List.set_cons_zero, List.set_cons_succ]
    refine wpAnyH_take (i := 44) (v := ?_) rfl (by kernel_rfl) (by kernel_rfl) (by kernel_rfl) (fun _ _ _ h => h) (Or.inl ⟨by rfl, ?_⟩) hR22 ?_
    rotate_left
    · (intro W hSw; (try dsimp only at hSw); go_simp; try with_reducible rfl)
    try simp only [List.getElem_toArray, List.getElem_cons_zero, List.getElem_cons_succ, Act.put, List.setIfInBounds_toArray, List.set_cons_zero, List.set_cons_succ]
    refine wpAnyH_take (i := 45) (v := ?_) rfl (by kernel_rfl) (by kernel_rfl) (by kernel_rfl) (fun _ _ _ h => h) (Or.inl ⟨by rfl, ?_⟩) hR22 ?_
    rotate_left
    · (intro W hSw; (try dsimp only at hSw); go_simp; try with_reducible rfl)
    try simp only [List.getElem_toArray, List.getElem_cons_zero, List.getElem_cons_succ, Act.put, List.setIfInBounds_toArray, List.set_cons_zero, List.set_cons_succ]
    refine wpAnyH_done (by kernel_rfl) ?_ _
    go_wp2_with fail
    have hQd := keepKd4 hR22
    obtain ⟨WR, hWR⟩ : ∃ W, wr22.drew = W := ⟨_, rfl⟩
    rw [hWR] at hQd
    refine wp_region_held_drew (S := (fun W => W.cell? ⟨w.heap.size, 0, none⟩ = some (.int .i64 ka) ∧ W.cell? ⟨w.heap.size, 1, none⟩ = some (.int .i64 na) ∧ W.cell? ⟨w.heap.size, 2, none⟩ = some (.string ta) ∧ w.heap.size < W.heap.size ∧ W.cell? ⟨(w.heap.size + 1), 0, none⟩ = some (.int .i64 kb) ∧ W.cell? ⟨(w.heap.size + 1), 1, none⟩ = some (.int .i64 nb) ∧ W.cell? ⟨(w.heap.size + 1), 2, none⟩ = some (.string tb) ∧ (w.heap.size + 1) < W.heap.size ∧ W.cell? ⟨g8, 0, none⟩ = some (.int .i64 k1) ∧ W.cell? ⟨g8, 1, none⟩ = some (.int .i64 n1) ∧ W.cell? ⟨g8, 2, none⟩ = some (.string ⟨#[]⟩) ∧ g8 < W.heap.size ∧ W.cell? ⟨g9, 0, none⟩ = some (.int .i64 k2) ∧ W.cell? ⟨g9, 1, none⟩ = some (.int .i64 n2) ∧ W.cell? ⟨g9, 2, none⟩ = some (.string ⟨#[]⟩) ∧ g9 < W.heap.size ∧ w.heap.size ≤ W.heap.size ∧ Below w.heap.size w W)) (by kernel_rfl) ?_ (fun hR0 => ?_)
    · rw [hWR]; exact hQd
    rw [hWR] at hR0 ⊢
    clear hWR hQd hR22
    refine wpAnyH_take (i := 0) (v := ?_) rfl (by kernel_rfl) (by kernel_rfl) (by kernel_rfl) (fun _ _ _ h => h) (Or.inl ⟨by rfl, ?_⟩) hR0 ?_
    rotate_left
    · (intro W hSw; (try dsimp only at hSw); go_simp; try with_reducible rfl)
    try simp only [List.getElem_toArray, List.getElem_cons_zero, List.getElem_cons_succ, Act.put, List.setIfInBounds_toArray, List.set_cons_zero, List.set_cons_succ]
    refine wpAnyH_take (i := 1) (v := ?_) rfl (by kernel_rfl) (by kernel_rfl) (by kernel_rfl) (fun _ _ _ h => h) (Or.inl ⟨by rfl, ?_⟩) hR0 ?_
    rotate_left
    · (intro W hSw; (try dsimp only at hSw); go_simp; try with_reducible rfl)
    try simp only [List.getElem_toArray, List.getElem_cons_zero, List.getElem_cons_succ, Act.put, List.setIfInBounds_toArray, List.set_cons_zero, List.set_cons_succ]
    refine wpAnyH_take (i := 2) (v := ?_) rfl (by kernel_rfl) (by kernel_rfl) (by kernel_rfl) (fun _ _ _ h => h) (Or.inl ⟨by rfl, ?_⟩) hR0 ?_
    rotate_left
    · (intro W hSw; (try dsimp only at hSw); go_simp; try with_reducible rfl)
    try simp only [List.getElem_toArray, List.getElem_cons_zero, List.getElem_cons_succ, Act.put, List.setIfInBounds_toArray, List.set_cons_zero, List.set_cons_succ]
    refine wpAnyH_take (i := 4) (v := ?_) rfl (by kernel_rfl) (by kernel_rfl) (by kernel_rfl) (fun _ _ _ h => h) (Or.inl ⟨by rfl, ?_⟩) hR0 ?_
    rotate_left
    · (intro W hSw; (try dsimp only at hSw); go_simp; try with_reducible rfl)
    try simp only [List.getElem_toArray, List.getElem_cons_zero, List.getElem_cons_succ, Act.put, List.setIfInBounds_toArray, List.set_cons_zero, List.set_cons_succ]
    refine wpAnyH_take (i := 5) (v := ?_) rfl (by kernel_rfl) (by kernel_rfl) (by kernel_rfl) (fun _ _ _ h => h) (Or.inl ⟨by rfl, ?_⟩) hR0 ?_
    rotate_left
    · (intro W hSw; (try dsimp only at hSw); go_simp; try with_reducible rfl)
    try simp only [List.getElem_toArray, List.getElem_cons_zero, List.getElem_cons_succ, Act.put, List.setIfInBounds_toArray, List.set_cons_zero, List.set_cons_succ]
    refine wpAnyH_take (i := 6) (v := ?_) rfl (by kernel_rfl) (by kernel_rfl) (by kernel_rfl) (fun _ _ _ h => h) (Or.inl ⟨by rfl, ?_⟩) hR0 ?_
    rotate_left
    · (intro W hSw; (try dsimp only at hSw); go_simp; try with_reducible rfl)
    try simp only [List.getElem_toArray, List.getElem_cons_zero, List.getElem_cons_succ, Act.put, List.setIfInBounds_toArray, List.set_cons_zero, List.set_cons_succ]
    refine wpAnyH_ready (rs := [3]) (by kernel_rfl) (by simp) ?_
    refine AllReadyH.cons rfl (fun K hK => ?_) AllReadyH.nil
    go_simp
    go_at_call 26; refine (two_is 15 ka na ta kb nb tb c _ (hL.below (belowK4 hR0)) ha.out hb.out _ _ ⟨#[]⟩ hlt).mono ?_; rintro e wr23 ⟨rfl, hbr23⟩
    refine hK.out _ _ ?_ (fun hR23 => ?_)
    · exact keepK4 hR0 hbr23
    clear hK K
    try simp only [List.getElem_toArray, List.getElem_cons_zero, List.getElem_cons_succ, Act.put, List.setIfInBounds_toArray, List.set_cons_zero, List.set_cons_succ]
    refine wpAnyH_ready (rs := [7]) (by kernel_rfl) (by simp) ?_
    refine AllReadyH.cons rfl (fun K hK => ?_) AllReadyH.nil
    go_simp
    go_at_call 26; refine (two_is 17 kb nb tb ka na ta c _ (hL.below (belowK4 hR23)) hb.out ha.out _ _ ⟨#[]⟩ hgt2).mono ?_; rintro e wr24 ⟨rfl, hbr24⟩
    refine hK.out _ _ ?_ (fun hR24 => ?_)
    · exact keepK4 hR23 hbr24
    clear hK K
    try simp only [List.getElem_toArray, List.getElem_cons_zero, List.getElem_cons_succ, Act.put, List.setIfInBounds_toArray, List.set_cons_zero, List.set_cons_succ]
    refine wpAnyH_take (i := 8) (v := ?_) rfl (by kernel_rfl) (by kernel_rfl) (by kernel_rfl) (fun _ _ _ h => h) (Or.inl ⟨by rfl, ?_⟩) hR24 ?_
    rotate_left
    · (intro W hSw; (try dsimp only at hSw); go_simp; try with_reducible rfl)
    try simp only [List.getElem_toArray, List.getElem_cons_zero, List.getElem_cons_succ, Act.put, List.setIfInBounds_toArray, List.set_cons_zero, List.set_cons_succ]
    refine wpAnyH_take (i := 9) (v := ?_) rfl (by kernel_rfl) (by kernel_rfl) (by kernel_rfl) (fun _ _ _ h => h) (Or.inl ⟨by rfl, ?_⟩) hR24 ?_
    rotate_left
    · (intro W hSw; (try dsimp only at hSw); go_simp; try with_reducible rfl)
    try simp only [List.getElem_toArray, List.getElem_cons_zero, List.getElem_cons_succ, Act.put, List.setIfInBounds_toArray, List.set_cons_zero, List.set_cons_succ]
    refine wpAnyH_take (i := 10) (v := ?_) rfl (by kernel_rfl) (by kernel_rfl) (by kernel_rfl) (fun _ _ _ h => h) (Or.inl ⟨by rfl, ?_⟩) hR24 ?_
    rotate_left
    · (intro W hSw; (try dsimp only at hSw); go_simp; try with_reducible rfl)
    try simp only [List.getElem_toArray, List.getElem_cons_zero, List.getElem_cons_succ, Act.put, List.setIfInBounds_toArray, List.set_cons_zero, List.set_cons_succ]
    refine wpAnyH_take (i := 11) (v := ?_) rfl (by kernel_rfl) (by kernel_rfl) (by kernel_rfl) (fun _ _ _ h => h) (Or.inl ⟨by rfl, ?_⟩) hR24 ?_
    rotate_left
    · (intro W hSw; (try dsimp only at hSw); go_simp; try with_reducible rfl)
    try simp only [List.getElem_toArray, List.getElem_cons_zero, List.getElem_cons_succ, Act.put, List.setIfInBounds_toArray, List.set_cons_zero, List.set_cons_succ]
    refine wpAnyH_take (i := 13) (v := ?_) rfl (by kernel_rfl) (by kernel_rfl) (by kernel_rfl) (fun _ _ _ h => h) (Or.inl ⟨by rfl, ?_⟩) hR24 ?_
    rotate_left
    · (intro W hSw; (try dsimp only at hSw); go_simp; try with_reducible rfl)
    try simp only [List.getElem_toArray, List.getElem_cons_zero, List.getElem_cons_succ, Act.put, List.setIfInBounds_toArray, List.set_cons_zero, List.set_cons_succ]
    refine wpAnyH_take (i := 15) (v := ?_) rfl (by kernel_rfl) (by kernel_rfl) (by kernel_rfl) (fun _ _ _ h => h) (Or.inl ⟨by rfl, ?_⟩) hR24 ?_
    rotate_left
    · (intro W hSw; (try dsimp only at hSw); go_simp; try with_reducible rfl)
    try simp only [List.getElem_toArray, List.getElem_cons_zero, List.getElem_cons_succ, Act.put, List.setIfInBounds_toArray, List.set_cons_zero, List.set_cons_succ]
    refine wpAnyH_take (i := 16) (v := ?_) rfl (by kernel_rfl) (by kernel_rfl) (by kernel_rfl) (fun _ _ _ h => h) (Or.inl ⟨by rfl, ?_⟩) hR24 ?_
    rotate_left
    · (intro W hSw; (try dsimp only at hSw); go_simp; try with_reducible rfl)
    try simp only [List.getElem_toArray, List.getElem_cons_zero, List.getElem_cons_succ, Act.put, List.setIfInBounds_toArray, List.set_cons_zero, List.set_cons_succ]
    refine wpAnyH_take (i := 17) (v := ?_) rfl (by kernel_rfl) (by kernel_rfl) (by kernel_rfl) (fun _ _ _ h => h) (Or.inl ⟨by rfl, ?_⟩) hR24 ?_
    rotate_left
    · (intro W hSw; (try dsimp only at hSw); go_simp; try with_reducible rfl)
    try simp only [List.getElem_toArray, List.getElem_cons_zero, List.getElem_cons_succ, Act.put, List.setIfInBounds_toArray, List.set_cons_zero, List.set_cons_succ]
    refine wpAnyH_ready (rs := [12]) (by kernel_rfl) (by simp) ?_
    refine AllReadyH.cons rfl (fun K hK => ?_) AllReadyH.nil
    go_simp
    refine hK.out _ _ ?_ (fun hR25 => ?_)
    · exact keepK4 hR24 ((Below.refl _ _).alloc (Nat.le_refl _) _)
    clear hK K
    try simp only [List.getElem_toArray, List.getElem_cons_zero, List.getElem_cons_succ, Act.put, List.setIfInBounds_toArray, List.set_cons_zero, List.set_cons_succ]
    refine wpAnyH_ready (rs := [14]) (by kernel_rfl) (by simp) ?_
    refine AllReadyH.cons rfl (fun K hK => ?_) AllReadyH.nil
    go_simp
    go_at_call 22; refine (cin_is ka na ta _ _ _ [⟨kb, nb, tb.data.toList⟩] c _ (one_at kb nb tb _ wr24) (by decide) _ _ hin).mono ?_; rintro e wr26 ⟨rfl, hbr26⟩
    refine hK.out _ _ ?_ (fun hR26 => ?_)
    · exact keepK4 hR25 hbr26
    clear hK K
    try simp only [List.getElem_toArray, List.getElem_cons_zero, List.getElem_cons_succ, Act.put, List.setIfInBounds_toArray, List.set_cons_zero, List.set_cons_succ]
    refine wpAnyH_ready (rs := [18]) (by kernel_rfl) (by simp) ?_
    refine AllReadyH.cons rfl (fun K hK => ?_) AllReadyH.nil
    go_simp
    go_at_call 26; refine (two_is 13 ka na ta kb nb tb c _ (hL.below (belowK4 hR26)) ha.out hb.out _ _ ⟨#[]⟩ heq).mono ?_; rintro e wr27 ⟨rfl, hbr27⟩
    refine hK.out _ _ ?_ (fun hR27 => ?_)
    · exact keepK4 hR26 hbr27
    clear hK K
    try simp only [List.getElem_toArray, List.getElem_cons_zero, List.getElem_cons_succ, Act.put, List.setIfInBounds_toArray, List.set_cons_zero, List.set_cons_succ]
    refine wpAnyH_take (i := 19) (v := ?_) rfl (by kernel_rfl) (by kernel_rfl) (by kernel_rfl) (fun _ _ _ h => h) (Or.inl ⟨by rfl, ?_⟩) hR27 ?_
    rotate_left
    · (intro W hSw; (try dsimp only at hSw); go_simp; try with_reducible rfl)
    try simp only [List.getElem_toArray, List.getElem_cons_zero, List.getElem_cons_succ, Act.put, List.setIfInBounds_toArray, List.set_cons_zero, List.set_cons_succ]
    refine wpAnyH_take (i := 20) (v := ?_) rfl (by kernel_rfl) (by kernel_rfl) (by kernel_rfl) (fun _ _ _ h => h) (Or.inl ⟨by rfl, ?_⟩) hR27 ?_
    rotate_left
    · (intro W hSw; (try dsimp only at hSw); go_simp; try with_reducible rfl)
    try simp only [List.getElem_toArray, List.getElem_cons_zero, List.getElem_cons_succ, Act.put, List.setIfInBounds_toArray, List.set_cons_zero, List.set_cons_succ]
    refine wpAnyH_take (i := 21) (v := ?_) rfl (by kernel_rfl) (by kernel_rfl) (by kernel_rfl) (fun _ _ _ h => h) (Or.inl ⟨by rfl, ?_⟩) hR27 ?_
    rotate_left
    · (intro W hSw; (try dsimp only at hSw); go_simp; try with_reducible rfl)
    try simp only [List.getElem_toArray, List.getElem_cons_zero, List.getElem_cons_succ, Act.put, List.setIfInBounds_toArray, List.set_cons_zero, List.set_cons_succ]
    refine wpAnyH_done (by kernel_rfl) ?_ _
    go_wp2
    go_ret
    exact ⟨rfl, belowK4 hR27⟩

end Go.Proofs.YthdpgekjbkpomaaGreatDoor
