/- Walks: the law CalcBack, a case. -/
import Derived.Test.YthdpgekjbkpomaaGreatDoorCalcTw
import Derived.Test.YthdpgekjbkpomaaGreatDoorCalcS1
import Derived.Test.YthdpgekjbkpomaaGreatDoorCalcS2
import Derived.Test.YthdpgekjbkpomaaGreatDoorBlkK
set_option maxRecDepth 100000
set_option linter.unusedVariables false
set_option linter.unusedSimpArgs false
namespace Go.Proofs.YthdpgekjbkpomaaGreatDoor
open Go.RowKit

set_option maxHeartbeats 16000000 in
theorem calc_back_over (x y : Int) (w : World) (hL : Lits w) (hx : Val.inr x) (hy : Val.inr y) (ns nq nr : Int) (h0 : y ≠ 0) (h1 : x = -9223372036854775808) (h2 : y = -1) (is : Val.inr ns) (iq : Val.inr nq) (ir : Val.inr nr)
    (hs : Hid (Val.two 7 ⟨1, x, (⟨#[]⟩ : ByteArray).data.toList⟩ ⟨1, y, (⟨#[]⟩ : ByteArray).data.toList⟩ 0 = ⟨0, ns, (⟨#[]⟩ : ByteArray).data.toList⟩)) (hq : Hid (Val.two 10 ⟨1, x, (⟨#[]⟩ : ByteArray).data.toList⟩ ⟨1, y, (⟨#[]⟩ : ByteArray).data.toList⟩ 0 = ⟨0, nq, (⟨#[]⟩ : ByteArray).data.toList⟩)) (hr : Hid (Val.two 11 ⟨1, x, (⟨#[]⟩ : ByteArray).data.toList⟩ ⟨1, y, (⟨#[]⟩ : ByteArray).data.toList⟩ 0 = ⟨1, nr, (⟨#[]⟩ : ByteArray).data.toList⟩)) :
    Calls Tryz.prog 10 #[.int .i64 x, .int .i64 y] w fun e w' => e = .returned (.bool true) ∧ Below w.heap.size w w' := by
  have b0 : (y == 0) = false := by simp [h0]
  have b1 : (x == -9223372036854775808) = true := by simp [h1]
  have b2 : (y == -1) = true := by simp [h2]
  clear h0 h1 h2
  obtain ⟨tx, htx⟩ : ∃ tx, bs (Lib.itoa x) = tx := ⟨_, rfl⟩
  have htd : tx.data.toList = Lib.itoa x := by rw [← htx]; rfl
  have hc1 : Val.cast ⟨1, x, (⟨#[]⟩ : ByteArray).data.toList⟩ (⟨#[116, 101, 120, 116]⟩ : ByteArray).data.toList = (⟨2, 0, tx.data.toList⟩, 0) := by rw [htd]; exact Val.cast_text (n := x)
  have hc2 : Val.cast ⟨2, 0, tx.data.toList⟩ (⟨#[73, 78, 84, 69, 71, 69, 82]⟩ : ByteArray).data.toList = (⟨1, x, (⟨#[]⟩ : ByteArray).data.toList⟩, 0) := by rw [htd]; exact Val.cast_int hx
  have hp1 : Val.apply 1 ⟨2, 0, tx.data.toList⟩ = ⟨1, x, (⟨#[]⟩ : ByteArray).data.toList⟩ := by rw [htd]; exact Val.apply_itoa hx
  have hp2 : Val.apply 2 ⟨1, x, (⟨#[]⟩ : ByteArray).data.toList⟩ = ⟨2, 0, tx.data.toList⟩ := by rw [htd]; exact Val.apply_text
  have i0 : Val.inr 0 := ⟨by decide, by decide⟩
  replace hc1 := Lib.hid hc1
  replace hc2 := Lib.hid hc2
  replace hp1 := Lib.hid hp1
  replace hp2 := Lib.hid hp2
  replace hx := Lib.hid hx
  replace hy := Lib.hid hy
  replace is := Lib.hid is
  replace iq := Lib.hid iq
  replace ir := Lib.hid ir
  replace i0 := Lib.hid i0
  clear htd htx
  go_enter Tryz.func10, Tryz.ntmps10
  go_wp2_with (first
    | (go_at_call 13; refine (head3_any _ hL).mono ?_; rintro e w1 ⟨rfl, hb1⟩)
    | (go_at_call 36; first
      | (have hq9 := hb2; refine (rint_any _ _).mono ?_; rintro e w3 ⟨rfl, hb3⟩; have hK3 := snocKK0 (.int .i64 1) (.int .i64 x) (.string ⟨#[]⟩) (.int .i64 1) (.int .i64 y) (.string ⟨#[]⟩) 24 24 (keepK0 (keepK0 (keepK0 ⟨Nat.le_refl _, Below.refl w.heap.size w⟩ hb1) hb2) hb3); obtain ⟨ka00, ka01, ka02, ka03, ka10, ka11, ka12, ka13, kas, kaB⟩ := id hK3)
      | (refine (rint_any _ _).mono ?_; rintro e w2 ⟨rfl, hb2⟩))
    | (go_at_call 26; refine (two_is 7 1 x ⟨#[]⟩ 1 y ⟨#[]⟩ 0 _ (hL.below (belowK2 hK3)) hx.out hy.out _ _ ⟨#[]⟩ hs).mono ?_; rintro e w4 ⟨rfl, hb4⟩; have hK4 := snocK2 (.int .i64 0) (.int .i64 ns) (.string ⟨#[]⟩) 24 (keepK2 hK3 hb4)))
  clear hK3 ka00 ka01 ka02 ka03 ka10 ka11 ka12 ka13 kas kaB
  obtain ⟨W0, hW0⟩ : ∃ W, (w4.alloc (.cells #[.int .i64 0, .int .i64 ns, .string ⟨#[]⟩] 24)).drew = W := ⟨_, rfl⟩
  have hK5 := keepKd3 hK4
  rw [hW0] at hK5
  refine wp_region_held_drew (S := (fun W => W.cell? ⟨w3.heap.size, 0, none⟩ = some (.int .i64 1) ∧ W.cell? ⟨w3.heap.size, 1, none⟩ = some (.int .i64 x) ∧ W.cell? ⟨w3.heap.size, 2, none⟩ = some (.string ⟨#[]⟩) ∧ w3.heap.size < W.heap.size ∧ W.cell? ⟨(w3.heap.size + 1), 0, none⟩ = some (.int .i64 1) ∧ W.cell? ⟨(w3.heap.size + 1), 1, none⟩ = some (.int .i64 y) ∧ W.cell? ⟨(w3.heap.size + 1), 2, none⟩ = some (.string ⟨#[]⟩) ∧ (w3.heap.size + 1) < W.heap.size ∧ W.cell? ⟨w4.heap.size, 0, none⟩ = some (.int .i64 0) ∧ W.cell? ⟨w4.heap.size, 1, none⟩ = some (.int .i64 ns) ∧ W.cell? ⟨w4.heap.size, 2, none⟩ = some (.string ⟨#[]⟩) ∧ w4.heap.size < W.heap.size ∧ w.heap.size ≤ W.heap.size ∧ Below w.heap.size w W)) (by kernel_rfl) ?_ (fun hH => ?_)
  · rw [hW0]; exact hK5
  rw [hW0] at hH ⊢
  clear hW0 hK4 hK5
  refine wpAnyH_take (i := 0) (v := ?_) rfl (by kernel_rfl) (by kernel_rfl) (by kernel_rfl) (fun _ _ _ h => h) (Or.inl ⟨by rfl, ?_⟩) hH ?_
  rotate_left
  · (intro W hSw; (try dsimp only at hSw); go_simp; try with_reducible rfl)
  try simp only [List.getElem_toArray, List.getElem_cons_zero, List.getElem_cons_succ, Act.put, List.setIfInBounds_toArray, List.set_cons_zero, List.set_cons_succ]
  refine wpAnyH_take (i := 1) (v := ?_) rfl (by kernel_rfl) (by kernel_rfl) (by kernel_rfl) (fun _ _ _ h => h) (Or.inl ⟨by rfl, ?_⟩) hH ?_
  rotate_left
  · (intro W hSw; (try dsimp only at hSw); go_simp; try with_reducible rfl)
  try simp only [List.getElem_toArray, List.getElem_cons_zero, List.getElem_cons_succ, Act.put, List.setIfInBounds_toArray, List.set_cons_zero, List.set_cons_succ]
  refine wpAnyH_take (i := 2) (v := ?_) rfl (by kernel_rfl) (by kernel_rfl) (by kernel_rfl) (fun _ _ _ h => h) (Or.inl ⟨by rfl, ?_⟩) hH ?_
  rotate_left
  · (intro W hSw; (try dsimp only at hSw); go_simp; try with_reducible rfl)
  try simp only [List.getElem_toArray, List.getElem_cons_zero, List.getElem_cons_succ, Act.put, List.setIfInBounds_toArray, List.set_cons_zero, List.set_cons_succ]
  refine wpAnyH_take (i := 3) (v := ?_) rfl (by kernel_rfl) (by kernel_rfl) (by kernel_rfl) (fun _ _ _ h => h) (Or.inl ⟨by rfl, ?_⟩) hH ?_
  rotate_left
  · (intro W hSw; (try dsimp only at hSw); go_simp; try with_reducible rfl)
  try simp only [List.getElem_toArray, List.getElem_cons_zero, List.getElem_cons_succ, Act.put, List.setIfInBounds_toArray, List.set_cons_zero, List.set_cons_succ]
  refine wpAnyH_take (i := 4) (v := undef) rfl (by kernel_rfl) (by kernel_rfl) (by kernel_rfl) (fun _ _ _ h => h) (Or.inr ⟨by rfl, rfl⟩) hH ?_
  try simp only [List.getElem_toArray, List.getElem_cons_zero, List.getElem_cons_succ, Act.put, List.setIfInBounds_toArray, List.set_cons_zero, List.set_cons_succ]
  refine wpAnyH_take (i := 5) (v := undef) rfl (by kernel_rfl) (by kernel_rfl) (by kernel_rfl) (fun _ _ _ h => h) (Or.inr ⟨by rfl, rfl⟩) hH ?_
  try simp only [List.getElem_toArray, List.getElem_cons_zero, List.getElem_cons_succ, Act.put, List.setIfInBounds_toArray, List.set_cons_zero, List.set_cons_succ]
  refine wpAnyH_take (i := 6) (v := undef) rfl (by kernel_rfl) (by kernel_rfl) (by kernel_rfl) (fun _ _ _ h => h) (Or.inr ⟨by rfl, rfl⟩) hH ?_
  try simp only [List.getElem_toArray, List.getElem_cons_zero, List.getElem_cons_succ, Act.put, List.setIfInBounds_toArray, List.set_cons_zero, List.set_cons_succ]
  refine wpAnyH_take (i := 7) (v := undef) rfl (by kernel_rfl) (by kernel_rfl) (by kernel_rfl) (fun _ _ _ h => h) (Or.inr ⟨by rfl, rfl⟩) hH ?_
  try simp only [List.getElem_toArray, List.getElem_cons_zero, List.getElem_cons_succ, Act.put, List.setIfInBounds_toArray, List.set_cons_zero, List.set_cons_succ]
  refine wpAnyH_take (i := 8) (v := undef) rfl (by kernel_rfl) (by kernel_rfl) (by kernel_rfl) (fun _ _ _ h => h) (Or.inr ⟨by rfl, rfl⟩) hH ?_
  try simp only [List.getElem_toArray, List.getElem_cons_zero, List.getElem_cons_succ, Act.put, List.setIfInBounds_toArray, List.set_cons_zero, List.set_cons_succ]
  refine wpAnyH_take (i := 9) (v := undef) rfl (by kernel_rfl) (by kernel_rfl) (by kernel_rfl) (fun _ _ _ h => h) (Or.inr ⟨by rfl, rfl⟩) hH ?_
  try simp only [List.getElem_toArray, List.getElem_cons_zero, List.getElem_cons_succ, Act.put, List.setIfInBounds_toArray, List.set_cons_zero, List.set_cons_succ]
  refine wpAnyH_take (i := 10) (v := ?_) rfl (by kernel_rfl) (by kernel_rfl) (by kernel_rfl) (fun _ _ _ h => h) (Or.inl ⟨by rfl, ?_⟩) hH ?_
  rotate_left
  · (intro W hSw; (try dsimp only at hSw); go_simp; try with_reducible rfl)
  try simp only [List.getElem_toArray, List.getElem_cons_zero, List.getElem_cons_succ, Act.put, List.setIfInBounds_toArray, List.set_cons_zero, List.set_cons_succ]
  refine wpAnyH_done (by kernel_rfl) ?_ _
  go_wp2_with fail
  have hK6 := keepKd3 hH
  obtain ⟨W1, hW1⟩ : ∃ W, W0.drew = W := ⟨_, rfl⟩
  rw [hW1] at hK6
  obtain ⟨B, hBB⟩ : ∃ B, W1.heap.size = B := ⟨_, rfl⟩
  have hbb : ∀ {W : World}, Below B W1 W → Below W1.heap.size W1 W := by rw [hBB]; exact fun h => h
  obtain ⟨kc00, kc01, kc02, kc03, kc10, kc11, kc12, kc13, kc20, kc21, kc22, kc23, kcs, kcB⟩ := id hK6
  rw [hBB] at kc03 kc13 kc23
  have r1 : Below B W1 W1 := Below.refl _ _
  have rB : B ≤ W1.heap.size := by omega
  replace hBB := Lib.hid hBB
  refine wp_region_held_drew (S := (fun W => B ≤ W.heap.size ∧ Below B W1 W)) (by kernel_rfl) ?_ (fun hH8 => ?_)
  · rw [hW1]; exact ⟨rB, r1⟩
  rw [hW1] at hH8 ⊢
  clear hW1 hH
  refine wpAnyH_take (i := 0) (v := ?_) rfl (by kernel_rfl) (by kernel_rfl) (by kernel_rfl) (fun _ _ _ h => h) (Or.inl ⟨by rfl, ?_⟩) hH8 ?_
  rotate_left
  · (intro W hSw; (try dsimp only at hSw); have z0 := (hSw.2.cell (p := ⟨w3.heap.size, 0, none⟩) kc03).trans kc00; have z1 := (hSw.2.cell (p := ⟨w3.heap.size, 1, none⟩) kc03).trans kc01; have z2 := (hSw.2.cell (p := ⟨w3.heap.size, 2, none⟩) kc03).trans kc02; go_simp; try with_reducible rfl)
  try simp only [List.getElem_toArray, List.getElem_cons_zero, List.getElem_cons_succ, Act.put, List.setIfInBounds_toArray, List.set_cons_zero, List.set_cons_succ]
  refine wpAnyH_take (i := 1) (v := ?_) rfl (by kernel_rfl) (by kernel_rfl) (by kernel_rfl) (fun _ _ _ h => h) (Or.inl ⟨by rfl, ?_⟩) hH8 ?_
  rotate_left
  · (intro W hSw; (try dsimp only at hSw); have z0 := (hSw.2.cell (p := ⟨w3.heap.size + 1, 0, none⟩) kc13).trans kc10; have z1 := (hSw.2.cell (p := ⟨w3.heap.size + 1, 1, none⟩) kc13).trans kc11; have z2 := (hSw.2.cell (p := ⟨w3.heap.size + 1, 2, none⟩) kc13).trans kc12; go_simp; try with_reducible rfl)
  try simp only [List.getElem_toArray, List.getElem_cons_zero, List.getElem_cons_succ, Act.put, List.setIfInBounds_toArray, List.set_cons_zero, List.set_cons_succ]
  refine wpAnyH_take (i := 2) (v := ?_) rfl (by kernel_rfl) (by kernel_rfl) (by kernel_rfl) (fun _ _ _ h => h) (Or.inl ⟨by rfl, ?_⟩) hH8 ?_
  rotate_left
  · (intro W hSw; (try dsimp only at hSw); go_simp; try with_reducible rfl)
  try simp only [List.getElem_toArray, List.getElem_cons_zero, List.getElem_cons_succ, Act.put, List.setIfInBounds_toArray, List.set_cons_zero, List.set_cons_succ]
  refine wpAnyH_take (i := 4) (v := ?_) rfl (by kernel_rfl) (by kernel_rfl) (by kernel_rfl) (fun _ _ _ h => h) (Or.inl ⟨by rfl, ?_⟩) hH8 ?_
  rotate_left
  · (intro W hSw; (try dsimp only at hSw); have z0 := (hSw.2.cell (p := ⟨w3.heap.size, 0, none⟩) kc03).trans kc00; have z1 := (hSw.2.cell (p := ⟨w3.heap.size, 1, none⟩) kc03).trans kc01; have z2 := (hSw.2.cell (p := ⟨w3.heap.size, 2, none⟩) kc03).trans kc02; go_simp; try with_reducible rfl)
  try simp only [List.getElem_toArray, List.getElem_cons_zero, List.getElem_cons_succ, Act.put, List.setIfInBounds_toArray, List.set_cons_zero, List.set_cons_succ]
  refine wpAnyH_take (i := 5) (v := ?_) rfl (by kernel_rfl) (by kernel_rfl) (by kernel_rfl) (fun _ _ _ h => h) (Or.inl ⟨by rfl, ?_⟩) hH8 ?_
  rotate_left
  · (intro W hSw; (try dsimp only at hSw); have z0 := (hSw.2.cell (p := ⟨w3.heap.size + 1, 0, none⟩) kc13).trans kc10; have z1 := (hSw.2.cell (p := ⟨w3.heap.size + 1, 1, none⟩) kc13).trans kc11; have z2 := (hSw.2.cell (p := ⟨w3.heap.size + 1, 2, none⟩) kc13).trans kc12; go_simp; try with_reducible rfl)
  try simp only [List.getElem_toArray, List.getElem_cons_zero, List.getElem_cons_succ, Act.put, List.setIfInBounds_toArray, List.set_cons_zero, List.set_cons_succ]
  refine wpAnyH_take (i := 6) (v := ?_) rfl (by kernel_rfl) (by kernel_rfl) (by kernel_rfl) (fun _ _ _ h => h) (Or.inl ⟨by rfl, ?_⟩) hH8 ?_
  rotate_left
  · (intro W hSw; (try dsimp only at hSw); go_simp; try with_reducible rfl)
  try simp only [List.getElem_toArray, List.getElem_cons_zero, List.getElem_cons_succ, Act.put, List.setIfInBounds_toArray, List.set_cons_zero, List.set_cons_succ]
  refine' (fun (key : ∀ (g8 g9 : Nat) (W : World), ((B ≤ W.heap.size ∧ Below B W1 W) ∧ OutAt W g8 0 0 ∧ OutAt W g9 0 0 ∧ g8 ≠ g9 ∧ B ≤ g8 ∧ B ≤ g9) → (_ : Nat → Nat → World → Prop) g8 g9 W) => ?main) ?keyp
  case main =>
    refine wpAnyH_ready (rs := [3, 8, 9]) (by kernel_rfl) (by simp) ?_
    refine AllReadyH.cons rfl (fun K hK => ?_) (AllReadyH.cons rfl (fun K hK => ?_) (AllReadyH.cons rfl (fun K hK => ?_) AllReadyH.nil))
    · go_simp
      go_at_call 26; refine (two_is 10 1 x ⟨#[]⟩ 1 y ⟨#[]⟩ 0 _ (hL.below (belowK3 (keepK3 hK6 (hbb hH8.2)))) hx.out hy.out _ _ ⟨#[]⟩ hq).mono ?_; rintro e W1q3 ⟨rfl, hb1⟩
      have hG1 : B ≤ W1q3.heap.size ∧ Below B W1 W1q3 := ⟨Nat.le_trans hH8.1 hb1.size, below_step hH8.2 hH8.1 hb1⟩
      refine hK.out _ _ ?_ (fun _ => ?_)
      · exact hG1
      clear hK K
      try simp only [List.getElem_toArray, List.getElem_cons_zero, List.getElem_cons_succ, Act.put, List.setIfInBounds_toArray, List.set_cons_zero, List.set_cons_succ]
      refine wpAnyH_ready (rs := [7, 8, 9]) (by kernel_rfl) (by simp) ?_
      refine AllReadyH.cons rfl (fun K hK => ?_) (AllReadyH.cons rfl (fun K hK => ?_) (AllReadyH.cons rfl (fun K hK => ?_) AllReadyH.nil))
      · go_simp
        go_at_call 26; refine (two_is 11 1 x ⟨#[]⟩ 1 y ⟨#[]⟩ 0 _ (hL.below (belowK3 (keepK3 hK6 (hbb hG1.2)))) hx.out hy.out _ _ ⟨#[]⟩ hr).mono ?_; rintro e W2q7 ⟨rfl, hb2⟩
        have hG2 : B ≤ W2q7.heap.size ∧ Below B W1 W2q7 := ⟨Nat.le_trans hG1.1 hb2.size, below_step hG1.2 hG1.1 hb2⟩
        refine hK.out _ _ ?_ (fun _ => ?_)
        · exact hG2
        clear hK K
        try simp only [List.getElem_toArray, List.getElem_cons_zero, List.getElem_cons_succ, Act.put, List.setIfInBounds_toArray, List.set_cons_zero, List.set_cons_succ]
        refine wpAnyH_ready (rs := [8, 9]) (by kernel_rfl) (by simp) ?_
        refine AllReadyH.cons rfl (fun K hK => ?_) (AllReadyH.cons rfl (fun K hK => ?_) AllReadyH.nil)
        · go_simp
          have hI8 := OutAt.new W2q7 0 0
          have hG3 : B ≤ (W2q7.alloc (.cells #[.int .i64 0, .int .i64 0, .string ⟨#[]⟩] 24)).heap.size ∧ Below B W1 (W2q7.alloc (.cells #[.int .i64 0, .int .i64 0, .string ⟨#[]⟩] 24)) := ⟨Nat.le_trans hG2.1 (by simp), hG2.2.alloc hG2.1 _⟩
          refine hK.out _ _ ?_ (fun _ => ?_)
          · exact hG3
          clear hK K
          try simp only [List.getElem_toArray, List.getElem_cons_zero, List.getElem_cons_succ, Act.put, List.setIfInBounds_toArray, List.set_cons_zero, List.set_cons_succ]
          obtain ⟨g8, hg8⟩ : ∃ g, W2q7.heap.size = g := ⟨_, rfl⟩
          have hg8B : B ≤ g8 := by rw [← hg8]; exact hG2.1
          rw [hg8] at hI8 ⊢
          obtain ⟨W3q8, hWn⟩ : ∃ W, W2q7.alloc (.cells #[.int .i64 0, .int .i64 0, .string ⟨#[]⟩] 24) = W := ⟨_, rfl⟩
          rw [hWn] at hI8 hG3 ⊢
          clear hWn
          refine wpAnyH_ready (rs := [9]) (by kernel_rfl) (by simp) ?_
          refine AllReadyH.cons rfl (fun K hK => ?_) AllReadyH.nil
          · go_simp
            have hI9 := OutAt.new W3q8 0 0
            have hG4 : B ≤ (W3q8.alloc (.cells #[.int .i64 0, .int .i64 0, .string ⟨#[]⟩] 24)).heap.size ∧ Below B W1 (W3q8.alloc (.cells #[.int .i64 0, .int .i64 0, .string ⟨#[]⟩] 24)) := ⟨Nat.le_trans hG3.1 (by simp), hG3.2.alloc hG3.1 _⟩
            have hlt := hI8.2.2.2.2.2.2
            replace hI8 := hI8.below (below_new W3q8 (.cells #[.int .i64 0, .int .i64 0, .string ⟨#[]⟩] 24))
            refine hK.out _ _ ?_ (fun _ => ?_)
            · exact hG4
            clear hK K
            try simp only [List.getElem_toArray, List.getElem_cons_zero, List.getElem_cons_succ, Act.put, List.setIfInBounds_toArray, List.set_cons_zero, List.set_cons_succ]
            obtain ⟨g9, hg9⟩ : ∃ g, W3q8.heap.size = g := ⟨_, rfl⟩
            have hg9B : B ≤ g9 := by rw [← hg9]; exact hG3.1
            have hne : g8 ≠ g9 := by omega
            rw [hg9] at hI9 ⊢
            obtain ⟨W4q9, hWn⟩ : ∃ W, W3q8.alloc (.cells #[.int .i64 0, .int .i64 0, .string ⟨#[]⟩] 24) = W := ⟨_, rfl⟩
            rw [hWn] at hI9 hG4 hI8 ⊢
            clear hWn
            exact key g8 g9 W4q9 ⟨hG4, hI8, hI9, hne, hg8B, hg9B⟩
        · go_simp
          have hI9 := OutAt.new W2q7 0 0
          have hG3 : B ≤ (W2q7.alloc (.cells #[.int .i64 0, .int .i64 0, .string ⟨#[]⟩] 24)).heap.size ∧ Below B W1 (W2q7.alloc (.cells #[.int .i64 0, .int .i64 0, .string ⟨#[]⟩] 24)) := ⟨Nat.le_trans hG2.1 (by simp), hG2.2.alloc hG2.1 _⟩
          refine hK.out _ _ ?_ (fun _ => ?_)
          · exact hG3
          clear hK K
          try simp only [List.getElem_toArray, List.getElem_cons_zero, List.getElem_cons_succ, Act.put, List.setIfInBounds_toArray, List.set_cons_zero, List.set_cons_succ]
          obtain ⟨g9, hg9⟩ : ∃ g, W2q7.heap.size = g := ⟨_, rfl⟩
          have hg9B : B ≤ g9 := by rw [← hg9]; exact hG2.1
          rw [hg9] at hI9 ⊢
          obtain ⟨W3q9, hWn⟩ : ∃ W, W2q7.alloc (.cells #[.int .i64 0, .int .i64 0, .string ⟨#[]⟩] 24) = W := ⟨_, rfl⟩
          rw [hWn] at hI9 hG3 ⊢
          clear hWn
          refine wpAnyH_ready (rs := [8]) (by kernel_rfl) (by simp) ?_
          refine AllReadyH.cons rfl (fun K hK => ?_) AllReadyH.nil
          · go_simp
            have hI8 := OutAt.new W3q9 0 0
            have hG4 : B ≤ (W3q9.alloc (.cells #[.int .i64 0, .int .i64 0, .string ⟨#[]⟩] 24)).heap.size ∧ Below B W1 (W3q9.alloc (.cells #[.int .i64 0, .int .i64 0, .string ⟨#[]⟩] 24)) := ⟨Nat.le_trans hG3.1 (by simp), hG3.2.alloc hG3.1 _⟩
            have hlt := hI9.2.2.2.2.2.2
            replace hI9 := hI9.below (below_new W3q9 (.cells #[.int .i64 0, .int .i64 0, .string ⟨#[]⟩] 24))
            refine hK.out _ _ ?_ (fun _ => ?_)
            · exact hG4
            clear hK K
            try simp only [List.getElem_toArray, List.getElem_cons_zero, List.getElem_cons_succ, Act.put, List.setIfInBounds_toArray, List.set_cons_zero, List.set_cons_succ]
            obtain ⟨g8, hg8⟩ : ∃ g, W3q9.heap.size = g := ⟨_, rfl⟩
            have hg8B : B ≤ g8 := by rw [← hg8]; exact hG3.1
            have hne : g8 ≠ g9 := by omega
            rw [hg8] at hI8 ⊢
            obtain ⟨W4q8, hWn⟩ : ∃ W, W3q9.alloc (.cells #[.int .i64 0, .int .i64 0, .string ⟨#[]⟩] 24) = W := ⟨_, rfl⟩
            rw [hWn] at hI8 hG4 hI9 ⊢
            clear hWn
            exact key g8 g9 W4q8 ⟨hG4, hI8, hI9, hne, hg8B, hg9B⟩
      · go_simp
        have hI8 := OutAt.new W1q3 0 0
        have hG2 : B ≤ (W1q3.alloc (.cells #[.int .i64 0, .int .i64 0, .string ⟨#[]⟩] 24)).heap.size ∧ Below B W1 (W1q3.alloc (.cells #[.int .i64 0, .int .i64 0, .string ⟨#[]⟩] 24)) := ⟨Nat.le_trans hG1.1 (by simp), hG1.2.alloc hG1.1 _⟩
        refine hK.out _ _ ?_ (fun _ => ?_)
        · exact hG2
        clear hK K
        try simp only [List.getElem_toArray, List.getElem_cons_zero, List.getElem_cons_succ, Act.put, List.setIfInBounds_toArray, List.set_cons_zero, List.set_cons_succ]
        obtain ⟨g8, hg8⟩ : ∃ g, W1q3.heap.size = g := ⟨_, rfl⟩
        have hg8B : B ≤ g8 := by rw [← hg8]; exact hG1.1
        rw [hg8] at hI8 ⊢
        obtain ⟨W2q8, hWn⟩ : ∃ W, W1q3.alloc (.cells #[.int .i64 0, .int .i64 0, .string ⟨#[]⟩] 24) = W := ⟨_, rfl⟩
        rw [hWn] at hI8 hG2 ⊢
        clear hWn
        refine wpAnyH_ready (rs := [7, 9]) (by kernel_rfl) (by simp) ?_
        refine AllReadyH.cons rfl (fun K hK => ?_) (AllReadyH.cons rfl (fun K hK => ?_) AllReadyH.nil)
        · go_simp
          go_at_call 26; refine (two_is 11 1 x ⟨#[]⟩ 1 y ⟨#[]⟩ 0 _ (hL.below (belowK3 (keepK3 hK6 (hbb hG2.2)))) hx.out hy.out _ _ ⟨#[]⟩ hr).mono ?_; rintro e W3q7 ⟨rfl, hb3⟩
          have hG3 : B ≤ W3q7.heap.size ∧ Below B W1 W3q7 := ⟨Nat.le_trans hG2.1 hb3.size, below_step hG2.2 hG2.1 hb3⟩
          replace hI8 := hI8.below hb3
          refine hK.out _ _ ?_ (fun _ => ?_)
          · exact hG3
          clear hK K
          try simp only [List.getElem_toArray, List.getElem_cons_zero, List.getElem_cons_succ, Act.put, List.setIfInBounds_toArray, List.set_cons_zero, List.set_cons_succ]
          refine wpAnyH_ready (rs := [9]) (by kernel_rfl) (by simp) ?_
          refine AllReadyH.cons rfl (fun K hK => ?_) AllReadyH.nil
          · go_simp
            have hI9 := OutAt.new W3q7 0 0
            have hG4 : B ≤ (W3q7.alloc (.cells #[.int .i64 0, .int .i64 0, .string ⟨#[]⟩] 24)).heap.size ∧ Below B W1 (W3q7.alloc (.cells #[.int .i64 0, .int .i64 0, .string ⟨#[]⟩] 24)) := ⟨Nat.le_trans hG3.1 (by simp), hG3.2.alloc hG3.1 _⟩
            have hlt := hI8.2.2.2.2.2.2
            replace hI8 := hI8.below (below_new W3q7 (.cells #[.int .i64 0, .int .i64 0, .string ⟨#[]⟩] 24))
            refine hK.out _ _ ?_ (fun _ => ?_)
            · exact hG4
            clear hK K
            try simp only [List.getElem_toArray, List.getElem_cons_zero, List.getElem_cons_succ, Act.put, List.setIfInBounds_toArray, List.set_cons_zero, List.set_cons_succ]
            obtain ⟨g9, hg9⟩ : ∃ g, W3q7.heap.size = g := ⟨_, rfl⟩
            have hg9B : B ≤ g9 := by rw [← hg9]; exact hG3.1
            have hne : g8 ≠ g9 := by omega
            rw [hg9] at hI9 ⊢
            obtain ⟨W4q9, hWn⟩ : ∃ W, W3q7.alloc (.cells #[.int .i64 0, .int .i64 0, .string ⟨#[]⟩] 24) = W := ⟨_, rfl⟩
            rw [hWn] at hI9 hG4 hI8 ⊢
            clear hWn
            exact key g8 g9 W4q9 ⟨hG4, hI8, hI9, hne, hg8B, hg9B⟩
        · go_simp
          have hI9 := OutAt.new W2q8 0 0
          have hG3 : B ≤ (W2q8.alloc (.cells #[.int .i64 0, .int .i64 0, .string ⟨#[]⟩] 24)).heap.size ∧ Below B W1 (W2q8.alloc (.cells #[.int .i64 0, .int .i64 0, .string ⟨#[]⟩] 24)) := ⟨Nat.le_trans hG2.1 (by simp), hG2.2.alloc hG2.1 _⟩
          have hlt := hI8.2.2.2.2.2.2
          replace hI8 := hI8.below (below_new W2q8 (.cells #[.int .i64 0, .int .i64 0, .string ⟨#[]⟩] 24))
          refine hK.out _ _ ?_ (fun _ => ?_)
          · exact hG3
          clear hK K
          try simp only [List.getElem_toArray, List.getElem_cons_zero, List.getElem_cons_succ, Act.put, List.setIfInBounds_toArray, List.set_cons_zero, List.set_cons_succ]
          obtain ⟨g9, hg9⟩ : ∃ g, W2q8.heap.size = g := ⟨_, rfl⟩
          have hg9B : B ≤ g9 := by rw [← hg9]; exact hG2.1
          have hne : g8 ≠ g9 := by omega
          rw [hg9] at hI9 ⊢
          obtain ⟨W3q9, hWn⟩ : ∃ W, W2q8.alloc (.cells #[.int .i64 0, .int .i64 0, .string ⟨#[]⟩] 24) = W := ⟨_, rfl⟩
          rw [hWn] at hI9 hG3 hI8 ⊢
          clear hWn
          refine wpAnyH_ready (rs := [7]) (by kernel_rfl) (by simp) ?_
          refine AllReadyH.cons rfl (fun K hK => ?_) AllReadyH.nil
          · go_simp
            go_at_call 26; refine (two_is 11 1 x ⟨#[]⟩ 1 y ⟨#[]⟩ 0 _ (hL.below (belowK3 (keepK3 hK6 (hbb hG3.2)))) hx.out hy.out _ _ ⟨#[]⟩ hr).mono ?_; rintro e W4q7 ⟨rfl, hb4⟩
            have hG4 : B ≤ W4q7.heap.size ∧ Below B W1 W4q7 := ⟨Nat.le_trans hG3.1 hb4.size, below_step hG3.2 hG3.1 hb4⟩
            replace hI8 := hI8.below hb4
            replace hI9 := hI9.below hb4
            refine hK.out _ _ ?_ (fun _ => ?_)
            · exact hG4
            clear hK K
            try simp only [List.getElem_toArray, List.getElem_cons_zero, List.getElem_cons_succ, Act.put, List.setIfInBounds_toArray, List.set_cons_zero, List.set_cons_succ]
            exact key g8 g9 W4q7 ⟨hG4, hI8, hI9, hne, hg8B, hg9B⟩
      · go_simp
        have hI9 := OutAt.new W1q3 0 0
        have hG2 : B ≤ (W1q3.alloc (.cells #[.int .i64 0, .int .i64 0, .string ⟨#[]⟩] 24)).heap.size ∧ Below B W1 (W1q3.alloc (.cells #[.int .i64 0, .int .i64 0, .string ⟨#[]⟩] 24)) := ⟨Nat.le_trans hG1.1 (by simp), hG1.2.alloc hG1.1 _⟩
        refine hK.out _ _ ?_ (fun _ => ?_)
        · exact hG2
        clear hK K
        try simp only [List.getElem_toArray, List.getElem_cons_zero, List.getElem_cons_succ, Act.put, List.setIfInBounds_toArray, List.set_cons_zero, List.set_cons_succ]
        obtain ⟨g9, hg9⟩ : ∃ g, W1q3.heap.size = g := ⟨_, rfl⟩
        have hg9B : B ≤ g9 := by rw [← hg9]; exact hG1.1
        rw [hg9] at hI9 ⊢
        obtain ⟨W2q9, hWn⟩ : ∃ W, W1q3.alloc (.cells #[.int .i64 0, .int .i64 0, .string ⟨#[]⟩] 24) = W := ⟨_, rfl⟩
        rw [hWn] at hI9 hG2 ⊢
        clear hWn
        refine wpAnyH_ready (rs := [7, 8]) (by kernel_rfl) (by simp) ?_
        refine AllReadyH.cons rfl (fun K hK => ?_) (AllReadyH.cons rfl (fun K hK => ?_) AllReadyH.nil)
        · go_simp
          go_at_call 26; refine (two_is 11 1 x ⟨#[]⟩ 1 y ⟨#[]⟩ 0 _ (hL.below (belowK3 (keepK3 hK6 (hbb hG2.2)))) hx.out hy.out _ _ ⟨#[]⟩ hr).mono ?_; rintro e W3q7 ⟨rfl, hb3⟩
          have hG3 : B ≤ W3q7.heap.size ∧ Below B W1 W3q7 := ⟨Nat.le_trans hG2.1 hb3.size, below_step hG2.2 hG2.1 hb3⟩
          replace hI9 := hI9.below hb3
          refine hK.out _ _ ?_ (fun _ => ?_)
          · exact hG3
          clear hK K
          try simp only [List.getElem_toArray, List.getElem_cons_zero, List.getElem_cons_succ, Act.put, List.setIfInBounds_toArray, List.set_cons_zero, List.set_cons_succ]
          refine wpAnyH_ready (rs := [8]) (by kernel_rfl) (by simp) ?_
          refine AllReadyH.cons rfl (fun K hK => ?_) AllReadyH.nil
          · go_simp
            have hI8 := OutAt.new W3q7 0 0
            have hG4 : B ≤ (W3q7.alloc (.cells #[.int .i64 0, .int .i64 0, .string ⟨#[]⟩] 24)).heap.size ∧ Below B W1 (W3q7.alloc (.cells #[.int .i64 0, .int .i64 0, .string ⟨#[]⟩] 24)) := ⟨Nat.le_trans hG3.1 (by simp), hG3.2.alloc hG3.1 _⟩
            have hlt := hI9.2.2.2.2.2.2
            replace hI9 := hI9.below (below_new W3q7 (.cells #[.int .i64 0, .int .i64 0, .string ⟨#[]⟩] 24))
            refine hK.out _ _ ?_ (fun _ => ?_)
            · exact hG4
            clear hK K
            try simp only [List.getElem_toArray, List.getElem_cons_zero, List.getElem_cons_succ, Act.put, List.setIfInBounds_toArray, List.set_cons_zero, List.set_cons_succ]
            obtain ⟨g8, hg8⟩ : ∃ g, W3q7.heap.size = g := ⟨_, rfl⟩
            have hg8B : B ≤ g8 := by rw [← hg8]; exact hG3.1
            have hne : g8 ≠ g9 := by omega
            rw [hg8] at hI8 ⊢
            obtain ⟨W4q8, hWn⟩ : ∃ W, W3q7.alloc (.cells #[.int .i64 0, .int .i64 0, .string ⟨#[]⟩] 24) = W := ⟨_, rfl⟩
            rw [hWn] at hI8 hG4 hI9 ⊢
            clear hWn
            exact key g8 g9 W4q8 ⟨hG4, hI8, hI9, hne, hg8B, hg9B⟩
        · go_simp
          have hI8 := OutAt.new W2q9 0 0
          have hG3 : B ≤ (W2q9.alloc (.cells #[.int .i64 0, .int .i64 0, .string ⟨#[]⟩] 24)).heap.size ∧ Below B W1 (W2q9.alloc (.cells #[.int .i64 0, .int .i64 0, .string ⟨#[]⟩] 24)) := ⟨Nat.le_trans hG2.1 (by simp), hG2.2.alloc hG2.1 _⟩
          have hlt := hI9.2.2.2.2.2.2
          replace hI9 := hI9.below (below_new W2q9 (.cells #[.int .i64 0, .int .i64 0, .string ⟨#[]⟩] 24))
          refine hK.out _ _ ?_ (fun _ => ?_)
          · exact hG3
          clear hK K
          try simp only [List.getElem_toArray, List.getElem_cons_zero, List.getElem_cons_succ, Act.put, List.setIfInBounds_toArray, List.set_cons_zero, List.set_cons_succ]
          obtain ⟨g8, hg8⟩ : ∃ g, W2q9.heap.size = g := ⟨_, rfl⟩
          have hg8B : B ≤ g8 := by rw [← hg8]; exact hG2.1
          have hne : g8 ≠ g9 := by omega
          rw [hg8] at hI8 ⊢
          obtain ⟨W3q8, hWn⟩ : ∃ W, W2q9.alloc (.cells #[.int .i64 0, .int .i64 0, .string ⟨#[]⟩] 24) = W := ⟨_, rfl⟩
          rw [hWn] at hI8 hG3 hI9 ⊢
          clear hWn
          refine wpAnyH_ready (rs := [7]) (by kernel_rfl) (by simp) ?_
          refine AllReadyH.cons rfl (fun K hK => ?_) AllReadyH.nil
          · go_simp
            go_at_call 26; refine (two_is 11 1 x ⟨#[]⟩ 1 y ⟨#[]⟩ 0 _ (hL.below (belowK3 (keepK3 hK6 (hbb hG3.2)))) hx.out hy.out _ _ ⟨#[]⟩ hr).mono ?_; rintro e W4q7 ⟨rfl, hb4⟩
            have hG4 : B ≤ W4q7.heap.size ∧ Below B W1 W4q7 := ⟨Nat.le_trans hG3.1 hb4.size, below_step hG3.2 hG3.1 hb4⟩
            replace hI8 := hI8.below hb4
            replace hI9 := hI9.below hb4
            refine hK.out _ _ ?_ (fun _ => ?_)
            · exact hG4
            clear hK K
            try simp only [List.getElem_toArray, List.getElem_cons_zero, List.getElem_cons_succ, Act.put, List.setIfInBounds_toArray, List.set_cons_zero, List.set_cons_succ]
            exact key g8 g9 W4q7 ⟨hG4, hI8, hI9, hne, hg8B, hg9B⟩
    · go_simp
      have hI8 := OutAt.new W1 0 0
      have hG1 : B ≤ (W1.alloc (.cells #[.int .i64 0, .int .i64 0, .string ⟨#[]⟩] 24)).heap.size ∧ Below B W1 (W1.alloc (.cells #[.int .i64 0, .int .i64 0, .string ⟨#[]⟩] 24)) := ⟨Nat.le_trans hH8.1 (by simp), hH8.2.alloc hH8.1 _⟩
      refine hK.out _ _ ?_ (fun _ => ?_)
      · exact hG1
      clear hK K
      try simp only [List.getElem_toArray, List.getElem_cons_zero, List.getElem_cons_succ, Act.put, List.setIfInBounds_toArray, List.set_cons_zero, List.set_cons_succ]
      obtain ⟨g8, hg8⟩ : ∃ g, W1.heap.size = g := ⟨_, rfl⟩
      have hg8B : B ≤ g8 := by rw [← hg8]; exact hH8.1
      rw [hg8] at hI8 ⊢
      obtain ⟨W1q8, hWn⟩ : ∃ W, W1.alloc (.cells #[.int .i64 0, .int .i64 0, .string ⟨#[]⟩] 24) = W := ⟨_, rfl⟩
      rw [hWn] at hI8 hG1 ⊢
      clear hWn
      refine wpAnyH_ready (rs := [3, 9]) (by kernel_rfl) (by simp) ?_
      refine AllReadyH.cons rfl (fun K hK => ?_) (AllReadyH.cons rfl (fun K hK => ?_) AllReadyH.nil)
      · go_simp
        go_at_call 26; refine (two_is 10 1 x ⟨#[]⟩ 1 y ⟨#[]⟩ 0 _ (hL.below (belowK3 (keepK3 hK6 (hbb hG1.2)))) hx.out hy.out _ _ ⟨#[]⟩ hq).mono ?_; rintro e W2q3 ⟨rfl, hb2⟩
        have hG2 : B ≤ W2q3.heap.size ∧ Below B W1 W2q3 := ⟨Nat.le_trans hG1.1 hb2.size, below_step hG1.2 hG1.1 hb2⟩
        replace hI8 := hI8.below hb2
        refine hK.out _ _ ?_ (fun _ => ?_)
        · exact hG2
        clear hK K
        try simp only [List.getElem_toArray, List.getElem_cons_zero, List.getElem_cons_succ, Act.put, List.setIfInBounds_toArray, List.set_cons_zero, List.set_cons_succ]
        refine wpAnyH_ready (rs := [7, 9]) (by kernel_rfl) (by simp) ?_
        refine AllReadyH.cons rfl (fun K hK => ?_) (AllReadyH.cons rfl (fun K hK => ?_) AllReadyH.nil)
        · go_simp
          go_at_call 26; refine (two_is 11 1 x ⟨#[]⟩ 1 y ⟨#[]⟩ 0 _ (hL.below (belowK3 (keepK3 hK6 (hbb hG2.2)))) hx.out hy.out _ _ ⟨#[]⟩ hr).mono ?_; rintro e W3q7 ⟨rfl, hb3⟩
          have hG3 : B ≤ W3q7.heap.size ∧ Below B W1 W3q7 := ⟨Nat.le_trans hG2.1 hb3.size, below_step hG2.2 hG2.1 hb3⟩
          replace hI8 := hI8.below hb3
          refine hK.out _ _ ?_ (fun _ => ?_)
          · exact hG3
          clear hK K
          try simp only [List.getElem_toArray, List.getElem_cons_zero, List.getElem_cons_succ, Act.put, List.setIfInBounds_toArray, List.set_cons_zero, List.set_cons_succ]
          refine wpAnyH_ready (rs := [9]) (by kernel_rfl) (by simp) ?_
          refine AllReadyH.cons rfl (fun K hK => ?_) AllReadyH.nil
          · go_simp
            have hI9 := OutAt.new W3q7 0 0
            have hG4 : B ≤ (W3q7.alloc (.cells #[.int .i64 0, .int .i64 0, .string ⟨#[]⟩] 24)).heap.size ∧ Below B W1 (W3q7.alloc (.cells #[.int .i64 0, .int .i64 0, .string ⟨#[]⟩] 24)) := ⟨Nat.le_trans hG3.1 (by simp), hG3.2.alloc hG3.1 _⟩
            have hlt := hI8.2.2.2.2.2.2
            replace hI8 := hI8.below (below_new W3q7 (.cells #[.int .i64 0, .int .i64 0, .string ⟨#[]⟩] 24))
            refine hK.out _ _ ?_ (fun _ => ?_)
            · exact hG4
            clear hK K
            try simp only [List.getElem_toArray, List.getElem_cons_zero, List.getElem_cons_succ, Act.put, List.setIfInBounds_toArray, List.set_cons_zero, List.set_cons_succ]
            obtain ⟨g9, hg9⟩ : ∃ g, W3q7.heap.size = g := ⟨_, rfl⟩
            have hg9B : B ≤ g9 := by rw [← hg9]; exact hG3.1
            have hne : g8 ≠ g9 := by omega
            rw [hg9] at hI9 ⊢
            obtain ⟨W4q9, hWn⟩ : ∃ W, W3q7.alloc (.cells #[.int .i64 0, .int .i64 0, .string ⟨#[]⟩] 24) = W := ⟨_, rfl⟩
            rw [hWn] at hI9 hG4 hI8 ⊢
            clear hWn
            exact key g8 g9 W4q9 ⟨hG4, hI8, hI9, hne, hg8B, hg9B⟩
        · go_simp
          have hI9 := OutAt.new W2q3 0 0
          have hG3 : B ≤ (W2q3.alloc (.cells #[.int .i64 0, .int .i64 0, .string ⟨#[]⟩] 24)).heap.size ∧ Below B W1 (W2q3.alloc (.cells #[.int .i64 0, .int .i64 0, .string ⟨#[]⟩] 24)) := ⟨Nat.le_trans hG2.1 (by simp), hG2.2.alloc hG2.1 _⟩
          have hlt := hI8.2.2.2.2.2.2
          replace hI8 := hI8.below (below_new W2q3 (.cells #[.int .i64 0, .int .i64 0, .string ⟨#[]⟩] 24))
          refine hK.out _ _ ?_ (fun _ => ?_)
          · exact hG3
          clear hK K
          try simp only [List.getElem_toArray, List.getElem_cons_zero, List.getElem_cons_succ, Act.put, List.setIfInBounds_toArray, List.set_cons_zero, List.set_cons_succ]
          obtain ⟨g9, hg9⟩ : ∃ g, W2q3.heap.size = g := ⟨_, rfl⟩
          have hg9B : B ≤ g9 := by rw [← hg9]; exact hG2.1
          have hne : g8 ≠ g9 := by omega
          rw [hg9] at hI9 ⊢
          obtain ⟨W3q9, hWn⟩ : ∃ W, W2q3.alloc (.cells #[.int .i64 0, .int .i64 0, .string ⟨#[]⟩] 24) = W := ⟨_, rfl⟩
          rw [hWn] at hI9 hG3 hI8 ⊢
          clear hWn
          refine wpAnyH_ready (rs := [7]) (by kernel_rfl) (by simp) ?_
          refine AllReadyH.cons rfl (fun K hK => ?_) AllReadyH.nil
          · go_simp
            go_at_call 26; refine (two_is 11 1 x ⟨#[]⟩ 1 y ⟨#[]⟩ 0 _ (hL.below (belowK3 (keepK3 hK6 (hbb hG3.2)))) hx.out hy.out _ _ ⟨#[]⟩ hr).mono ?_; rintro e W4q7 ⟨rfl, hb4⟩
            have hG4 : B ≤ W4q7.heap.size ∧ Below B W1 W4q7 := ⟨Nat.le_trans hG3.1 hb4.size, below_step hG3.2 hG3.1 hb4⟩
            replace hI8 := hI8.below hb4
            replace hI9 := hI9.below hb4
            refine hK.out _ _ ?_ (fun _ => ?_)
            · exact hG4
            clear hK K
            try simp only [List.getElem_toArray, List.getElem_cons_zero, List.getElem_cons_succ, Act.put, List.setIfInBounds_toArray, List.set_cons_zero, List.set_cons_succ]
            exact key g8 g9 W4q7 ⟨hG4, hI8, hI9, hne, hg8B, hg9B⟩
      · go_simp
        have hI9 := OutAt.new W1q8 0 0
        have hG2 : B ≤ (W1q8.alloc (.cells #[.int .i64 0, .int .i64 0, .string ⟨#[]⟩] 24)).heap.size ∧ Below B W1 (W1q8.alloc (.cells #[.int .i64 0, .int .i64 0, .string ⟨#[]⟩] 24)) := ⟨Nat.le_trans hG1.1 (by simp), hG1.2.alloc hG1.1 _⟩
        have hlt := hI8.2.2.2.2.2.2
        replace hI8 := hI8.below (below_new W1q8 (.cells #[.int .i64 0, .int .i64 0, .string ⟨#[]⟩] 24))
        refine hK.out _ _ ?_ (fun _ => ?_)
        · exact hG2
        clear hK K
        try simp only [List.getElem_toArray, List.getElem_cons_zero, List.getElem_cons_succ, Act.put, List.setIfInBounds_toArray, List.set_cons_zero, List.set_cons_succ]
        obtain ⟨g9, hg9⟩ : ∃ g, W1q8.heap.size = g := ⟨_, rfl⟩
        have hg9B : B ≤ g9 := by rw [← hg9]; exact hG1.1
        have hne : g8 ≠ g9 := by omega
        rw [hg9] at hI9 ⊢
        obtain ⟨W2q9, hWn⟩ : ∃ W, W1q8.alloc (.cells #[.int .i64 0, .int .i64 0, .string ⟨#[]⟩] 24) = W := ⟨_, rfl⟩
        rw [hWn] at hI9 hG2 hI8 ⊢
        clear hWn
        refine wpAnyH_ready (rs := [3]) (by kernel_rfl) (by simp) ?_
        refine AllReadyH.cons rfl (fun K hK => ?_) AllReadyH.nil
        · go_simp
          go_at_call 26; refine (two_is 10 1 x ⟨#[]⟩ 1 y ⟨#[]⟩ 0 _ (hL.below (belowK3 (keepK3 hK6 (hbb hG2.2)))) hx.out hy.out _ _ ⟨#[]⟩ hq).mono ?_; rintro e W3q3 ⟨rfl, hb3⟩
          have hG3 : B ≤ W3q3.heap.size ∧ Below B W1 W3q3 := ⟨Nat.le_trans hG2.1 hb3.size, below_step hG2.2 hG2.1 hb3⟩
          replace hI8 := hI8.below hb3
          replace hI9 := hI9.below hb3
          refine hK.out _ _ ?_ (fun _ => ?_)
          · exact hG3
          clear hK K
          try simp only [List.getElem_toArray, List.getElem_cons_zero, List.getElem_cons_succ, Act.put, List.setIfInBounds_toArray, List.set_cons_zero, List.set_cons_succ]
          refine wpAnyH_ready (rs := [7]) (by kernel_rfl) (by simp) ?_
          refine AllReadyH.cons rfl (fun K hK => ?_) AllReadyH.nil
          · go_simp
            go_at_call 26; refine (two_is 11 1 x ⟨#[]⟩ 1 y ⟨#[]⟩ 0 _ (hL.below (belowK3 (keepK3 hK6 (hbb hG3.2)))) hx.out hy.out _ _ ⟨#[]⟩ hr).mono ?_; rintro e W4q7 ⟨rfl, hb4⟩
            have hG4 : B ≤ W4q7.heap.size ∧ Below B W1 W4q7 := ⟨Nat.le_trans hG3.1 hb4.size, below_step hG3.2 hG3.1 hb4⟩
            replace hI8 := hI8.below hb4
            replace hI9 := hI9.below hb4
            refine hK.out _ _ ?_ (fun _ => ?_)
            · exact hG4
            clear hK K
            try simp only [List.getElem_toArray, List.getElem_cons_zero, List.getElem_cons_succ, Act.put, List.setIfInBounds_toArray, List.set_cons_zero, List.set_cons_succ]
            exact key g8 g9 W4q7 ⟨hG4, hI8, hI9, hne, hg8B, hg9B⟩
    · go_simp
      have hI9 := OutAt.new W1 0 0
      have hG1 : B ≤ (W1.alloc (.cells #[.int .i64 0, .int .i64 0, .string ⟨#[]⟩] 24)).heap.size ∧ Below B W1 (W1.alloc (.cells #[.int .i64 0, .int .i64 0, .string ⟨#[]⟩] 24)) := ⟨Nat.le_trans hH8.1 (by simp), hH8.2.alloc hH8.1 _⟩
      refine hK.out _ _ ?_ (fun _ => ?_)
      · exact hG1
      clear hK K
      try simp only [List.getElem_toArray, List.getElem_cons_zero, List.getElem_cons_succ, Act.put, List.setIfInBounds_toArray, List.set_cons_zero, List.set_cons_succ]
      obtain ⟨g9, hg9⟩ : ∃ g, W1.heap.size = g := ⟨_, rfl⟩
      have hg9B : B ≤ g9 := by rw [← hg9]; exact hH8.1
      rw [hg9] at hI9 ⊢
      obtain ⟨W1q9, hWn⟩ : ∃ W, W1.alloc (.cells #[.int .i64 0, .int .i64 0, .string ⟨#[]⟩] 24) = W := ⟨_, rfl⟩
      rw [hWn] at hI9 hG1 ⊢
      clear hWn
      refine wpAnyH_ready (rs := [3, 8]) (by kernel_rfl) (by simp) ?_
      refine AllReadyH.cons rfl (fun K hK => ?_) (AllReadyH.cons rfl (fun K hK => ?_) AllReadyH.nil)
      · go_simp
        go_at_call 26; refine (two_is 10 1 x ⟨#[]⟩ 1 y ⟨#[]⟩ 0 _ (hL.below (belowK3 (keepK3 hK6 (hbb hG1.2)))) hx.out hy.out _ _ ⟨#[]⟩ hq).mono ?_; rintro e W2q3 ⟨rfl, hb2⟩
        have hG2 : B ≤ W2q3.heap.size ∧ Below B W1 W2q3 := ⟨Nat.le_trans hG1.1 hb2.size, below_step hG1.2 hG1.1 hb2⟩
        replace hI9 := hI9.below hb2
        refine hK.out _ _ ?_ (fun _ => ?_)
        · exact hG2
        clear hK K
        try simp only [List.getElem_toArray, List.getElem_cons_zero, List.getElem_cons_succ, Act.put, List.setIfInBounds_toArray, List.set_cons_zero, List.set_cons_succ]
        refine wpAnyH_ready (rs := [7, 8]) (by kernel_rfl) (by simp) ?_
        refine AllReadyH.cons rfl (fun K hK => ?_) (AllReadyH.cons rfl (fun K hK => ?_) AllReadyH.nil)
        · go_simp
          go_at_call 26; refine (two_is 11 1 x ⟨#[]⟩ 1 y ⟨#[]⟩ 0 _ (hL.below (belowK3 (keepK3 hK6 (hbb hG2.2)))) hx.out hy.out _ _ ⟨#[]⟩ hr).mono ?_; rintro e W3q7 ⟨rfl, hb3⟩
          have hG3 : B ≤ W3q7.heap.size ∧ Below B W1 W3q7 := ⟨Nat.le_trans hG2.1 hb3.size, below_step hG2.2 hG2.1 hb3⟩
          replace hI9 := hI9.below hb3
          refine hK.out _ _ ?_ (fun _ => ?_)
          · exact hG3
          clear hK K
          try simp only [List.getElem_toArray, List.getElem_cons_zero, List.getElem_cons_succ, Act.put, List.setIfInBounds_toArray, List.set_cons_zero, List.set_cons_succ]
          refine wpAnyH_ready (rs := [8]) (by kernel_rfl) (by simp) ?_
          refine AllReadyH.cons rfl (fun K hK => ?_) AllReadyH.nil
          · go_simp
            have hI8 := OutAt.new W3q7 0 0
            have hG4 : B ≤ (W3q7.alloc (.cells #[.int .i64 0, .int .i64 0, .string ⟨#[]⟩] 24)).heap.size ∧ Below B W1 (W3q7.alloc (.cells #[.int .i64 0, .int .i64 0, .string ⟨#[]⟩] 24)) := ⟨Nat.le_trans hG3.1 (by simp), hG3.2.alloc hG3.1 _⟩
            have hlt := hI9.2.2.2.2.2.2
            replace hI9 := hI9.below (below_new W3q7 (.cells #[.int .i64 0, .int .i64 0, .string ⟨#[]⟩] 24))
            refine hK.out _ _ ?_ (fun _ => ?_)
            · exact hG4
            clear hK K
            try simp only [List.getElem_toArray, List.getElem_cons_zero, List.getElem_cons_succ, Act.put, List.setIfInBounds_toArray, List.set_cons_zero, List.set_cons_succ]
            obtain ⟨g8, hg8⟩ : ∃ g, W3q7.heap.size = g := ⟨_, rfl⟩
            have hg8B : B ≤ g8 := by rw [← hg8]; exact hG3.1
            have hne : g8 ≠ g9 := by omega
            rw [hg8] at hI8 ⊢
            obtain ⟨W4q8, hWn⟩ : ∃ W, W3q7.alloc (.cells #[.int .i64 0, .int .i64 0, .string ⟨#[]⟩] 24) = W := ⟨_, rfl⟩
            rw [hWn] at hI8 hG4 hI9 ⊢
            clear hWn
            exact key g8 g9 W4q8 ⟨hG4, hI8, hI9, hne, hg8B, hg9B⟩
        · go_simp
          have hI8 := OutAt.new W2q3 0 0
          have hG3 : B ≤ (W2q3.alloc (.cells #[.int .i64 0, .int .i64 0, .string ⟨#[]⟩] 24)).heap.size ∧ Below B W1 (W2q3.alloc (.cells #[.int .i64 0, .int .i64 0, .string ⟨#[]⟩] 24)) := ⟨Nat.le_trans hG2.1 (by simp), hG2.2.alloc hG2.1 _⟩
          have hlt := hI9.2.2.2.2.2.2
          replace hI9 := hI9.below (below_new W2q3 (.cells #[.int .i64 0, .int .i64 0, .string ⟨#[]⟩] 24))
          refine hK.out _ _ ?_ (fun _ => ?_)
          · exact hG3
          clear hK K
          try simp only [List.getElem_toArray, List.getElem_cons_zero, List.getElem_cons_succ, Act.put, List.setIfInBounds_toArray, List.set_cons_zero, List.set_cons_succ]
          obtain ⟨g8, hg8⟩ : ∃ g, W2q3.heap.size = g := ⟨_, rfl⟩
          have hg8B : B ≤ g8 := by rw [← hg8]; exact hG2.1
          have hne : g8 ≠ g9 := by omega
          rw [hg8] at hI8 ⊢
          obtain ⟨W3q8, hWn⟩ : ∃ W, W2q3.alloc (.cells #[.int .i64 0, .int .i64 0, .string ⟨#[]⟩] 24) = W := ⟨_, rfl⟩
          rw [hWn] at hI8 hG3 hI9 ⊢
          clear hWn
          refine wpAnyH_ready (rs := [7]) (by kernel_rfl) (by simp) ?_
          refine AllReadyH.cons rfl (fun K hK => ?_) AllReadyH.nil
          · go_simp
            go_at_call 26; refine (two_is 11 1 x ⟨#[]⟩ 1 y ⟨#[]⟩ 0 _ (hL.below (belowK3 (keepK3 hK6 (hbb hG3.2)))) hx.out hy.out _ _ ⟨#[]⟩ hr).mono ?_; rintro e W4q7 ⟨rfl, hb4⟩
            have hG4 : B ≤ W4q7.heap.size ∧ Below B W1 W4q7 := ⟨Nat.le_trans hG3.1 hb4.size, below_step hG3.2 hG3.1 hb4⟩
            replace hI8 := hI8.below hb4
            replace hI9 := hI9.below hb4
            refine hK.out _ _ ?_ (fun _ => ?_)
            · exact hG4
            clear hK K
            try simp only [List.getElem_toArray, List.getElem_cons_zero, List.getElem_cons_succ, Act.put, List.setIfInBounds_toArray, List.set_cons_zero, List.set_cons_succ]
            exact key g8 g9 W4q7 ⟨hG4, hI8, hI9, hne, hg8B, hg9B⟩
      · go_simp
        have hI8 := OutAt.new W1q9 0 0
        have hG2 : B ≤ (W1q9.alloc (.cells #[.int .i64 0, .int .i64 0, .string ⟨#[]⟩] 24)).heap.size ∧ Below B W1 (W1q9.alloc (.cells #[.int .i64 0, .int .i64 0, .string ⟨#[]⟩] 24)) := ⟨Nat.le_trans hG1.1 (by simp), hG1.2.alloc hG1.1 _⟩
        have hlt := hI9.2.2.2.2.2.2
        replace hI9 := hI9.below (below_new W1q9 (.cells #[.int .i64 0, .int .i64 0, .string ⟨#[]⟩] 24))
        refine hK.out _ _ ?_ (fun _ => ?_)
        · exact hG2
        clear hK K
        try simp only [List.getElem_toArray, List.getElem_cons_zero, List.getElem_cons_succ, Act.put, List.setIfInBounds_toArray, List.set_cons_zero, List.set_cons_succ]
        obtain ⟨g8, hg8⟩ : ∃ g, W1q9.heap.size = g := ⟨_, rfl⟩
        have hg8B : B ≤ g8 := by rw [← hg8]; exact hG1.1
        have hne : g8 ≠ g9 := by omega
        rw [hg8] at hI8 ⊢
        obtain ⟨W2q8, hWn⟩ : ∃ W, W1q9.alloc (.cells #[.int .i64 0, .int .i64 0, .string ⟨#[]⟩] 24) = W := ⟨_, rfl⟩
        rw [hWn] at hI8 hG2 hI9 ⊢
        clear hWn
        refine wpAnyH_ready (rs := [3]) (by kernel_rfl) (by simp) ?_
        refine AllReadyH.cons rfl (fun K hK => ?_) AllReadyH.nil
        · go_simp
          go_at_call 26; refine (two_is 10 1 x ⟨#[]⟩ 1 y ⟨#[]⟩ 0 _ (hL.below (belowK3 (keepK3 hK6 (hbb hG2.2)))) hx.out hy.out _ _ ⟨#[]⟩ hq).mono ?_; rintro e W3q3 ⟨rfl, hb3⟩
          have hG3 : B ≤ W3q3.heap.size ∧ Below B W1 W3q3 := ⟨Nat.le_trans hG2.1 hb3.size, below_step hG2.2 hG2.1 hb3⟩
          replace hI8 := hI8.below hb3
          replace hI9 := hI9.below hb3
          refine hK.out _ _ ?_ (fun _ => ?_)
          · exact hG3
          clear hK K
          try simp only [List.getElem_toArray, List.getElem_cons_zero, List.getElem_cons_succ, Act.put, List.setIfInBounds_toArray, List.set_cons_zero, List.set_cons_succ]
          refine wpAnyH_ready (rs := [7]) (by kernel_rfl) (by simp) ?_
          refine AllReadyH.cons rfl (fun K hK => ?_) AllReadyH.nil
          · go_simp
            go_at_call 26; refine (two_is 11 1 x ⟨#[]⟩ 1 y ⟨#[]⟩ 0 _ (hL.below (belowK3 (keepK3 hK6 (hbb hG3.2)))) hx.out hy.out _ _ ⟨#[]⟩ hr).mono ?_; rintro e W4q7 ⟨rfl, hb4⟩
            have hG4 : B ≤ W4q7.heap.size ∧ Below B W1 W4q7 := ⟨Nat.le_trans hG3.1 hb4.size, below_step hG3.2 hG3.1 hb4⟩
            replace hI8 := hI8.below hb4
            replace hI9 := hI9.below hb4
            refine hK.out _ _ ?_ (fun _ => ?_)
            · exact hG4
            clear hK K
            try simp only [List.getElem_toArray, List.getElem_cons_zero, List.getElem_cons_succ, Act.put, List.setIfInBounds_toArray, List.set_cons_zero, List.set_cons_succ]
            exact key g8 g9 W4q7 ⟨hG4, hI8, hI9, hne, hg8B, hg9B⟩
  case keyp =>
    intro g8 g9 W2 ⟨hG, hI8, hI9, hne, hg8B, hg9B⟩
    obtain ⟨p0, p1, p2, p3, p4, p5, pz⟩ := id hI8
    refine wpAnyH_ready (rs := [10]) (by kernel_rfl) (by simp) ?_
    refine AllReadyH.cons rfl (fun K hK => ?_) AllReadyH.nil
    go_simp
    refine hK.out _ _ ?_ (fun hG2 => ?_)
    · exact ⟨by simp only [World.size_setCell]; exact hG.1, ((hG.2.setCell hg8B _).setCell hg8B _).setCell hg8B _⟩
    clear hK K
    try simp only [List.getElem_toArray, List.getElem_cons_zero, List.getElem_cons_succ, Act.put, List.setIfInBounds_toArray, List.set_cons_zero, List.set_cons_succ]
    clear p0 p1 p2 p3 p4 p5
    have hJ8 := hI8.put 0 nq
    have hJ9 := hI9.other (Ne.symm hne) (.int .i64 0) (.int .i64 nq) (.string ⟨#[]⟩)
    obtain ⟨W3, hW3⟩ : ∃ W, ((W2.setCell ⟨g8, 0, none⟩ (.int .i64 0)).setCell ⟨g8, 1, none⟩ (.int .i64 nq)).setCell ⟨g8, 2, none⟩ (.string ⟨#[]⟩) = W := ⟨_, rfl⟩
    rw [hW3] at hJ8 hJ9 hG2 ⊢
    clear hW3
    obtain ⟨p0, p1, p2, p3, p4, p5, pz9⟩ := id hJ9
    refine wpAnyH_ready (rs := [11]) (by kernel_rfl) (by simp) ?_
    refine AllReadyH.cons rfl (fun K hK => ?_) AllReadyH.nil
    go_simp
    refine hK.out _ _ ?_ (fun hG3 => ?_)
    · exact ⟨by simp only [World.size_setCell]; exact hG2.1, ((hG2.2.setCell hg9B _).setCell hg9B _).setCell hg9B _⟩
    clear hK K
    try simp only [List.getElem_toArray, List.getElem_cons_zero, List.getElem_cons_succ, Act.put, List.setIfInBounds_toArray, List.set_cons_zero, List.set_cons_succ]
    clear p0 p1 p2 p3 p4 p5
    have hM8 := hJ8.other hne (.int .i64 1) (.int .i64 nr) (.string ⟨#[]⟩)
    have hM9 := hJ9.put 1 nr
    obtain ⟨W4, hW4⟩ : ∃ W, ((W3.setCell ⟨g9, 0, none⟩ (.int .i64 1)).setCell ⟨g9, 1, none⟩ (.int .i64 nr)).setCell ⟨g9, 2, none⟩ (.string ⟨#[]⟩) = W := ⟨_, rfl⟩
    rw [hW4] at hM8 hM9 hG3 ⊢
    clear hW4 hI8 hI9 hJ8 hJ9 hG hG2
    have hQ : W4.cell? ⟨w3.heap.size, 0, none⟩ = some (.int .i64 1) ∧ W4.cell? ⟨w3.heap.size, 1, none⟩ = some (.int .i64 x) ∧ W4.cell? ⟨w3.heap.size, 2, none⟩ = some (.string ⟨#[]⟩) ∧ w3.heap.size < W4.heap.size ∧ W4.cell? ⟨(w3.heap.size + 1), 0, none⟩ = some (.int .i64 1) ∧ W4.cell? ⟨(w3.heap.size + 1), 1, none⟩ = some (.int .i64 y) ∧ W4.cell? ⟨(w3.heap.size + 1), 2, none⟩ = some (.string ⟨#[]⟩) ∧ (w3.heap.size + 1) < W4.heap.size ∧ W4.cell? ⟨w4.heap.size, 0, none⟩ = some (.int .i64 0) ∧ W4.cell? ⟨w4.heap.size, 1, none⟩ = some (.int .i64 ns) ∧ W4.cell? ⟨w4.heap.size, 2, none⟩ = some (.string ⟨#[]⟩) ∧ w4.heap.size < W4.heap.size ∧ W4.cell? ⟨g8, 0, none⟩ = some (.int .i64 0) ∧ W4.cell? ⟨g8, 1, none⟩ = some (.int .i64 nq) ∧ W4.cell? ⟨g8, 2, none⟩ = some (.string ⟨#[]⟩) ∧ g8 < W4.heap.size ∧ W4.cell? ⟨g9, 0, none⟩ = some (.int .i64 1) ∧ W4.cell? ⟨g9, 1, none⟩ = some (.int .i64 nr) ∧ W4.cell? ⟨g9, 2, none⟩ = some (.string ⟨#[]⟩) ∧ g9 < W4.heap.size ∧ w.heap.size ≤ W4.heap.size ∧ Below w.heap.size w W4 := by
      obtain ⟨kd00, kd01, kd02, kd03, kd10, kd11, kd12, kd13, kd20, kd21, kd22, kd23, kds, kdB⟩ := keepK3 hK6 (hbb hG3.2)
      obtain ⟨m0, m1, m2, _, _, _, mz⟩ := hM8
      obtain ⟨o0, o1, o2, _, _, _, oz⟩ := hM9
      exact ⟨kd00, kd01, kd02, kd03, kd10, kd11, kd12, kd13, kd20, kd21, kd22, kd23, m0, m1, m2, mz, o0, o1, o2, oz, kds, kdB⟩
    clear hM8 hM9 hG3 hK6 kc00 kc01 kc02 kc03 kc10 kc11 kc12 kc13 kc20 kc21 kc22 kc23 kcs kcB hbb hBB r1 pz pz9 hne hg8B hg9B
    refine wpAnyH_done (by kernel_rfl) ?_ _
    go_wp2_with fail
    have hQd := keepKd5 hQ
    obtain ⟨W5, hW5⟩ : ∃ W, W4.drew = W := ⟨_, rfl⟩
    rw [hW5] at hQd
    refine wp_region_held_drew (S := (fun W => W.cell? ⟨w3.heap.size, 0, none⟩ = some (.int .i64 1) ∧ W.cell? ⟨w3.heap.size, 1, none⟩ = some (.int .i64 x) ∧ W.cell? ⟨w3.heap.size, 2, none⟩ = some (.string ⟨#[]⟩) ∧ w3.heap.size < W.heap.size ∧ W.cell? ⟨(w3.heap.size + 1), 0, none⟩ = some (.int .i64 1) ∧ W.cell? ⟨(w3.heap.size + 1), 1, none⟩ = some (.int .i64 y) ∧ W.cell? ⟨(w3.heap.size + 1), 2, none⟩ = some (.string ⟨#[]⟩) ∧ (w3.heap.size + 1) < W.heap.size ∧ W.cell? ⟨w4.heap.size, 0, none⟩ = some (.int .i64 0) ∧ W.cell? ⟨w4.heap.size, 1, none⟩ = some (.int .i64 ns) ∧ W.cell? ⟨w4.heap.size, 2, none⟩ = some (.string ⟨#[]⟩) ∧ w4.heap.size < W.heap.size ∧ W.cell? ⟨g8, 0, none⟩ = some (.int .i64 0) ∧ W.cell? ⟨g8, 1, none⟩ = some (.int .i64 nq) ∧ W.cell? ⟨g8, 2, none⟩ = some (.string ⟨#[]⟩) ∧ g8 < W.heap.size ∧ W.cell? ⟨g9, 0, none⟩ = some (.int .i64 1) ∧ W.cell? ⟨g9, 1, none⟩ = some (.int .i64 nr) ∧ W.cell? ⟨g9, 2, none⟩ = some (.string ⟨#[]⟩) ∧ g9 < W.heap.size ∧ w.heap.size ≤ W.heap.size ∧ Below w.heap.size w W)) (by kernel_rfl) ?_ (fun hH => ?_)
    · rw [hW5]; exact hQd
    rw [hW5] at hH ⊢
    clear hW5 hQ hQd
    refine wpAnyH_take (i := 0) (v := ?_) rfl (by kernel_rfl) (by kernel_rfl) (by kernel_rfl) (fun _ _ _ h => h) (Or.inl ⟨by rfl, ?_⟩) hH ?_
    rotate_left
    · (intro W hSw; (try dsimp only at hSw); go_simp; try with_reducible rfl)
    try simp only [List.getElem_toArray, List.getElem_cons_zero, List.getElem_cons_succ, Act.put, List.setIfInBounds_toArray, List.set_cons_zero, List.set_cons_succ]
    refine wpAnyH_take (i := 1) (v := ?_) rfl (by kernel_rfl) (by kernel_rfl) (by kernel_rfl) (fun _ _ _ h => h) (Or.inl ⟨by rfl, ?_⟩) hH ?_
    rotate_left
    · (intro W hSw; (try dsimp only at hSw); go_simp; try with_reducible rfl)
    try simp only [List.getElem_toArray, List.getElem_cons_zero, List.getElem_cons_succ, Act.put, List.setIfInBounds_toArray, List.set_cons_zero, List.set_cons_succ]
    refine wpAnyH_take (i := 2) (v := ?_) rfl (by kernel_rfl) (by kernel_rfl) (by kernel_rfl) (fun _ _ _ h => h) (Or.inl ⟨by rfl, ?_⟩) hH ?_
    rotate_left
    · (intro W hSw; (try dsimp only at hSw); go_simp; try with_reducible rfl)
    try simp only [List.getElem_toArray, List.getElem_cons_zero, List.getElem_cons_succ, Act.put, List.setIfInBounds_toArray, List.set_cons_zero, List.set_cons_succ]
    refine wpAnyH_take (i := 3) (v := ?_) rfl (by kernel_rfl) (by kernel_rfl) (by kernel_rfl) (fun _ _ _ h => h) (Or.inl ⟨by rfl, ?_⟩) hH ?_
    rotate_left
    · (intro W hSw; (try dsimp only at hSw); go_simp; try with_reducible rfl)
    try simp only [List.getElem_toArray, List.getElem_cons_zero, List.getElem_cons_succ, Act.put, List.setIfInBounds_toArray, List.set_cons_zero, List.set_cons_succ]
    refine wpAnyH_take (i := 4) (v := undef) rfl (by kernel_rfl) (by kernel_rfl) (by kernel_rfl) (fun _ _ _ h => h) (Or.inr ⟨by rfl, rfl⟩) hH ?_
    try simp only [List.getElem_toArray, List.getElem_cons_zero, List.getElem_cons_succ, Act.put, List.setIfInBounds_toArray, List.set_cons_zero, List.set_cons_succ]
    refine wpAnyH_take (i := 5) (v := undef) rfl (by kernel_rfl) (by kernel_rfl) (by kernel_rfl) (fun _ _ _ h => h) (Or.inr ⟨by rfl, rfl⟩) hH ?_
    try simp only [List.getElem_toArray, List.getElem_cons_zero, List.getElem_cons_succ, Act.put, List.setIfInBounds_toArray, List.set_cons_zero, List.set_cons_succ]
    refine wpAnyH_take (i := 6) (v := undef) rfl (by kernel_rfl) (by kernel_rfl) (by kernel_rfl) (fun _ _ _ h => h) (Or.inr ⟨by rfl, rfl⟩) hH ?_
    try simp only [List.getElem_toArray, List.getElem_cons_zero, List.getElem_cons_succ, Act.put, List.setIfInBounds_toArray, List.set_cons_zero, List.set_cons_succ]
    refine wpAnyH_take (i := 7) (v := undef) rfl (by kernel_rfl) (by kernel_rfl) (by kernel_rfl) (fun _ _ _ h => h) (Or.inr ⟨by rfl, rfl⟩) hH ?_
    try simp only [List.getElem_toArray, List.getElem_cons_zero, List.getElem_cons_succ, Act.put, List.setIfInBounds_toArray, List.set_cons_zero, List.set_cons_succ]
    refine wpAnyH_take (i := 8) (v := undef) rfl (by kernel_rfl) (by kernel_rfl) (by kernel_rfl) (fun _ _ _ h => h) (Or.inr ⟨by rfl, rfl⟩) hH ?_
    try simp only [List.getElem_toArray, List.getElem_cons_zero, List.getElem_cons_succ, Act.put, List.setIfInBounds_toArray, List.set_cons_zero, List.set_cons_succ]
    refine wpAnyH_take (i := 9) (v := undef) rfl (by kernel_rfl) (by kernel_rfl) (by kernel_rfl) (fun _ _ _ h => h) (Or.inr ⟨by rfl, rfl⟩) hH ?_
    try simp only [List.getElem_toArray, List.getElem_cons_zero, List.getElem_cons_succ, Act.put, List.setIfInBounds_toArray, List.set_cons_zero, List.set_cons_succ]
    refine wpAnyH_take (i := 10) (v := undef) rfl (by kernel_rfl) (by kernel_rfl) (by kernel_rfl) (fun _ _ _ h => h) (Or.inr ⟨by rfl, rfl⟩) hH ?_
    try simp only [List.getElem_toArray, List.getElem_cons_zero, List.getElem_cons_succ, Act.put, List.setIfInBounds_toArray, List.set_cons_zero, List.set_cons_succ]
    refine wpAnyH_take (i := 11) (v := undef) rfl (by kernel_rfl) (by kernel_rfl) (by kernel_rfl) (fun _ _ _ h => h) (Or.inr ⟨by rfl, rfl⟩) hH ?_
    try simp only [List.getElem_toArray, List.getElem_cons_zero, List.getElem_cons_succ, Act.put, List.setIfInBounds_toArray, List.set_cons_zero, List.set_cons_succ]
    refine wpAnyH_take (i := 12) (v := undef) rfl (by kernel_rfl) (by kernel_rfl) (by kernel_rfl) (fun _ _ _ h => h) (Or.inr ⟨by rfl, rfl⟩) hH ?_
    try simp only [List.getElem_toArray, List.getElem_cons_zero, List.getElem_cons_succ, Act.put, List.setIfInBounds_toArray, List.set_cons_zero, List.set_cons_succ]
    refine wpAnyH_take (i := 13) (v := ?_) rfl (by kernel_rfl) (by kernel_rfl) (by kernel_rfl) (fun _ _ _ h => h) (Or.inl ⟨by rfl, ?_⟩) hH ?_
    rotate_left
    · (intro W hSw; (try dsimp only at hSw); go_simp; try with_reducible rfl)
    try simp only [List.getElem_toArray, List.getElem_cons_zero, List.getElem_cons_succ, Act.put, List.setIfInBounds_toArray, List.set_cons_zero, List.set_cons_succ]
    refine wpAnyH_done (by kernel_rfl) ?_ _
    obtain ⟨kf00, kf01, kf02, kf03, kf10, kf11, kf12, kf13, kf20, kf21, kf22, kf23, kf30, kf31, kf32, kf33, kf40, kf41, kf42, kf43, kfs, kfB⟩ := id hH
    go_wp2_with (first
      | (go_at_call 30; first
        | (have hq9 := hT1; refine (ccast_is 2 0 tx _ _ (by decide) (hL.below (belowK6 hT1)) i0.out _ _ ⟨#[]⟩ _ hc2).mono ?_; rintro e w9 ⟨rfl, hb9⟩; have hT2 := snocK6 (.int .i64 1) (.int .i64 x) (.string ⟨#[]⟩) 24 (keepK6 hT1 hb9))
        | (refine (ccast_is 1 x ⟨#[]⟩ _ _ (by decide) (hL.below (belowK5 hH)) hx.out _ _ tx _ hc1).mono ?_; rintro e w8 ⟨rfl, hb8⟩; have hT1 := snocK5 (.int .i64 2) (.int .i64 0) (.string tx) 24 (keepK5 hH hb8); obtain ⟨kh00, kh01, kh02, kh03, kh10, kh11, kh12, kh13, kh20, kh21, kh22, kh23, kh30, kh31, kh32, kh33, kh40, kh41, kh42, kh43, kh50, kh51, kh52, kh53, khs, khB⟩ := id hT1)))
    have hT3 := keepKd7 hT2
    obtain ⟨W6, hW6⟩ : ∃ W, (w9.alloc (.cells #[.int .i64 1, .int .i64 x, .string ⟨#[]⟩] 24)).drew = W := ⟨_, rfl⟩
    rw [hW6] at hT3
    refine wp_region_held_drew (S := (fun W => W.cell? ⟨w3.heap.size, 0, none⟩ = some (.int .i64 1) ∧ W.cell? ⟨w3.heap.size, 1, none⟩ = some (.int .i64 x) ∧ W.cell? ⟨w3.heap.size, 2, none⟩ = some (.string ⟨#[]⟩) ∧ w3.heap.size < W.heap.size ∧ W.cell? ⟨(w3.heap.size + 1), 0, none⟩ = some (.int .i64 1) ∧ W.cell? ⟨(w3.heap.size + 1), 1, none⟩ = some (.int .i64 y) ∧ W.cell? ⟨(w3.heap.size + 1), 2, none⟩ = some (.string ⟨#[]⟩) ∧ (w3.heap.size + 1) < W.heap.size ∧ W.cell? ⟨w4.heap.size, 0, none⟩ = some (.int .i64 0) ∧ W.cell? ⟨w4.heap.size, 1, none⟩ = some (.int .i64 ns) ∧ W.cell? ⟨w4.heap.size, 2, none⟩ = some (.string ⟨#[]⟩) ∧ w4.heap.size < W.heap.size ∧ W.cell? ⟨g8, 0, none⟩ = some (.int .i64 0) ∧ W.cell? ⟨g8, 1, none⟩ = some (.int .i64 nq) ∧ W.cell? ⟨g8, 2, none⟩ = some (.string ⟨#[]⟩) ∧ g8 < W.heap.size ∧ W.cell? ⟨g9, 0, none⟩ = some (.int .i64 1) ∧ W.cell? ⟨g9, 1, none⟩ = some (.int .i64 nr) ∧ W.cell? ⟨g9, 2, none⟩ = some (.string ⟨#[]⟩) ∧ g9 < W.heap.size ∧ W.cell? ⟨w8.heap.size, 0, none⟩ = some (.int .i64 2) ∧ W.cell? ⟨w8.heap.size, 1, none⟩ = some (.int .i64 0) ∧ W.cell? ⟨w8.heap.size, 2, none⟩ = some (.string tx) ∧ w8.heap.size < W.heap.size ∧ W.cell? ⟨w9.heap.size, 0, none⟩ = some (.int .i64 1) ∧ W.cell? ⟨w9.heap.size, 1, none⟩ = some (.int .i64 x) ∧ W.cell? ⟨w9.heap.size, 2, none⟩ = some (.string ⟨#[]⟩) ∧ w9.heap.size < W.heap.size ∧ w.heap.size ≤ W.heap.size ∧ Below w.heap.size w W)) (by kernel_rfl) ?_ (fun hU => ?_)
    · rw [hW6]; exact hT3
    rw [hW6] at hU ⊢
    clear hW6 hT1 hT2 hT3 hH
    refine wpAnyH_take (i := 0) (v := ?_) rfl (by kernel_rfl) (by kernel_rfl) (by kernel_rfl) (fun _ _ _ h => h) (Or.inl ⟨by rfl, ?_⟩) hU ?_
    rotate_left
    · (intro W hSw; (try dsimp only at hSw); go_simp; try with_reducible rfl)
    try simp only [List.getElem_toArray, List.getElem_cons_zero, List.getElem_cons_succ, Act.put, List.setIfInBounds_toArray, List.set_cons_zero, List.set_cons_succ]
    refine wpAnyH_take (i := 1) (v := ?_) rfl (by kernel_rfl) (by kernel_rfl) (by kernel_rfl) (fun _ _ _ h => h) (Or.inl ⟨by rfl, ?_⟩) hU ?_
    rotate_left
    · (intro W hSw; (try dsimp only at hSw); go_simp; try with_reducible rfl)
    try simp only [List.getElem_toArray, List.getElem_cons_zero, List.getElem_cons_succ, Act.put, List.setIfInBounds_toArray, List.set_cons_zero, List.set_cons_succ]
    refine wpAnyH_take (i := 2) (v := ?_) rfl (by kernel_rfl) (by kernel_rfl) (by kernel_rfl) (fun _ _ _ h => h) (Or.inl ⟨by rfl, ?_⟩) hU ?_
    rotate_left
    · (intro W hSw; (try dsimp only at hSw); go_simp; try with_reducible rfl)
    try simp only [List.getElem_toArray, List.getElem_cons_zero, List.getElem_cons_succ, Act.put, List.setIfInBounds_toArray, List.set_cons_zero, List.set_cons_succ]
    refine wpAnyH_take (i := 3) (v := ?_) rfl (by kernel_rfl) (by kernel_rfl) (by kernel_rfl) (fun _ _ _ h => h) (Or.inl ⟨by rfl, ?_⟩) hU ?_
    rotate_left
    · (intro W hSw; (try dsimp only at hSw); go_simp; try with_reducible rfl)
    try simp only [List.getElem_toArray, List.getElem_cons_zero, List.getElem_cons_succ, Act.put, List.setIfInBounds_toArray, List.set_cons_zero, List.set_cons_succ]
    refine wpAnyH_take (i := 4) (v := ?_) rfl (by kernel_rfl) (by kernel_rfl) (by kernel_rfl) (fun _ _ _ h => h) (Or.inl ⟨by rfl, ?_⟩) hU ?_
    rotate_left
    · (intro W hSw; (try dsimp only at hSw); go_simp; try with_reducible rfl)
    try simp only [List.getElem_toArray, List.getElem_cons_zero, List.getElem_cons_succ, Act.put, List.setIfInBounds_toArray, List.set_cons_zero, List.set_cons_succ]
    refine wpAnyH_take (i := 5) (v := ?_) rfl (by kernel_rfl) (by kernel_rfl) (by kernel_rfl) (fun _ _ _ h => h) (Or.inl ⟨by rfl, ?_⟩) hU ?_
    rotate_left
    · (intro W hSw; (try dsimp only at hSw); go_simp; try with_reducible rfl)
    try simp only [List.getElem_toArray, List.getElem_cons_zero, List.getElem_cons_succ, Act.put, List.setIfInBounds_toArray, List.set_cons_zero, List.set_cons_succ]
    refine wpAnyH_take (i := 6) (v := ?_) rfl (by kernel_rfl) (by kernel_rfl) (by kernel_rfl) (fun _ _ _ h => h) (Or.inl ⟨by rfl, ?_⟩) hU ?_
    rotate_left
    · (intro W hSw; (try dsimp only at hSw); go_simp; try with_reducible rfl)
    try simp only [List.getElem_toArray, List.getElem_cons_zero, List.getElem_cons_succ, Act.put, List.setIfInBounds_toArray, List.set_cons_zero, List.set_cons_succ]
    refine wpAnyH_take (i := 7) (v := ?_) rfl (by kernel_rfl) (by kernel_rfl) (by kernel_rfl) (fun _ _ _ h => h) (Or.inl ⟨by rfl, ?_⟩) hU ?_
    rotate_left
    · (intro W hSw; (try dsimp only at hSw); go_simp; try with_reducible rfl)
    try simp only [List.getElem_toArray, List.getElem_cons_zero, List.getElem_cons_succ, Act.put, List.setIfInBounds_toArray, List.set_cons_zero, List.set_cons_succ]
    refine wpAnyH_take (i := 8) (v := ?_) rfl (by kernel_rfl) (by kernel_rfl) (by kernel_rfl) (fun _ _ _ h => h) (Or.inl ⟨by rfl, ?_⟩) hU ?_
    rotate_left
    · (intro W hSw; (try dsimp only at hSw); go_simp; try with_reducible rfl)
    try simp only [List.getElem_toArray, List.getElem_cons_zero, List.getElem_cons_succ, Act.put, List.setIfInBounds_toArray, List.set_cons_zero, List.set_cons_succ]
    refine wpAnyH_take (i := 9) (v := ?_) rfl (by kernel_rfl) (by kernel_rfl) (by kernel_rfl) (fun _ _ _ h => h) (Or.inl ⟨by rfl, ?_⟩) hU ?_
    rotate_left
    · (intro W hSw; (try dsimp only at hSw); go_simp; try with_reducible rfl)
    try simp only [List.getElem_toArray, List.getElem_cons_zero, List.getElem_cons_succ, Act.put, List.setIfInBounds_toArray, List.set_cons_zero, List.set_cons_succ]
    refine wpAnyH_take (i := 10) (v := ?_) rfl (by kernel_rfl) (by kernel_rfl) (by kernel_rfl) (fun _ _ _ h => h) (Or.inl ⟨by rfl, ?_⟩) hU ?_
    rotate_left
    · (intro W hSw; (try dsimp only at hSw); go_simp; try with_reducible rfl)
    try simp only [List.getElem_toArray, List.getElem_cons_zero, List.getElem_cons_succ, Act.put, List.setIfInBounds_toArray, List.set_cons_zero, List.set_cons_succ]
    refine wpAnyH_take (i := 11) (v := ?_) rfl (by kernel_rfl) (by kernel_rfl) (by kernel_rfl) (fun _ _ _ h => h) (Or.inl ⟨by rfl, ?_⟩) hU ?_
    rotate_left
    · (intro W hSw; (try dsimp only at hSw); go_simp; try with_reducible rfl)
    try simp only [List.getElem_toArray, List.getElem_cons_zero, List.getElem_cons_succ, Act.put, List.setIfInBounds_toArray, List.set_cons_zero, List.set_cons_succ]
    refine wpAnyH_take (i := 12) (v := ?_) rfl (by kernel_rfl) (by kernel_rfl) (by kernel_rfl) (fun _ _ _ h => h) (Or.inl ⟨by rfl, ?_⟩) hU ?_
    rotate_left
    · (intro W hSw; (try dsimp only at hSw); go_simp; try with_reducible rfl)
    try simp only [List.getElem_toArray, List.getElem_cons_zero, List.getElem_cons_succ, Act.put, List.setIfInBounds_toArray, List.set_cons_zero, List.set_cons_succ]
    refine wpAnyH_take (i := 13) (v := ?_) rfl (by kernel_rfl) (by kernel_rfl) (by kernel_rfl) (fun _ _ _ h => h) (Or.inl ⟨by rfl, ?_⟩) hU ?_
    rotate_left
    · (intro W hSw; (try dsimp only at hSw); go_simp; try with_reducible rfl)
    try simp only [List.getElem_toArray, List.getElem_cons_zero, List.getElem_cons_succ, Act.put, List.setIfInBounds_toArray, List.set_cons_zero, List.set_cons_succ]
    refine wpAnyH_take (i := 14) (v := ?_) rfl (by kernel_rfl) (by kernel_rfl) (by kernel_rfl) (fun _ _ _ h => h) (Or.inl ⟨by rfl, ?_⟩) hU ?_
    rotate_left
    · (intro W hSw; (try dsimp only at hSw); go_simp; try with_reducible rfl)
    try simp only [List.getElem_toArray, List.getElem_cons_zero, List.getElem_cons_succ, Act.put, List.setIfInBounds_toArray, List.set_cons_zero, List.set_cons_succ]
    refine wpAnyH_take (i := 15) (v := ?_) rfl (by kernel_rfl) (by kernel_rfl) (by kernel_rfl) (fun _ _ _ h => h) (Or.inl ⟨by rfl, ?_⟩) hU ?_
    rotate_left
    · (intro W hSw; (try dsimp only at hSw); go_simp; try with_reducible rfl)
    try simp only [List.getElem_toArray, List.getElem_cons_zero, List.getElem_cons_succ, Act.put, List.setIfInBounds_toArray, List.set_cons_zero, List.set_cons_succ]
    refine wpAnyH_take (i := 16) (v := ?_) rfl (by kernel_rfl) (by kernel_rfl) (by kernel_rfl) (fun _ _ _ h => h) (Or.inl ⟨by rfl, ?_⟩) hU ?_
    rotate_left
    · (intro W hSw; (try dsimp only at hSw); go_simp; try with_reducible rfl)
    try simp only [List.getElem_toArray, List.getElem_cons_zero, List.getElem_cons_succ, Act.put, List.setIfInBounds_toArray, List.set_cons_zero, List.set_cons_succ]
    refine wpAnyH_take (i := 17) (v := ?_) rfl (by kernel_rfl) (by kernel_rfl) (by kernel_rfl) (fun _ _ _ h => h) (Or.inl ⟨by rfl, ?_⟩) hU ?_
    rotate_left
    · (intro W hSw; (try dsimp only at hSw); go_simp; try with_reducible rfl)
    try simp only [List.getElem_toArray, List.getElem_cons_zero, List.getElem_cons_succ, Act.put, List.setIfInBounds_toArray, List.set_cons_zero, List.set_cons_succ]
    refine wpAnyH_take (i := 19) (v := ?_) rfl (by kernel_rfl) (by kernel_rfl) (by kernel_rfl) (fun _ _ _ h => h) (Or.inl ⟨by rfl, ?_⟩) hU ?_
    rotate_left
    · (intro W hSw; (try dsimp only at hSw); go_simp; try with_reducible rfl)
    try simp only [List.getElem_toArray, List.getElem_cons_zero, List.getElem_cons_succ, Act.put, List.setIfInBounds_toArray, List.set_cons_zero, List.set_cons_succ]
    refine wpAnyH_ready (rs := [18]) (by kernel_rfl) (by simp) ?_
    refine AllReadyH.cons rfl (fun K hK => ?_) AllReadyH.nil
    go_simp
    go_at_call 34; refine (capply_is 1 2 0 tx _ (hL.below (belowK7 hU)) i0.out _ _ ⟨#[]⟩ hp1).mono ?_; rintro e wA ⟨rfl, hbA⟩
    refine hK.out _ _ ?_ (fun hU2 => ?_)
    · exact keepK7 hU hbA
    clear hK K
    try simp only [List.getElem_toArray, List.getElem_cons_zero, List.getElem_cons_succ, Act.put, List.setIfInBounds_toArray, List.set_cons_zero, List.set_cons_succ]
    refine wpAnyH_take (i := 20) (v := ?_) rfl (by kernel_rfl) (by kernel_rfl) (by kernel_rfl) (fun _ _ _ h => h) (Or.inl ⟨by rfl, ?_⟩) hU2 ?_
    rotate_left
    · (intro W hSw; (try dsimp only at hSw); go_simp; try with_reducible rfl)
    try simp only [List.getElem_toArray, List.getElem_cons_zero, List.getElem_cons_succ, Act.put, List.setIfInBounds_toArray, List.set_cons_zero, List.set_cons_succ]
    refine wpAnyH_take (i := 21) (v := ?_) rfl (by kernel_rfl) (by kernel_rfl) (by kernel_rfl) (fun _ _ _ h => h) (Or.inl ⟨by rfl, ?_⟩) hU2 ?_
    rotate_left
    · (intro W hSw; (try dsimp only at hSw); go_simp; try with_reducible rfl)
    try simp only [List.getElem_toArray, List.getElem_cons_zero, List.getElem_cons_succ, Act.put, List.setIfInBounds_toArray, List.set_cons_zero, List.set_cons_succ]
    refine wpAnyH_take (i := 22) (v := ?_) rfl (by kernel_rfl) (by kernel_rfl) (by kernel_rfl) (fun _ _ _ h => h) (Or.inl ⟨by rfl, ?_⟩) hU2 ?_
    rotate_left
    · (intro W hSw; (try dsimp only at hSw); go_simp; try with_reducible rfl)
    try simp only [List.getElem_toArray, List.getElem_cons_zero, List.getElem_cons_succ, Act.put, List.setIfInBounds_toArray, List.set_cons_zero, List.set_cons_succ]
    refine wpAnyH_take (i := 23) (v := ?_) rfl (by kernel_rfl) (by kernel_rfl) (by kernel_rfl) (fun _ _ _ h => h) (Or.inl ⟨by rfl, ?_⟩) hU2 ?_
    rotate_left
    · (intro W hSw; (try dsimp only at hSw); go_simp; try with_reducible rfl)
    try simp only [List.getElem_toArray, List.getElem_cons_zero, List.getElem_cons_succ, Act.put, List.setIfInBounds_toArray, List.set_cons_zero, List.set_cons_succ]
    refine wpAnyH_take (i := 25) (v := ?_) rfl (by kernel_rfl) (by kernel_rfl) (by kernel_rfl) (fun _ _ _ h => h) (Or.inl ⟨by rfl, ?_⟩) hU2 ?_
    rotate_left
    · (intro W hSw; (try dsimp only at hSw); go_simp; try with_reducible rfl)
    try simp only [List.getElem_toArray, List.getElem_cons_zero, List.getElem_cons_succ, Act.put, List.setIfInBounds_toArray, List.set_cons_zero, List.set_cons_succ]
    refine wpAnyH_ready (rs := [24]) (by kernel_rfl) (by simp) ?_
    refine AllReadyH.cons rfl (fun K hK => ?_) AllReadyH.nil
    go_simp
    go_at_call 34; refine (capply_is 2 1 x ⟨#[]⟩ _ (hL.below (belowK7 hU2)) hx.out _ _ tx hp2).mono ?_; rintro e wC ⟨rfl, hbC⟩
    refine hK.out _ _ ?_ (fun hU3 => ?_)
    · exact keepK7 hU2 hbC
    clear hK K
    try simp only [List.getElem_toArray, List.getElem_cons_zero, List.getElem_cons_succ, Act.put, List.setIfInBounds_toArray, List.set_cons_zero, List.set_cons_succ]
    refine wpAnyH_take (i := 26) (v := ?_) rfl (by kernel_rfl) (by kernel_rfl) (by kernel_rfl) (fun _ _ _ h => h) (Or.inl ⟨by rfl, ?_⟩) hU3 ?_
    rotate_left
    · (intro W hSw; (try dsimp only at hSw); go_simp; try with_reducible rfl)
    try simp only [List.getElem_toArray, List.getElem_cons_zero, List.getElem_cons_succ, Act.put, List.setIfInBounds_toArray, List.set_cons_zero, List.set_cons_succ]
    refine wpAnyH_take (i := 27) (v := ?_) rfl (by kernel_rfl) (by kernel_rfl) (by kernel_rfl) (fun _ _ _ h => h) (Or.inl ⟨by rfl, ?_⟩) hU3 ?_
    rotate_left
    · (intro W hSw; (try dsimp only at hSw); go_simp; try with_reducible rfl)
    try simp only [List.getElem_toArray, List.getElem_cons_zero, List.getElem_cons_succ, Act.put, List.setIfInBounds_toArray, List.set_cons_zero, List.set_cons_succ]
    refine wpAnyH_take (i := 28) (v := ?_) rfl (by kernel_rfl) (by kernel_rfl) (by kernel_rfl) (fun _ _ _ h => h) (Or.inl ⟨by rfl, ?_⟩) hU3 ?_
    rotate_left
    · (intro W hSw; (try dsimp only at hSw); go_simp; try with_reducible rfl)
    try simp only [List.getElem_toArray, List.getElem_cons_zero, List.getElem_cons_succ, Act.put, List.setIfInBounds_toArray, List.set_cons_zero, List.set_cons_succ]
    refine wpAnyH_done (by kernel_rfl) ?_ _
    go_wp2
    go_ret
    exact ⟨rfl, belowK7 hU3⟩

end Go.Proofs.YthdpgekjbkpomaaGreatDoor
