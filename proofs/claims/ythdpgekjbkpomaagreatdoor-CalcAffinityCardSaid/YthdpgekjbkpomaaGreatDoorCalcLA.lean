/- Walks: the law CalcAffinity. -/
import Derived.Test.YthdpgekjbkpomaaGreatDoorCalcH
import Derived.Test.YthdpgekjbkpomaaGreatDoorCalcS3
import Derived.Test.YthdpgekjbkpomaaGreatDoorBlkK
set_option maxRecDepth 100000
set_option linter.unusedVariables false
set_option linter.unusedSimpArgs false
namespace Go.Proofs.YthdpgekjbkpomaaGreatDoor
open Go.RowKit

set_option maxHeartbeats 4000000 in
theorem calc_affinity_at (ka na : Int) (ta : ByteArray) (kb nb : Int) (tb : ByteArray) (x y : Int) (w : World) (hL : Lits w) (ha : Val.inr na) (hb : Val.inr nb) (k1 n1 : Int) (t1 : ByteArray) (k2 n2 : Int) (t2 : ByteArray) (hv : Hid (Val.pair ⟨ka, na, ta.data.toList⟩ ⟨kb, nb, tb.data.toList⟩ x y = (⟨k1, n1, t1.data.toList⟩, ⟨k2, n2, t2.data.toList⟩))) (k3 n3 : Int) (t3 : ByteArray) (hq : Hid (Val.apply x ⟨ka, na, ta.data.toList⟩ = ⟨k3, n3, t3.data.toList⟩)) :
    Calls Tryz.prog 9 #[.agg #[.int .i64 ka, .int .i64 na, .string ta], .agg #[.int .i64 kb, .int .i64 nb, .string tb], .int .i64 x, .int .i64 y] w fun e w' => e = .returned (.bool true) ∧ Below w.heap.size w w' := by
  have hS := startK2 (start2 w (.int .i64 ka) (.int .i64 na) (.string ta) (.int .i64 kb) (.int .i64 nb) (.string tb) 24 24)
  replace ha := Lib.hid ha
  replace hb := Lib.hid hb
  go_enter Tryz.func9, Tryz.ntmps9
  go_wp2_with (first
    | (go_at_call 32; refine (cpair_is _ _ _ _ _ _ _ _ _ (hL.below (belowK2 hS)) ha.out hb.out _ _ _ _ _ _ hv).mono ?_; rintro e w1 ⟨rfl, hb1⟩; have hS1 := snocKK2 (.int .i64 k1) (.int .i64 n1) (.string t1) (.int .i64 k2) (.int .i64 n2) (.string t2) 24 24 (keepK2 hS hb1); obtain ⟨ka00, ka01, ka02, ka03, ka10, ka11, ka12, ka13, ka20, ka21, ka22, ka23, ka30, ka31, ka32, ka33, kas, kaB⟩ := id hS1)
    | (go_at_call 33; refine (rpair_is _ _ _ _ _ _ _ _ _ (hL.below (belowK4 hS1)) ha.out hb.out _ _ _ _ _ _ hv).mono ?_; rintro e w2 ⟨rfl, hb2⟩; have hS2 := snocKK4 (.int .i64 k1) (.int .i64 n1) (.string t1) (.int .i64 k2) (.int .i64 n2) (.string t2) 24 24 (keepK4 hS1 hb2)))
  clear hS hS1
  obtain ⟨W0, hW0⟩ : ∃ W0, ((w2.alloc (.cells #[.int .i64 k1, .int .i64 n1, .string t1] 24)).alloc (.cells #[.int .i64 k2, .int .i64 n2, .string t2] 24)).drew = W0 := ⟨_, rfl⟩
  have hS3 := keepKd6 hS2
  rw [hW0] at hS3
  refine wp_region_held_drew (S := fun W => W.cell? ⟨w.heap.size, 0, none⟩ = some (.int .i64 ka) ∧ W.cell? ⟨w.heap.size, 1, none⟩ = some (.int .i64 na) ∧ W.cell? ⟨w.heap.size, 2, none⟩ = some (.string ta) ∧ w.heap.size < W.heap.size ∧ W.cell? ⟨(w.heap.size + 1), 0, none⟩ = some (.int .i64 kb) ∧ W.cell? ⟨(w.heap.size + 1), 1, none⟩ = some (.int .i64 nb) ∧ W.cell? ⟨(w.heap.size + 1), 2, none⟩ = some (.string tb) ∧ (w.heap.size + 1) < W.heap.size ∧ W.cell? ⟨w1.heap.size, 0, none⟩ = some (.int .i64 k1) ∧ W.cell? ⟨w1.heap.size, 1, none⟩ = some (.int .i64 n1) ∧ W.cell? ⟨w1.heap.size, 2, none⟩ = some (.string t1) ∧ w1.heap.size < W.heap.size ∧ W.cell? ⟨(w1.heap.size + 1), 0, none⟩ = some (.int .i64 k2) ∧ W.cell? ⟨(w1.heap.size + 1), 1, none⟩ = some (.int .i64 n2) ∧ W.cell? ⟨(w1.heap.size + 1), 2, none⟩ = some (.string t2) ∧ (w1.heap.size + 1) < W.heap.size ∧ W.cell? ⟨w2.heap.size, 0, none⟩ = some (.int .i64 k1) ∧ W.cell? ⟨w2.heap.size, 1, none⟩ = some (.int .i64 n1) ∧ W.cell? ⟨w2.heap.size, 2, none⟩ = some (.string t1) ∧ w2.heap.size < W.heap.size ∧ W.cell? ⟨(w2.heap.size + 1), 0, none⟩ = some (.int .i64 k2) ∧ W.cell? ⟨(w2.heap.size + 1), 1, none⟩ = some (.int .i64 n2) ∧ W.cell? ⟨(w2.heap.size + 1), 2, none⟩ = some (.string t2) ∧ (w2.heap.size + 1) < W.heap.size ∧ w.heap.size ≤ W.heap.size ∧ Below w.heap.size w W) (by kernel_rfl) ?_ (fun hH => ?_)
  · rw [hW0]; exact hS3
  rw [hW0] at hH ⊢
  clear hW0 hS2 hS3
  refine wpAnyH_ready (rs := [0]) (by kernel_rfl) (by simp) ?_
  refine AllReadyH.cons rfl (fun K hK => ?_) AllReadyH.nil
  go_simp
  go_at_call 13; refine (head3_any _ (hL.below (belowK6 hH))).mono ?_; rintro e w3 ⟨rfl, hb3⟩
  refine hK.out _ _ ?_ (fun hH1 => ?_)
  · exact keepK6 hH hb3
  clear hK K
  try simp only [List.getElem_toArray, List.getElem_cons_zero, List.getElem_cons_succ, Act.put, List.setIfInBounds_toArray, List.set_cons_zero, List.set_cons_succ]
  refine wpAnyH_take (i := 1) (v := ?_) rfl (by kernel_rfl) (by kernel_rfl) (by kernel_rfl) (fun _ _ _ h => h) (Or.inl ⟨by rfl, ?_⟩) hH1 ?_
  rotate_left
  · (intro W hSw; (try dsimp only at hSw); go_simp; try with_reducible rfl)
  try simp only [List.getElem_toArray, List.getElem_cons_zero, List.getElem_cons_succ, Act.put, List.setIfInBounds_toArray, List.set_cons_zero, List.set_cons_succ]
  refine wpAnyH_take (i := 2) (v := ?_) rfl (by kernel_rfl) (by kernel_rfl) (by kernel_rfl) (fun _ _ _ h => h) (Or.inl ⟨by rfl, ?_⟩) hH1 ?_
  rotate_left
  · (intro W hSw; (try dsimp only at hSw); go_simp; try with_reducible rfl)
  try simp only [List.getElem_toArray, List.getElem_cons_zero, List.getElem_cons_succ, Act.put, List.setIfInBounds_toArray, List.set_cons_zero, List.set_cons_succ]
  refine wpAnyH_take (i := 3) (v := ?_) rfl (by kernel_rfl) (by kernel_rfl) (by kernel_rfl) (fun _ _ _ h => h) (Or.inl ⟨by rfl, ?_⟩) hH1 ?_
  rotate_left
  · (intro W hSw; (try dsimp only at hSw); go_simp; try with_reducible rfl)
  try simp only [List.getElem_toArray, List.getElem_cons_zero, List.getElem_cons_succ, Act.put, List.setIfInBounds_toArray, List.set_cons_zero, List.set_cons_succ]
  refine wpAnyH_take (i := 5) (v := ?_) rfl (by kernel_rfl) (by kernel_rfl) (by kernel_rfl) (fun _ _ _ h => h) (Or.inl ⟨by rfl, ?_⟩) hH1 ?_
  rotate_left
  · (intro W hSw; (try dsimp only at hSw); go_simp; try with_reducible rfl)
  try simp only [List.getElem_toArray, List.getElem_cons_zero, List.getElem_cons_succ, Act.put, List.setIfInBounds_toArray, List.set_cons_zero, List.set_cons_succ]
  refine wpAnyH_take (i := 6) (v := ?_) rfl (by kernel_rfl) (by kernel_rfl) (by kernel_rfl) (fun _ _ _ h => h) (Or.inl ⟨by rfl, ?_⟩) hH1 ?_
  rotate_left
  · (intro W hSw; (try dsimp only at hSw); go_simp; try with_reducible rfl)
  try simp only [List.getElem_toArray, List.getElem_cons_zero, List.getElem_cons_succ, Act.put, List.setIfInBounds_toArray, List.set_cons_zero, List.set_cons_succ]
  refine wpAnyH_ready (rs := [4]) (by kernel_rfl) (by simp) ?_
  refine AllReadyH.cons rfl (fun K hK => ?_) AllReadyH.nil
  go_simp
  go_at_call 34; refine (capply_is _ _ _ _ _ (hL.below (belowK6 hH1)) ha.out _ _ _ hq).mono ?_; rintro e w4 ⟨rfl, hb4⟩
  refine hK.out _ _ ?_ (fun hH2 => ?_)
  · exact keepK6 hH1 hb4
  clear hK K
  try simp only [List.getElem_toArray, List.getElem_cons_zero, List.getElem_cons_succ, Act.put, List.setIfInBounds_toArray, List.set_cons_zero, List.set_cons_succ]
  refine wpAnyH_ready (rs := [7]) (by kernel_rfl) (by simp) ?_
  refine AllReadyH.cons rfl (fun K hK => ?_) AllReadyH.nil
  go_simp
  go_at_call 35; refine (rapply_is _ _ _ _ _ (hL.below (belowK6 hH2)) ha.out _ _ _ hq).mono ?_; rintro e w5 ⟨rfl, hb5⟩
  refine hK.out _ _ ?_ (fun hH3 => ?_)
  · exact keepK6 hH2 hb5
  clear hK K
  try simp only [List.getElem_toArray, List.getElem_cons_zero, List.getElem_cons_succ, Act.put, List.setIfInBounds_toArray, List.set_cons_zero, List.set_cons_succ]
  refine wpAnyH_take (i := 8) (v := ?_) rfl (by kernel_rfl) (by kernel_rfl) (by kernel_rfl) (fun _ _ _ h => h) (Or.inl ⟨by rfl, ?_⟩) hH3 ?_
  rotate_left
  · (intro W hSw; (try dsimp only at hSw); go_simp; try with_reducible rfl)
  try simp only [List.getElem_toArray, List.getElem_cons_zero, List.getElem_cons_succ, Act.put, List.setIfInBounds_toArray, List.set_cons_zero, List.set_cons_succ]
  refine wpAnyH_take (i := 9) (v := ?_) rfl (by kernel_rfl) (by kernel_rfl) (by kernel_rfl) (fun _ _ _ h => h) (Or.inl ⟨by rfl, ?_⟩) hH3 ?_
  rotate_left
  · (intro W hSw; (try dsimp only at hSw); go_simp; try with_reducible rfl)
  try simp only [List.getElem_toArray, List.getElem_cons_zero, List.getElem_cons_succ, Act.put, List.setIfInBounds_toArray, List.set_cons_zero, List.set_cons_succ]
  refine wpAnyH_take (i := 10) (v := ?_) rfl (by kernel_rfl) (by kernel_rfl) (by kernel_rfl) (fun _ _ _ h => h) (Or.inl ⟨by rfl, ?_⟩) hH3 ?_
  rotate_left
  · (intro W hSw; (try dsimp only at hSw); go_simp; try with_reducible rfl)
  try simp only [List.getElem_toArray, List.getElem_cons_zero, List.getElem_cons_succ, Act.put, List.setIfInBounds_toArray, List.set_cons_zero, List.set_cons_succ]
  refine wpAnyH_take (i := 11) (v := ?_) rfl (by kernel_rfl) (by kernel_rfl) (by kernel_rfl) (fun _ _ _ h => h) (Or.inl ⟨by rfl, ?_⟩) hH3 ?_
  rotate_left
  · (intro W hSw; (try dsimp only at hSw); go_simp; try with_reducible rfl)
  try simp only [List.getElem_toArray, List.getElem_cons_zero, List.getElem_cons_succ, Act.put, List.setIfInBounds_toArray, List.set_cons_zero, List.set_cons_succ]
  refine wpAnyH_take (i := 12) (v := ?_) rfl (by kernel_rfl) (by kernel_rfl) (by kernel_rfl) (fun _ _ _ h => h) (Or.inl ⟨by rfl, ?_⟩) hH3 ?_
  rotate_left
  · (intro W hSw; (try dsimp only at hSw); go_simp; try with_reducible rfl)
  try simp only [List.getElem_toArray, List.getElem_cons_zero, List.getElem_cons_succ, Act.put, List.setIfInBounds_toArray, List.set_cons_zero, List.set_cons_succ]
  refine wpAnyH_take (i := 13) (v := ?_) rfl (by kernel_rfl) (by kernel_rfl) (by kernel_rfl) (fun _ _ _ h => h) (Or.inl ⟨by rfl, ?_⟩) hH3 ?_
  rotate_left
  · (intro W hSw; (try dsimp only at hSw); go_simp; try with_reducible rfl)
  try simp only [List.getElem_toArray, List.getElem_cons_zero, List.getElem_cons_succ, Act.put, List.setIfInBounds_toArray, List.set_cons_zero, List.set_cons_succ]
  refine wpAnyH_take (i := 14) (v := ?_) rfl (by kernel_rfl) (by kernel_rfl) (by kernel_rfl) (fun _ _ _ h => h) (Or.inl ⟨by rfl, ?_⟩) hH3 ?_
  rotate_left
  · (intro W hSw; (try dsimp only at hSw); go_simp; try with_reducible rfl)
  try simp only [List.getElem_toArray, List.getElem_cons_zero, List.getElem_cons_succ, Act.put, List.setIfInBounds_toArray, List.set_cons_zero, List.set_cons_succ]
  refine wpAnyH_take (i := 15) (v := ?_) rfl (by kernel_rfl) (by kernel_rfl) (by kernel_rfl) (fun _ _ _ h => h) (Or.inl ⟨by rfl, ?_⟩) hH3 ?_
  rotate_left
  · (intro W hSw; (try dsimp only at hSw); go_simp; try with_reducible rfl)
  try simp only [List.getElem_toArray, List.getElem_cons_zero, List.getElem_cons_succ, Act.put, List.setIfInBounds_toArray, List.set_cons_zero, List.set_cons_succ]
  refine wpAnyH_take (i := 16) (v := ?_) rfl (by kernel_rfl) (by kernel_rfl) (by kernel_rfl) (fun _ _ _ h => h) (Or.inl ⟨by rfl, ?_⟩) hH3 ?_
  rotate_left
  · (intro W hSw; (try dsimp only at hSw); go_simp; try with_reducible rfl)
  try simp only [List.getElem_toArray, List.getElem_cons_zero, List.getElem_cons_succ, Act.put, List.setIfInBounds_toArray, List.set_cons_zero, List.set_cons_succ]
  refine wpAnyH_take (i := 17) (v := ?_) rfl (by kernel_rfl) (by kernel_rfl) (by kernel_rfl) (fun _ _ _ h => h) (Or.inl ⟨by rfl, ?_⟩) hH3 ?_
  rotate_left
  · (intro W hSw; (try dsimp only at hSw); go_simp; try with_reducible rfl)
  try simp only [List.getElem_toArray, List.getElem_cons_zero, List.getElem_cons_succ, Act.put, List.setIfInBounds_toArray, List.set_cons_zero, List.set_cons_succ]
  refine wpAnyH_take (i := 18) (v := ?_) rfl (by kernel_rfl) (by kernel_rfl) (by kernel_rfl) (fun _ _ _ h => h) (Or.inl ⟨by rfl, ?_⟩) hH3 ?_
  rotate_left
  · (intro W hSw; (try dsimp only at hSw); go_simp; try with_reducible rfl)
  try simp only [List.getElem_toArray, List.getElem_cons_zero, List.getElem_cons_succ, Act.put, List.setIfInBounds_toArray, List.set_cons_zero, List.set_cons_succ]
  refine wpAnyH_take (i := 19) (v := ?_) rfl (by kernel_rfl) (by kernel_rfl) (by kernel_rfl) (fun _ _ _ h => h) (Or.inl ⟨by rfl, ?_⟩) hH3 ?_
  rotate_left
  · (intro W hSw; (try dsimp only at hSw); go_simp; try with_reducible rfl)
  try simp only [List.getElem_toArray, List.getElem_cons_zero, List.getElem_cons_succ, Act.put, List.setIfInBounds_toArray, List.set_cons_zero, List.set_cons_succ]
  refine wpAnyH_ready (rs := [20]) (by kernel_rfl) (by simp) ?_
  refine AllReadyH.cons rfl (fun K hK => ?_) AllReadyH.nil
  go_simp
  refine hK.out _ _ ?_ (fun hH4 => ?_)
  · exact hH3
  clear hK K
  try simp only [List.getElem_toArray, List.getElem_cons_zero, List.getElem_cons_succ, Act.put, List.setIfInBounds_toArray, List.set_cons_zero, List.set_cons_succ]
  refine wpAnyH_done (by kernel_rfl) ?_ _
  go_wp2
  go_ret
  exact ⟨rfl, belowK6 hH4⟩

theorem calc_affinity (ka na : Int) (ta : ByteArray) (kb nb : Int) (tb : ByteArray) (x y : Int) (w : World) (ha : Val.inr na) (hb : Val.inr nb) (hL : Lits w) :
    Calls Tryz.prog 9 #[.agg #[.int .i64 ka, .int .i64 na, .string ta], .agg #[.int .i64 kb, .int .i64 nb, .string tb], .int .i64 x, .int .i64 y] w fun e w' => e = .returned (.bool true) ∧ Below w.heap.size w w' :=
  calc_affinity_at ka na ta kb nb tb x y w hL ha hb _ _ (bs (Val.pair ⟨ka, na, ta.data.toList⟩ ⟨kb, nb, tb.data.toList⟩ x y).1.text) _ _ (bs (Val.pair ⟨ka, na, ta.data.toList⟩ ⟨kb, nb, tb.data.toList⟩ x y).2.text) (Lib.hid rfl) _ _ (bs (Val.apply x ⟨ka, na, ta.data.toList⟩).text) (Lib.hid rfl)

end Go.Proofs.YthdpgekjbkpomaaGreatDoor
