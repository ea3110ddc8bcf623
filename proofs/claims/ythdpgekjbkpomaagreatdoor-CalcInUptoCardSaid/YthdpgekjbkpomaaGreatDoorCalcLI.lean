/- Walks: the law CalcIn. -/
import Derived.Test.YthdpgekjbkpomaaGreatDoorCalcH
import Derived.Test.YthdpgekjbkpomaaGreatDoorCalcN3
import Derived.Test.YthdpgekjbkpomaaGreatDoorVCopy
import Derived.Test.YthdpgekjbkpomaaGreatDoorBlkK
set_option maxRecDepth 100000
set_option linter.unusedVariables false
set_option linter.unusedSimpArgs false
namespace Go.Proofs.YthdpgekjbkpomaaGreatDoor
open Go.RowKit

set_option maxHeartbeats 2000000 in
theorem calc_in_at (kx nx : Int) (tx : ByteArray) (p : Option Addr) (N c : Nat) (vs : List Val.V) (cc : Int) (w : World) (hL : Lits w) (hA : ValsAt w p N vs) (hN : N ≤ 1048576) (hnx : Val.inr nx) (hr : ∀ v ∈ vs, Val.inr v.int) (k2 n2 : Int) (hv : Hid (Val.isIn ⟨kx, nx, tx.data.toList⟩ vs cc = ⟨k2, n2, []⟩)) :
    Calls Tryz.prog 6 #[.agg #[.int .i64 kx, .int .i64 nx, .string tx], .slice p N c, .int .i64 cc] w fun e w' => e = .returned (.bool true) ∧ Below w.heap.size w w' := by
  have hS := startK1 (start1 w (.int .i64 kx) (.int .i64 nx) (.string tx) 24)
  have hlen := hA.1
  replace hlen := Lib.hid hlen
  replace hnx := Lib.hid hnx
  replace hr := Lib.hid hr
  go_enter Tryz.func6, Tryz.ntmps6
  go_wp2_with fail
  have hS3 := keepKd1 hS
  obtain ⟨W0, hW0⟩ : ∃ W0, (w.alloc (.cells #[.int .i64 kx, .int .i64 nx, .string tx] 24)).drew = W0 := ⟨_, rfl⟩
  rw [hW0] at hS3
  refine wp_region_held_drew (S := fun W => W.cell? ⟨w.heap.size, 0, none⟩ = some (.int .i64 kx) ∧ W.cell? ⟨w.heap.size, 1, none⟩ = some (.int .i64 nx) ∧ W.cell? ⟨w.heap.size, 2, none⟩ = some (.string tx) ∧ w.heap.size < W.heap.size ∧ w.heap.size ≤ W.heap.size ∧ Below w.heap.size w W) (by kernel_rfl) ?_ (fun hH => ?_)
  · rw [hW0]; exact hS3
  rw [hW0] at hH ⊢
  clear hW0 hS hS3
  refine wpAnyH_ready (rs := [0]) (by kernel_rfl) (by simp) ?_
  refine AllReadyH.cons rfl (fun K hK => ?_) AllReadyH.nil
  go_simp
  go_at_call 13; refine (head3_any _ (hL.below (belowK1 hH))).mono ?_; rintro e w3 ⟨rfl, hb3⟩
  refine hK.out _ _ ?_ (fun hH1 => ?_)
  · exact keepK1 hH hb3
  clear hK K
  try simp only [List.getElem_toArray, List.getElem_cons_zero, List.getElem_cons_succ, Act.put, List.setIfInBounds_toArray, List.set_cons_zero, List.set_cons_succ]
  refine wpAnyH_take (i := 1) (v := ?_) rfl (by kernel_rfl) (by kernel_rfl) (by kernel_rfl) (fun _ _ _ h => h) (Or.inl ⟨by rfl, ?_⟩) hH1 ?_
  rotate_left
  · (intro W hSw; (try dsimp only at hSw); go_simp; try with_reducible rfl)
  try simp only [List.getElem_toArray, List.getElem_cons_zero, List.getElem_cons_succ, Act.put, List.setIfInBounds_toArray, List.set_cons_zero, List.set_cons_succ]
  refine wpAnyH_take (i := 2) (v := ?_) rfl (by kernel_rfl) (by kernel_rfl) (by kernel_rfl) (fun _ _ _ h => h) (Or.inl ⟨by rfl, ?_⟩) hH1 ?_
  rotate_left
  · (intro W hSw; (try dsimp only at hSw); go_simp; try with_reducible rfl)
  try simp only [List.getElem_toArray, List.getElem_cons_zero, List.getElem_cons_succ, Act.put, List.setIfInBounds_toArray, List.set_cons_zero, List.set_cons_succ]
  refine wpAnyH_take (i := 3) (v := ?_) rfl (by kernel_rfl) (by kernel_rfl) (by kernel_rfl) (fun _ _ _ h => h) (Or.inl ⟨by rfl, ?_⟩) hH1 ?_
  rotate_left
  · (intro W hSw; (try dsimp only at hSw); go_simp; try with_reducible rfl)
  try simp only [List.getElem_toArray, List.getElem_cons_zero, List.getElem_cons_succ, Act.put, List.setIfInBounds_toArray, List.set_cons_zero, List.set_cons_succ]
  refine wpAnyH_take (i := 5) (v := ?_) rfl (by kernel_rfl) (by kernel_rfl) (by kernel_rfl) (fun _ _ _ h => h) (Or.inl ⟨by rfl, ?_⟩) hH1 ?_
  rotate_left
  · (intro W hSw; (try dsimp only at hSw); go_simp; try with_reducible rfl)
  try simp only [List.getElem_toArray, List.getElem_cons_zero, List.getElem_cons_succ, Act.put, List.setIfInBounds_toArray, List.set_cons_zero, List.set_cons_succ]
  refine wpAnyH_take (i := 7) (v := ?_) rfl (by kernel_rfl) (by kernel_rfl) (by kernel_rfl) (fun _ _ _ h => h) (Or.inl ⟨by rfl, ?_⟩) hH1 ?_
  rotate_left
  · (intro W hSw; (try dsimp only at hSw); go_simp; try with_reducible rfl)
  try simp only [List.getElem_toArray, List.getElem_cons_zero, List.getElem_cons_succ, Act.put, List.setIfInBounds_toArray, List.set_cons_zero, List.set_cons_succ]
  refine wpAnyH_take (i := 8) (v := ?_) rfl (by kernel_rfl) (by kernel_rfl) (by kernel_rfl) (fun _ _ _ h => h) (Or.inl ⟨by rfl, ?_⟩) hH1 ?_
  rotate_left
  · (intro W hSw; (try dsimp only at hSw); go_simp; try with_reducible rfl)
  try simp only [List.getElem_toArray, List.getElem_cons_zero, List.getElem_cons_succ, Act.put, List.setIfInBounds_toArray, List.set_cons_zero, List.set_cons_succ]
  refine wpAnyH_take (i := 9) (v := ?_) rfl (by kernel_rfl) (by kernel_rfl) (by kernel_rfl) (fun _ _ _ h => h) (Or.inl ⟨by rfl, ?_⟩) hH1 ?_
  rotate_left
  · (intro W hSw; (try dsimp only at hSw); go_simp; try with_reducible rfl)
  try simp only [List.getElem_toArray, List.getElem_cons_zero, List.getElem_cons_succ, Act.put, List.setIfInBounds_toArray, List.set_cons_zero, List.set_cons_succ]
  refine wpAnyH_ready (rs := [4]) (by kernel_rfl) (by simp) ?_
  refine AllReadyH.cons rfl (fun K hK => ?_) AllReadyH.nil
  go_simp
  go_at_call 23; refine (rcopy_any p N c vs _ (hA.below (belowK1 hH1)) hN).mono ?_; rintro e w4 ⟨p', c', rfl, hown, hb4⟩; have hA4 := valsAt_own hown hlen.out
  refine hK.out _ _ ?_ (fun hH2 => ?_)
  · exact keepK1 hH1 hb4
  clear hK K
  try simp only [List.getElem_toArray, List.getElem_cons_zero, List.getElem_cons_succ, Act.put, List.setIfInBounds_toArray, List.set_cons_zero, List.set_cons_succ]
  refine wpAnyH_ready (rs := [6]) (by kernel_rfl) (by simp) ?_
  refine AllReadyH.cons rfl (fun K hK => ?_) AllReadyH.nil
  go_simp
  go_at_call 22; refine (cin_is _ _ _ _ _ _ vs _ _ hA4 hN _ _ hv).mono ?_; rintro e w5 ⟨rfl, hb5⟩
  refine hK.out _ _ ?_ (fun hH3 => ?_)
  · exact keepK1 hH2 hb5
  clear hK K
  try simp only [List.getElem_toArray, List.getElem_cons_zero, List.getElem_cons_succ, Act.put, List.setIfInBounds_toArray, List.set_cons_zero, List.set_cons_succ]
  refine wpAnyH_ready (rs := [10]) (by kernel_rfl) (by simp) ?_
  refine AllReadyH.cons rfl (fun K hK => ?_) AllReadyH.nil
  go_simp
  go_at_call 24; refine (rin_is _ _ _ _ _ _ vs _ _ (hL.below (belowK1 hH3)) (hA.below (belowK1 hH3)) hN hnx.out hr.out _ _ hv).mono ?_; rintro e w6 ⟨rfl, hb6⟩
  refine hK.out _ _ ?_ (fun hH4 => ?_)
  · exact keepK1 hH3 hb6
  clear hK K
  try simp only [List.getElem_toArray, List.getElem_cons_zero, List.getElem_cons_succ, Act.put, List.setIfInBounds_toArray, List.set_cons_zero, List.set_cons_succ]
  refine wpAnyH_take (i := 11) (v := ?_) rfl (by kernel_rfl) (by kernel_rfl) (by kernel_rfl) (fun _ _ _ h => h) (Or.inl ⟨by rfl, ?_⟩) hH4 ?_
  rotate_left
  · (intro W hSw; (try dsimp only at hSw); go_simp; try with_reducible rfl)
  try simp only [List.getElem_toArray, List.getElem_cons_zero, List.getElem_cons_succ, Act.put, List.setIfInBounds_toArray, List.set_cons_zero, List.set_cons_succ]
  refine wpAnyH_take (i := 12) (v := ?_) rfl (by kernel_rfl) (by kernel_rfl) (by kernel_rfl) (fun _ _ _ h => h) (Or.inl ⟨by rfl, ?_⟩) hH4 ?_
  rotate_left
  · (intro W hSw; (try dsimp only at hSw); go_simp; try with_reducible rfl)
  try simp only [List.getElem_toArray, List.getElem_cons_zero, List.getElem_cons_succ, Act.put, List.setIfInBounds_toArray, List.set_cons_zero, List.set_cons_succ]
  refine wpAnyH_take (i := 13) (v := ?_) rfl (by kernel_rfl) (by kernel_rfl) (by kernel_rfl) (fun _ _ _ h => h) (Or.inl ⟨by rfl, ?_⟩) hH4 ?_
  rotate_left
  · (intro W hSw; (try dsimp only at hSw); go_simp; try with_reducible rfl)
  try simp only [List.getElem_toArray, List.getElem_cons_zero, List.getElem_cons_succ, Act.put, List.setIfInBounds_toArray, List.set_cons_zero, List.set_cons_succ]
  refine wpAnyH_done (by kernel_rfl) ?_ _
  go_wp2
  go_ret
  exact ⟨rfl, belowK1 hH4⟩

theorem isIn_form (x : Val.V) (l : List Val.V) (c : Int) : (Val.isIn x l c).text = [] := by
  unfold Val.isIn
  repeat' split
  all_goals rfl
theorem calc_in (kx nx : Int) (tx : ByteArray) (p : Option Addr) (N c : Nat) (vs : List Val.V) (cc : Int) (w : World) (hA : ValsAt w p N vs) (hN : N ≤ 1048576) (hnx : Val.inr nx) (hr : ∀ v ∈ vs, Val.inr v.int) (hL : Lits w) :
    Calls Tryz.prog 6 #[.agg #[.int .i64 kx, .int .i64 nx, .string tx], .slice p N c, .int .i64 cc] w fun e w' => e = .returned (.bool true) ∧ Below w.heap.size w w' := by
  obtain ⟨k2, n2, h⟩ : ∃ k2 n2, Val.isIn ⟨kx, nx, tx.data.toList⟩ vs cc = ⟨k2, n2, []⟩ := ⟨(Val.isIn ⟨kx, nx, tx.data.toList⟩ vs cc).kind, (Val.isIn ⟨kx, nx, tx.data.toList⟩ vs cc).int, by rw [← isIn_form ⟨kx, nx, tx.data.toList⟩ vs cc]⟩
  exact calc_in_at kx nx tx p N c vs cc w hL hA hN hnx hr k2 n2 (Lib.hid h)

end Go.Proofs.YthdpgekjbkpomaaGreatDoor
