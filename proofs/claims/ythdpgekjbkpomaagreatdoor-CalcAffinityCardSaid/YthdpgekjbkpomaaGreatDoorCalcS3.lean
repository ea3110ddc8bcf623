/- Walks: the two sides of a comparison. -/
import Derived.Test.YthdpgekjbkpomaaGreatDoorCalcS2
import Derived.Test.YthdpgekjbkpomaaGreatDoorBlkQ
import Derived.Deep.RegionHeld3
set_option maxRecDepth 100000
set_option linter.unusedVariables false
set_option linter.unusedSimpArgs false
namespace Go.Proofs.YthdpgekjbkpomaaGreatDoor
open Go.RowKit

/-- a call answers with two values -/
def VPair (k n : Int) (t : ByteArray) (k' n' : Int) (t' : ByteArray) (w : World) (e : Ending) (w' : World) : Prop := e = .returned (.tuple #[.agg #[.int .i64 k, .int .i64 n, .string t], .agg #[.int .i64 k', .int .i64 n', .string t']]) ∧ Below w.heap.size w w'
set_option maxHeartbeats 2000000 in
theorem cpair_1 (y : Int) (ka na : Int) (ta : ByteArray) (kb nb : Int) (tb : ByteArray) (w : World) (hL : Lits w) (h : y ≠ 1) (hn : Val.inr nb) (k2 n2 : Int) (t2 : ByteArray) (hv : Hid (Val.apply 1 ⟨kb, nb, tb.data.toList⟩ = ⟨k2, n2, t2.data.toList⟩)) : Calls Tryz.prog 32 #[.agg #[.int .i64 ka, .int .i64 na, .string ta], .agg #[.int .i64 kb, .int .i64 nb, .string tb], .int .i64 1, .int .i64 y] w (VPair ka na ta k2 n2 t2 w) := by
  have hS := ofSQ (start4 w (.int .i64 ka) (.int .i64 na) (.string ta) (.int .i64 kb) (.int .i64 nb) (.string tb) (.int .i64 0) (.int .i64 0) (.string ⟨#[]⟩) (.int .i64 0) (.int .i64 0) (.string ⟨#[]⟩) 24 24 24 24)
  have b1 : (y != 1) = true := by simp [h]
  replace hn := Lib.hid hn
  clear h
  go_enter Tryz.func32, Tryz.ntmps32
  go_wp2_with fail
  refine wp_region_held_drew (S := (fun W => W.cell? ⟨w.heap.size, 0, none⟩ = some (.int .i64 ka) ∧ W.cell? ⟨w.heap.size, 1, none⟩ = some (.int .i64 na) ∧ W.cell? ⟨w.heap.size, 2, none⟩ = some (.string ta) ∧ W.frozen? ⟨w.heap.size, 0, none⟩ = false ∧ W.frozen? ⟨w.heap.size, 1, none⟩ = false ∧ W.frozen? ⟨w.heap.size, 2, none⟩ = false ∧ W.cell? ⟨w.heap.size + 1, 0, none⟩ = some (.int .i64 kb) ∧ W.cell? ⟨w.heap.size + 1, 1, none⟩ = some (.int .i64 nb) ∧ W.cell? ⟨w.heap.size + 1, 2, none⟩ = some (.string tb) ∧ W.frozen? ⟨w.heap.size + 1, 0, none⟩ = false ∧ W.frozen? ⟨w.heap.size + 1, 1, none⟩ = false ∧ W.frozen? ⟨w.heap.size + 1, 2, none⟩ = false ∧ W.cell? ⟨w.heap.size + 1 + 1, 0, none⟩ = some (peek W (w.heap.size + 1 + 1) 0) ∧ W.cell? ⟨w.heap.size + 1 + 1, 1, none⟩ = some (peek W (w.heap.size + 1 + 1) 1) ∧ W.cell? ⟨w.heap.size + 1 + 1, 2, none⟩ = some (peek W (w.heap.size + 1 + 1) 2) ∧ W.frozen? ⟨w.heap.size + 1 + 1, 0, none⟩ = false ∧ W.frozen? ⟨w.heap.size + 1 + 1, 1, none⟩ = false ∧ W.frozen? ⟨w.heap.size + 1 + 1, 2, none⟩ = false ∧ W.cell? ⟨w.heap.size + 1 + 1 + 1, 0, none⟩ = some (peek W (w.heap.size + 1 + 1 + 1) 0) ∧ W.cell? ⟨w.heap.size + 1 + 1 + 1, 1, none⟩ = some (peek W (w.heap.size + 1 + 1 + 1) 1) ∧ W.cell? ⟨w.heap.size + 1 + 1 + 1, 2, none⟩ = some (peek W (w.heap.size + 1 + 1 + 1) 2) ∧ W.frozen? ⟨w.heap.size + 1 + 1 + 1, 0, none⟩ = false ∧ W.frozen? ⟨w.heap.size + 1 + 1 + 1, 1, none⟩ = false ∧ W.frozen? ⟨w.heap.size + 1 + 1 + 1, 2, none⟩ = false ∧ w.heap.size + 1 + 1 + 1 < W.heap.size ∧ Below w.heap.size w W)) (by kernel_rfl) ?_ (fun hH => ?_)
  · exact keepQd hS
  refine wpAnyH_take (i := 0) (v := ?_) rfl (by kernel_rfl) (by kernel_rfl) (by kernel_rfl) (fun _ _ _ h => h) (Or.inl ⟨by rfl, ?_⟩) hH ?_
  rotate_left
  · (intro W hSw; (try dsimp only at hSw); go_simp; try with_reducible rfl)
  try simp only [Act.put, List.setIfInBounds_toArray, List.set_cons_zero, List.set_cons_succ]
  refine wpAnyH_take (i := 1) (v := ?_) rfl (by kernel_rfl) (by kernel_rfl) (by kernel_rfl) (fun _ _ _ h => h) (Or.inl ⟨by rfl, ?_⟩) hH ?_
  rotate_left
  · (intro W hSw; (try dsimp only at hSw); go_simp; try with_reducible rfl)
  try simp only [Act.put, List.setIfInBounds_toArray, List.set_cons_zero, List.set_cons_succ]
  refine wpAnyH_ready (rs := [2]) (by kernel_rfl) (by simp) ?_
  refine AllReadyH.cons rfl (fun K hK => ?_) AllReadyH.nil
  go_simp
  go_at_call 34; refine (capply_is _ _ _ _ _ (hL.below (belowQ hH)) hn.out _ _ _ hv).mono ?_; rintro e w1 ⟨rfl, hb1⟩
  refine hK.out _ _ ?_ (fun hH2 => ?_)
  · exact keepQ hH hb1
  clear hK K
  try simp only [Act.put, List.setIfInBounds_toArray, List.set_cons_zero, List.set_cons_succ]
  have hP1 := keepQ (w := w) hH hb1
  refine wpAnyH_ready (rs := [3]) (by kernel_rfl) (by simp) ?_
  refine AllReadyH.cons rfl (fun K hK => ?_) AllReadyH.nil
  go_simp
  refine hK.out _ _ ?_ (fun hH3 => ?_)
  · exact putQa hH2
  clear hK K
  try simp only [Act.put, List.setIfInBounds_toArray, List.set_cons_zero, List.set_cons_succ]
  refine wpAnyH_ready (rs := [4]) (by kernel_rfl) (by simp) ?_
  refine AllReadyH.cons rfl (fun K hK => ?_) AllReadyH.nil
  go_simp
  refine hK.out _ _ ?_ (fun hH4 => ?_)
  · exact putQb hH3
  clear hK K
  try simp only [Act.put, List.setIfInBounds_toArray, List.set_cons_zero, List.set_cons_succ]
  refine wpAnyH_done (by kernel_rfl) ?_ _
  have hB := belowQ hH4
  clear hH hH2 hH3 hH4 hS
  obtain ⟨ca0, ca1, ca2, ca3, ca4, ca5, ca6, ca7, ca8, ca9, ca10, ca11, ca12, ca13, ca14, ca15, ca16, ca17, ca18, ca19, ca20, ca21, ca22, ca23, hz, hB1⟩ := hP1
  go_wp2
  exact bodyPost_ret (v := .tuple #[.agg #[.int .i64 ka, .int .i64 na, .string ta], .agg #[.int .i64 k2, .int .i64 n2, .string t2]]) (by simp only [results, Tryz.results32]; go_simp) rfl ⟨rfl, hB⟩
set_option maxHeartbeats 2000000 in
theorem cpair_2 (x : Int) (ka na : Int) (ta : ByteArray) (kb nb : Int) (tb : ByteArray) (w : World) (hL : Lits w) (h : x ≠ 1) (hn : Val.inr na) (k2 n2 : Int) (t2 : ByteArray) (hv : Hid (Val.apply 1 ⟨ka, na, ta.data.toList⟩ = ⟨k2, n2, t2.data.toList⟩)) : Calls Tryz.prog 32 #[.agg #[.int .i64 ka, .int .i64 na, .string ta], .agg #[.int .i64 kb, .int .i64 nb, .string tb], .int .i64 x, .int .i64 1] w (VPair k2 n2 t2 kb nb tb w) := by
  have hS := ofSQ (start4 w (.int .i64 ka) (.int .i64 na) (.string ta) (.int .i64 kb) (.int .i64 nb) (.string tb) (.int .i64 0) (.int .i64 0) (.string ⟨#[]⟩) (.int .i64 0) (.int .i64 0) (.string ⟨#[]⟩) 24 24 24 24)
  have b1 : (x == 1) = false := by simp [h]
  have b2 : (x != 1) = true := by simp [h]
  replace hn := Lib.hid hn
  clear h
  go_enter Tryz.func32, Tryz.ntmps32
  go_wp2_with fail
  refine wp_region_held_drew (S := (fun W => W.cell? ⟨w.heap.size, 0, none⟩ = some (.int .i64 ka) ∧ W.cell? ⟨w.heap.size, 1, none⟩ = some (.int .i64 na) ∧ W.cell? ⟨w.heap.size, 2, none⟩ = some (.string ta) ∧ W.frozen? ⟨w.heap.size, 0, none⟩ = false ∧ W.frozen? ⟨w.heap.size, 1, none⟩ = false ∧ W.frozen? ⟨w.heap.size, 2, none⟩ = false ∧ W.cell? ⟨w.heap.size + 1, 0, none⟩ = some (.int .i64 kb) ∧ W.cell? ⟨w.heap.size + 1, 1, none⟩ = some (.int .i64 nb) ∧ W.cell? ⟨w.heap.size + 1, 2, none⟩ = some (.string tb) ∧ W.frozen? ⟨w.heap.size + 1, 0, none⟩ = false ∧ W.frozen? ⟨w.heap.size + 1, 1, none⟩ = false ∧ W.frozen? ⟨w.heap.size + 1, 2, none⟩ = false ∧ W.cell? ⟨w.heap.size + 1 + 1, 0, none⟩ = some (peek W (w.heap.size + 1 + 1) 0) ∧ W.cell? ⟨w.heap.size + 1 + 1, 1, none⟩ = some (peek W (w.heap.size + 1 + 1) 1) ∧ W.cell? ⟨w.heap.size + 1 + 1, 2, none⟩ = some (peek W (w.heap.size + 1 + 1) 2) ∧ W.frozen? ⟨w.heap.size + 1 + 1, 0, none⟩ = false ∧ W.frozen? ⟨w.heap.size + 1 + 1, 1, none⟩ = false ∧ W.frozen? ⟨w.heap.size + 1 + 1, 2, none⟩ = false ∧ W.cell? ⟨w.heap.size + 1 + 1 + 1, 0, none⟩ = some (peek W (w.heap.size + 1 + 1 + 1) 0) ∧ W.cell? ⟨w.heap.size + 1 + 1 + 1, 1, none⟩ = some (peek W (w.heap.size + 1 + 1 + 1) 1) ∧ W.cell? ⟨w.heap.size + 1 + 1 + 1, 2, none⟩ = some (peek W (w.heap.size + 1 + 1 + 1) 2) ∧ W.frozen? ⟨w.heap.size + 1 + 1 + 1, 0, none⟩ = false ∧ W.frozen? ⟨w.heap.size + 1 + 1 + 1, 1, none⟩ = false ∧ W.frozen? ⟨w.heap.size + 1 + 1 + 1, 2, none⟩ = false ∧ w.heap.size + 1 + 1 + 1 < W.heap.size ∧ Below w.heap.size w W)) (by kernel_rfl) ?_ (fun hH => ?_)
  · exact keepQd hS
  refine wpAnyH_take (i := 0) (v := ?_) rfl (by kernel_rfl) (by kernel_rfl) (by kernel_rfl) (fun _ _ _ h => h) (Or.inl ⟨by rfl, ?_⟩) hH ?_
  rotate_left
  · (intro W hSw; (try dsimp only at hSw); go_simp; try with_reducible rfl)
  try simp only [Act.put, List.setIfInBounds_toArray, List.set_cons_zero, List.set_cons_succ]
  refine wpAnyH_take (i := 2) (v := ?_) rfl (by kernel_rfl) (by kernel_rfl) (by kernel_rfl) (fun _ _ _ h => h) (Or.inl ⟨by rfl, ?_⟩) hH ?_
  rotate_left
  · (intro W hSw; (try dsimp only at hSw); go_simp; try with_reducible rfl)
  try simp only [Act.put, List.setIfInBounds_toArray, List.set_cons_zero, List.set_cons_succ]
  refine wpAnyH_ready (rs := [1]) (by kernel_rfl) (by simp) ?_
  refine AllReadyH.cons rfl (fun K hK => ?_) AllReadyH.nil
  go_simp
  go_at_call 34; refine (capply_is _ _ _ _ _ (hL.below (belowQ hH)) hn.out _ _ _ hv).mono ?_; rintro e w1 ⟨rfl, hb1⟩
  refine hK.out _ _ ?_ (fun hH2 => ?_)
  · exact keepQ hH hb1
  clear hK K
  try simp only [Act.put, List.setIfInBounds_toArray, List.set_cons_zero, List.set_cons_succ]
  have hP1 := keepQ (w := w) hH hb1
  refine wpAnyH_ready (rs := [3]) (by kernel_rfl) (by simp) ?_
  refine AllReadyH.cons rfl (fun K hK => ?_) AllReadyH.nil
  go_simp
  refine hK.out _ _ ?_ (fun hH3 => ?_)
  · exact putQa hH2
  clear hK K
  try simp only [Act.put, List.setIfInBounds_toArray, List.set_cons_zero, List.set_cons_succ]
  refine wpAnyH_ready (rs := [4]) (by kernel_rfl) (by simp) ?_
  refine AllReadyH.cons rfl (fun K hK => ?_) AllReadyH.nil
  go_simp
  refine hK.out _ _ ?_ (fun hH4 => ?_)
  · exact putQb hH3
  clear hK K
  try simp only [Act.put, List.setIfInBounds_toArray, List.set_cons_zero, List.set_cons_succ]
  refine wpAnyH_done (by kernel_rfl) ?_ _
  have hB := belowQ hH4
  clear hH hH2 hH3 hH4 hS
  obtain ⟨ca0, ca1, ca2, ca3, ca4, ca5, ca6, ca7, ca8, ca9, ca10, ca11, ca12, ca13, ca14, ca15, ca16, ca17, ca18, ca19, ca20, ca21, ca22, ca23, hz, hB1⟩ := hP1
  go_wp2
  exact bodyPost_ret (v := .tuple #[.agg #[.int .i64 k2, .int .i64 n2, .string t2], .agg #[.int .i64 kb, .int .i64 nb, .string tb]]) (by simp only [results, Tryz.results32]; go_simp) rfl ⟨rfl, hB⟩
set_option maxHeartbeats 2000000 in
theorem cpair_3 (ka na : Int) (ta : ByteArray) (kb nb : Int) (tb : ByteArray) (w : World) (hL : Lits w)  (hn : Val.inr nb) (k2 n2 : Int) (t2 : ByteArray) (hv : Hid (Val.apply 2 ⟨kb, nb, tb.data.toList⟩ = ⟨k2, n2, t2.data.toList⟩)) : Calls Tryz.prog 32 #[.agg #[.int .i64 ka, .int .i64 na, .string ta], .agg #[.int .i64 kb, .int .i64 nb, .string tb], .int .i64 2, .int .i64 0] w (VPair ka na ta k2 n2 t2 w) := by
  have hS := ofSQ (start4 w (.int .i64 ka) (.int .i64 na) (.string ta) (.int .i64 kb) (.int .i64 nb) (.string tb) (.int .i64 0) (.int .i64 0) (.string ⟨#[]⟩) (.int .i64 0) (.int .i64 0) (.string ⟨#[]⟩) 24 24 24 24)
  replace hn := Lib.hid hn
  go_enter Tryz.func32, Tryz.ntmps32
  go_wp2_with fail
  refine wp_region_held_drew (S := (fun W => W.cell? ⟨w.heap.size, 0, none⟩ = some (.int .i64 ka) ∧ W.cell? ⟨w.heap.size, 1, none⟩ = some (.int .i64 na) ∧ W.cell? ⟨w.heap.size, 2, none⟩ = some (.string ta) ∧ W.frozen? ⟨w.heap.size, 0, none⟩ = false ∧ W.frozen? ⟨w.heap.size, 1, none⟩ = false ∧ W.frozen? ⟨w.heap.size, 2, none⟩ = false ∧ W.cell? ⟨w.heap.size + 1, 0, none⟩ = some (.int .i64 kb) ∧ W.cell? ⟨w.heap.size + 1, 1, none⟩ = some (.int .i64 nb) ∧ W.cell? ⟨w.heap.size + 1, 2, none⟩ = some (.string tb) ∧ W.frozen? ⟨w.heap.size + 1, 0, none⟩ = false ∧ W.frozen? ⟨w.heap.size + 1, 1, none⟩ = false ∧ W.frozen? ⟨w.heap.size + 1, 2, none⟩ = false ∧ W.cell? ⟨w.heap.size + 1 + 1, 0, none⟩ = some (peek W (w.heap.size + 1 + 1) 0) ∧ W.cell? ⟨w.heap.size + 1 + 1, 1, none⟩ = some (peek W (w.heap.size + 1 + 1) 1) ∧ W.cell? ⟨w.heap.size + 1 + 1, 2, none⟩ = some (peek W (w.heap.size + 1 + 1) 2) ∧ W.frozen? ⟨w.heap.size + 1 + 1, 0, none⟩ = false ∧ W.frozen? ⟨w.heap.size + 1 + 1, 1, none⟩ = false ∧ W.frozen? ⟨w.heap.size + 1 + 1, 2, none⟩ = false ∧ W.cell? ⟨w.heap.size + 1 + 1 + 1, 0, none⟩ = some (peek W (w.heap.size + 1 + 1 + 1) 0) ∧ W.cell? ⟨w.heap.size + 1 + 1 + 1, 1, none⟩ = some (peek W (w.heap.size + 1 + 1 + 1) 1) ∧ W.cell? ⟨w.heap.size + 1 + 1 + 1, 2, none⟩ = some (peek W (w.heap.size + 1 + 1 + 1) 2) ∧ W.frozen? ⟨w.heap.size + 1 + 1 + 1, 0, none⟩ = false ∧ W.frozen? ⟨w.heap.size + 1 + 1 + 1, 1, none⟩ = false ∧ W.frozen? ⟨w.heap.size + 1 + 1 + 1, 2, none⟩ = false ∧ w.heap.size + 1 + 1 + 1 < W.heap.size ∧ Below w.heap.size w W)) (by kernel_rfl) ?_ (fun hH => ?_)
  · exact keepQd hS
  refine wpAnyH_take (i := 0) (v := ?_) rfl (by kernel_rfl) (by kernel_rfl) (by kernel_rfl) (fun _ _ _ h => h) (Or.inl ⟨by rfl, ?_⟩) hH ?_
  rotate_left
  · (intro W hSw; (try dsimp only at hSw); go_simp; try with_reducible rfl)
  try simp only [Act.put, List.setIfInBounds_toArray, List.set_cons_zero, List.set_cons_succ]
  refine wpAnyH_take (i := 1) (v := ?_) rfl (by kernel_rfl) (by kernel_rfl) (by kernel_rfl) (fun _ _ _ h => h) (Or.inl ⟨by rfl, ?_⟩) hH ?_
  rotate_left
  · (intro W hSw; (try dsimp only at hSw); go_simp; try with_reducible rfl)
  try simp only [Act.put, List.setIfInBounds_toArray, List.set_cons_zero, List.set_cons_succ]
  refine wpAnyH_ready (rs := [2]) (by kernel_rfl) (by simp) ?_
  refine AllReadyH.cons rfl (fun K hK => ?_) AllReadyH.nil
  go_simp
  go_at_call 34; refine (capply_is _ _ _ _ _ (hL.below (belowQ hH)) hn.out _ _ _ hv).mono ?_; rintro e w1 ⟨rfl, hb1⟩
  refine hK.out _ _ ?_ (fun hH2 => ?_)
  · exact keepQ hH hb1
  clear hK K
  try simp only [Act.put, List.setIfInBounds_toArray, List.set_cons_zero, List.set_cons_succ]
  have hP1 := keepQ (w := w) hH hb1
  refine wpAnyH_ready (rs := [3]) (by kernel_rfl) (by simp) ?_
  refine AllReadyH.cons rfl (fun K hK => ?_) AllReadyH.nil
  go_simp
  refine hK.out _ _ ?_ (fun hH3 => ?_)
  · exact putQa hH2
  clear hK K
  try simp only [Act.put, List.setIfInBounds_toArray, List.set_cons_zero, List.set_cons_succ]
  refine wpAnyH_ready (rs := [4]) (by kernel_rfl) (by simp) ?_
  refine AllReadyH.cons rfl (fun K hK => ?_) AllReadyH.nil
  go_simp
  refine hK.out _ _ ?_ (fun hH4 => ?_)
  · exact putQb hH3
  clear hK K
  try simp only [Act.put, List.setIfInBounds_toArray, List.set_cons_zero, List.set_cons_succ]
  refine wpAnyH_done (by kernel_rfl) ?_ _
  have hB := belowQ hH4
  clear hH hH2 hH3 hH4 hS
  obtain ⟨ca0, ca1, ca2, ca3, ca4, ca5, ca6, ca7, ca8, ca9, ca10, ca11, ca12, ca13, ca14, ca15, ca16, ca17, ca18, ca19, ca20, ca21, ca22, ca23, hz, hB1⟩ := hP1
  go_wp2
  exact bodyPost_ret (v := .tuple #[.agg #[.int .i64 ka, .int .i64 na, .string ta], .agg #[.int .i64 k2, .int .i64 n2, .string t2]]) (by simp only [results, Tryz.results32]; go_simp) rfl ⟨rfl, hB⟩
set_option maxHeartbeats 2000000 in
theorem cpair_4 (ka na : Int) (ta : ByteArray) (kb nb : Int) (tb : ByteArray) (w : World) (hL : Lits w)  (hn : Val.inr na) (k2 n2 : Int) (t2 : ByteArray) (hv : Hid (Val.apply 2 ⟨ka, na, ta.data.toList⟩ = ⟨k2, n2, t2.data.toList⟩)) : Calls Tryz.prog 32 #[.agg #[.int .i64 ka, .int .i64 na, .string ta], .agg #[.int .i64 kb, .int .i64 nb, .string tb], .int .i64 0, .int .i64 2] w (VPair k2 n2 t2 kb nb tb w) := by
  have hS := ofSQ (start4 w (.int .i64 ka) (.int .i64 na) (.string ta) (.int .i64 kb) (.int .i64 nb) (.string tb) (.int .i64 0) (.int .i64 0) (.string ⟨#[]⟩) (.int .i64 0) (.int .i64 0) (.string ⟨#[]⟩) 24 24 24 24)
  replace hn := Lib.hid hn
  go_enter Tryz.func32, Tryz.ntmps32
  go_wp2_with fail
  refine wp_region_held_drew (S := (fun W => W.cell? ⟨w.heap.size, 0, none⟩ = some (.int .i64 ka) ∧ W.cell? ⟨w.heap.size, 1, none⟩ = some (.int .i64 na) ∧ W.cell? ⟨w.heap.size, 2, none⟩ = some (.string ta) ∧ W.frozen? ⟨w.heap.size, 0, none⟩ = false ∧ W.frozen? ⟨w.heap.size, 1, none⟩ = false ∧ W.frozen? ⟨w.heap.size, 2, none⟩ = false ∧ W.cell? ⟨w.heap.size + 1, 0, none⟩ = some (.int .i64 kb) ∧ W.cell? ⟨w.heap.size + 1, 1, none⟩ = some (.int .i64 nb) ∧ W.cell? ⟨w.heap.size + 1, 2, none⟩ = some (.string tb) ∧ W.frozen? ⟨w.heap.size + 1, 0, none⟩ = false ∧ W.frozen? ⟨w.heap.size + 1, 1, none⟩ = false ∧ W.frozen? ⟨w.heap.size + 1, 2, none⟩ = false ∧ W.cell? ⟨w.heap.size + 1 + 1, 0, none⟩ = some (peek W (w.heap.size + 1 + 1) 0) ∧ W.cell? ⟨w.heap.size + 1 + 1, 1, none⟩ = some (peek W (w.heap.size + 1 + 1) 1) ∧ W.cell? ⟨w.heap.size + 1 + 1, 2, none⟩ = some (peek W (w.heap.size + 1 + 1) 2) ∧ W.frozen? ⟨w.heap.size + 1 + 1, 0, none⟩ = false ∧ W.frozen? ⟨w.heap.size + 1 + 1, 1, none⟩ = false ∧ W.frozen? ⟨w.heap.size + 1 + 1, 2, none⟩ = false ∧ W.cell? ⟨w.heap.size + 1 + 1 + 1, 0, none⟩ = some (peek W (w.heap.size + 1 + 1 + 1) 0) ∧ W.cell? ⟨w.heap.size + 1 + 1 + 1, 1, none⟩ = some (peek W (w.heap.size + 1 + 1 + 1) 1) ∧ W.cell? ⟨w.heap.size + 1 + 1 + 1, 2, none⟩ = some (peek W (w.heap.size + 1 + 1 + 1) 2) ∧ W.frozen? ⟨w.heap.size + 1 + 1 + 1, 0, none⟩ = false ∧ W.frozen? ⟨w.heap.size + 1 + 1 + 1, 1, none⟩ = false ∧ W.frozen? ⟨w.heap.size + 1 + 1 + 1, 2, none⟩ = false ∧ w.heap.size + 1 + 1 + 1 < W.heap.size ∧ Below w.heap.size w W)) (by kernel_rfl) ?_ (fun hH => ?_)
  · exact keepQd hS
  refine wpAnyH_take (i := 0) (v := ?_) rfl (by kernel_rfl) (by kernel_rfl) (by kernel_rfl) (fun _ _ _ h => h) (Or.inl ⟨by rfl, ?_⟩) hH ?_
  rotate_left
  · (intro W hSw; (try dsimp only at hSw); go_simp; try with_reducible rfl)
  try simp only [Act.put, List.setIfInBounds_toArray, List.set_cons_zero, List.set_cons_succ]
  refine wpAnyH_take (i := 2) (v := ?_) rfl (by kernel_rfl) (by kernel_rfl) (by kernel_rfl) (fun _ _ _ h => h) (Or.inl ⟨by rfl, ?_⟩) hH ?_
  rotate_left
  · (intro W hSw; (try dsimp only at hSw); go_simp; try with_reducible rfl)
  try simp only [Act.put, List.setIfInBounds_toArray, List.set_cons_zero, List.set_cons_succ]
  refine wpAnyH_ready (rs := [1]) (by kernel_rfl) (by simp) ?_
  refine AllReadyH.cons rfl (fun K hK => ?_) AllReadyH.nil
  go_simp
  go_at_call 34; refine (capply_is _ _ _ _ _ (hL.below (belowQ hH)) hn.out _ _ _ hv).mono ?_; rintro e w1 ⟨rfl, hb1⟩
  refine hK.out _ _ ?_ (fun hH2 => ?_)
  · exact keepQ hH hb1
  clear hK K
  try simp only [Act.put, List.setIfInBounds_toArray, List.set_cons_zero, List.set_cons_succ]
  have hP1 := keepQ (w := w) hH hb1
  refine wpAnyH_ready (rs := [3]) (by kernel_rfl) (by simp) ?_
  refine AllReadyH.cons rfl (fun K hK => ?_) AllReadyH.nil
  go_simp
  refine hK.out _ _ ?_ (fun hH3 => ?_)
  · exact putQa hH2
  clear hK K
  try simp only [Act.put, List.setIfInBounds_toArray, List.set_cons_zero, List.set_cons_succ]
  refine wpAnyH_ready (rs := [4]) (by kernel_rfl) (by simp) ?_
  refine AllReadyH.cons rfl (fun K hK => ?_) AllReadyH.nil
  go_simp
  refine hK.out _ _ ?_ (fun hH4 => ?_)
  · exact putQb hH3
  clear hK K
  try simp only [Act.put, List.setIfInBounds_toArray, List.set_cons_zero, List.set_cons_succ]
  refine wpAnyH_done (by kernel_rfl) ?_ _
  have hB := belowQ hH4
  clear hH hH2 hH3 hH4 hS
  obtain ⟨ca0, ca1, ca2, ca3, ca4, ca5, ca6, ca7, ca8, ca9, ca10, ca11, ca12, ca13, ca14, ca15, ca16, ca17, ca18, ca19, ca20, ca21, ca22, ca23, hz, hB1⟩ := hP1
  go_wp2
  exact bodyPost_ret (v := .tuple #[.agg #[.int .i64 k2, .int .i64 n2, .string t2], .agg #[.int .i64 kb, .int .i64 nb, .string tb]]) (by simp only [results, Tryz.results32]; go_simp) rfl ⟨rfl, hB⟩
set_option maxHeartbeats 2000000 in
theorem cpair_5 (ka na : Int) (ta : ByteArray) (kb nb : Int) (tb : ByteArray) (w : World) (hL : Lits w)  : Calls Tryz.prog 32 #[.agg #[.int .i64 ka, .int .i64 na, .string ta], .agg #[.int .i64 kb, .int .i64 nb, .string tb], .int .i64 1, .int .i64 1] w (VPair ka na ta kb nb tb w) := by
  have hS := ofSQ (start4 w (.int .i64 ka) (.int .i64 na) (.string ta) (.int .i64 kb) (.int .i64 nb) (.string tb) (.int .i64 0) (.int .i64 0) (.string ⟨#[]⟩) (.int .i64 0) (.int .i64 0) (.string ⟨#[]⟩) 24 24 24 24)
  go_enter Tryz.func32, Tryz.ntmps32
  go_wp2_with fail
  obtain ⟨W0, hW0⟩ : ∃ W0, ((((w.alloc (.cells #[.int .i64 ka, .int .i64 na, .string ta] 24)).alloc (.cells #[.int .i64 kb, .int .i64 nb, .string tb] 24)).alloc (.cells #[.int .i64 0, .int .i64 0, .string ⟨#[]⟩] 24)).alloc (.cells #[.int .i64 0, .int .i64 0, .string ⟨#[]⟩] 24)) = W0 := ⟨_, rfl⟩
  rw [hW0] at hS ⊢
  clear hW0
  refine wp_region_held_drew (S := (fun W => W.cell? ⟨w.heap.size, 0, none⟩ = some (.int .i64 ka) ∧ W.cell? ⟨w.heap.size, 1, none⟩ = some (.int .i64 na) ∧ W.cell? ⟨w.heap.size, 2, none⟩ = some (.string ta) ∧ W.frozen? ⟨w.heap.size, 0, none⟩ = false ∧ W.frozen? ⟨w.heap.size, 1, none⟩ = false ∧ W.frozen? ⟨w.heap.size, 2, none⟩ = false ∧ W.cell? ⟨w.heap.size + 1, 0, none⟩ = some (.int .i64 kb) ∧ W.cell? ⟨w.heap.size + 1, 1, none⟩ = some (.int .i64 nb) ∧ W.cell? ⟨w.heap.size + 1, 2, none⟩ = some (.string tb) ∧ W.frozen? ⟨w.heap.size + 1, 0, none⟩ = false ∧ W.frozen? ⟨w.heap.size + 1, 1, none⟩ = false ∧ W.frozen? ⟨w.heap.size + 1, 2, none⟩ = false ∧ W.cell? ⟨w.heap.size + 1 + 1, 0, none⟩ = some (peek W (w.heap.size + 1 + 1) 0) ∧ W.cell? ⟨w.heap.size + 1 + 1, 1, none⟩ = some (peek W (w.heap.size + 1 + 1) 1) ∧ W.cell? ⟨w.heap.size + 1 + 1, 2, none⟩ = some (peek W (w.heap.size + 1 + 1) 2) ∧ W.frozen? ⟨w.heap.size + 1 + 1, 0, none⟩ = false ∧ W.frozen? ⟨w.heap.size + 1 + 1, 1, none⟩ = false ∧ W.frozen? ⟨w.heap.size + 1 + 1, 2, none⟩ = false ∧ W.cell? ⟨w.heap.size + 1 + 1 + 1, 0, none⟩ = some (peek W (w.heap.size + 1 + 1 + 1) 0) ∧ W.cell? ⟨w.heap.size + 1 + 1 + 1, 1, none⟩ = some (peek W (w.heap.size + 1 + 1 + 1) 1) ∧ W.cell? ⟨w.heap.size + 1 + 1 + 1, 2, none⟩ = some (peek W (w.heap.size + 1 + 1 + 1) 2) ∧ W.frozen? ⟨w.heap.size + 1 + 1 + 1, 0, none⟩ = false ∧ W.frozen? ⟨w.heap.size + 1 + 1 + 1, 1, none⟩ = false ∧ W.frozen? ⟨w.heap.size + 1 + 1 + 1, 2, none⟩ = false ∧ w.heap.size + 1 + 1 + 1 < W.heap.size ∧ Below w.heap.size w W)) (by kernel_rfl) ?_ (fun hH => ?_)
  · exact keepQd hS
  obtain ⟨W1, hW1⟩ : ∃ W1, W0.drew = W1 := ⟨_, rfl⟩
  rw [hW1] at hH ⊢
  clear hW1
  have hP1 := hH
  refine wpAnyH_take (i := 0) (v := ?_) rfl (by kernel_rfl) (by kernel_rfl) (by kernel_rfl) (fun _ _ _ h => h) (Or.inl ⟨by rfl, ?_⟩) hH ?_
  rotate_left
  · (intro W hSw; (try dsimp only at hSw); go_simp; try with_reducible rfl)
  try simp only [Act.put, List.setIfInBounds_toArray, List.set_cons_zero, List.set_cons_succ]
  refine wpAnyH_take (i := 1) (v := ?_) rfl (by kernel_rfl) (by kernel_rfl) (by kernel_rfl) (fun _ _ _ h => h) (Or.inl ⟨by rfl, ?_⟩) hH ?_
  rotate_left
  · (intro W hSw; (try dsimp only at hSw); go_simp; try with_reducible rfl)
  try simp only [Act.put, List.setIfInBounds_toArray, List.set_cons_zero, List.set_cons_succ]
  refine wpAnyH_ready (rs := [2]) (by kernel_rfl) (by simp) ?_
  refine AllReadyH.cons rfl (fun K hK => ?_) AllReadyH.nil
  go_simp
  refine hK.out _ _ ?_ (fun hH3 => ?_)
  · exact putQa hH
  clear hK K
  try simp only [Act.put, List.setIfInBounds_toArray, List.set_cons_zero, List.set_cons_succ]
  refine wpAnyH_ready (rs := [3]) (by kernel_rfl) (by simp) ?_
  refine AllReadyH.cons rfl (fun K hK => ?_) AllReadyH.nil
  go_simp
  refine hK.out _ _ ?_ (fun hH4 => ?_)
  · exact putQb hH3
  clear hK K
  try simp only [Act.put, List.setIfInBounds_toArray, List.set_cons_zero, List.set_cons_succ]
  refine wpAnyH_done (by kernel_rfl) ?_ _
  have hB := belowQ hH4
  clear hH hH3 hH4 hS
  obtain ⟨ca0, ca1, ca2, ca3, ca4, ca5, ca6, ca7, ca8, ca9, ca10, ca11, ca12, ca13, ca14, ca15, ca16, ca17, ca18, ca19, ca20, ca21, ca22, ca23, hz, hB1⟩ := hP1
  go_wp2
  exact bodyPost_ret (v := .tuple #[.agg #[.int .i64 ka, .int .i64 na, .string ta], .agg #[.int .i64 kb, .int .i64 nb, .string tb]]) (by simp only [results, Tryz.results32]; go_simp) rfl ⟨rfl, hB⟩
set_option maxHeartbeats 2000000 in
theorem cpair_6 (ka na : Int) (ta : ByteArray) (kb nb : Int) (tb : ByteArray) (w : World) (hL : Lits w)  : Calls Tryz.prog 32 #[.agg #[.int .i64 ka, .int .i64 na, .string ta], .agg #[.int .i64 kb, .int .i64 nb, .string tb], .int .i64 2, .int .i64 2] w (VPair ka na ta kb nb tb w) := by
  have hS := ofSQ (start4 w (.int .i64 ka) (.int .i64 na) (.string ta) (.int .i64 kb) (.int .i64 nb) (.string tb) (.int .i64 0) (.int .i64 0) (.string ⟨#[]⟩) (.int .i64 0) (.int .i64 0) (.string ⟨#[]⟩) 24 24 24 24)
  go_enter Tryz.func32, Tryz.ntmps32
  go_wp2_with fail
  obtain ⟨W0, hW0⟩ : ∃ W0, ((((w.alloc (.cells #[.int .i64 ka, .int .i64 na, .string ta] 24)).alloc (.cells #[.int .i64 kb, .int .i64 nb, .string tb] 24)).alloc (.cells #[.int .i64 0, .int .i64 0, .string ⟨#[]⟩] 24)).alloc (.cells #[.int .i64 0, .int .i64 0, .string ⟨#[]⟩] 24)) = W0 := ⟨_, rfl⟩
  rw [hW0] at hS ⊢
  clear hW0
  refine wp_region_held_drew (S := (fun W => W.cell? ⟨w.heap.size, 0, none⟩ = some (.int .i64 ka) ∧ W.cell? ⟨w.heap.size, 1, none⟩ = some (.int .i64 na) ∧ W.cell? ⟨w.heap.size, 2, none⟩ = some (.string ta) ∧ W.frozen? ⟨w.heap.size, 0, none⟩ = false ∧ W.frozen? ⟨w.heap.size, 1, none⟩ = false ∧ W.frozen? ⟨w.heap.size, 2, none⟩ = false ∧ W.cell? ⟨w.heap.size + 1, 0, none⟩ = some (.int .i64 kb) ∧ W.cell? ⟨w.heap.size + 1, 1, none⟩ = some (.int .i64 nb) ∧ W.cell? ⟨w.heap.size + 1, 2, none⟩ = some (.string tb) ∧ W.frozen? ⟨w.heap.size + 1, 0, none⟩ = false ∧ W.frozen? ⟨w.heap.size + 1, 1, none⟩ = false ∧ W.frozen? ⟨w.heap.size + 1, 2, none⟩ = false ∧ W.cell? ⟨w.heap.size + 1 + 1, 0, none⟩ = some (peek W (w.heap.size + 1 + 1) 0) ∧ W.cell? ⟨w.heap.size + 1 + 1, 1, none⟩ = some (peek W (w.heap.size + 1 + 1) 1) ∧ W.cell? ⟨w.heap.size + 1 + 1, 2, none⟩ = some (peek W (w.heap.size + 1 + 1) 2) ∧ W.frozen? ⟨w.heap.size + 1 + 1, 0, none⟩ = false ∧ W.frozen? ⟨w.heap.size + 1 + 1, 1, none⟩ = false ∧ W.frozen? ⟨w.heap.size + 1 + 1, 2, none⟩ = false ∧ W.cell? ⟨w.heap.size + 1 + 1 + 1, 0, none⟩ = some (peek W (w.heap.size + 1 + 1 + 1) 0) ∧ W.cell? ⟨w.heap.size + 1 + 1 + 1, 1, none⟩ = some (peek W (w.heap.size + 1 + 1 + 1) 1) ∧ W.cell? ⟨w.heap.size + 1 + 1 + 1, 2, none⟩ = some (peek W (w.heap.size + 1 + 1 + 1) 2) ∧ W.frozen? ⟨w.heap.size + 1 + 1 + 1, 0, none⟩ = false ∧ W.frozen? ⟨w.heap.size + 1 + 1 + 1, 1, none⟩ = false ∧ W.frozen? ⟨w.heap.size + 1 + 1 + 1, 2, none⟩ = false ∧ w.heap.size + 1 + 1 + 1 < W.heap.size ∧ Below w.heap.size w W)) (by kernel_rfl) ?_ (fun hH => ?_)
  · exact keepQd hS
  obtain ⟨W1, hW1⟩ : ∃ W1, W0.drew = W1 := ⟨_, rfl⟩
  rw [hW1] at hH ⊢
  clear hW1
  have hP1 := hH
  refine wpAnyH_take (i := 0) (v := ?_) rfl (by kernel_rfl) (by kernel_rfl) (by kernel_rfl) (fun _ _ _ h => h) (Or.inl ⟨by rfl, ?_⟩) hH ?_
  rotate_left
  · (intro W hSw; (try dsimp only at hSw); go_simp; try with_reducible rfl)
  try simp only [Act.put, List.setIfInBounds_toArray, List.set_cons_zero, List.set_cons_succ]
  refine wpAnyH_take (i := 1) (v := ?_) rfl (by kernel_rfl) (by kernel_rfl) (by kernel_rfl) (fun _ _ _ h => h) (Or.inl ⟨by rfl, ?_⟩) hH ?_
  rotate_left
  · (intro W hSw; (try dsimp only at hSw); go_simp; try with_reducible rfl)
  try simp only [Act.put, List.setIfInBounds_toArray, List.set_cons_zero, List.set_cons_succ]
  refine wpAnyH_ready (rs := [2]) (by kernel_rfl) (by simp) ?_
  refine AllReadyH.cons rfl (fun K hK => ?_) AllReadyH.nil
  go_simp
  refine hK.out _ _ ?_ (fun hH3 => ?_)
  · exact putQa hH
  clear hK K
  try simp only [Act.put, List.setIfInBounds_toArray, List.set_cons_zero, List.set_cons_succ]
  refine wpAnyH_ready (rs := [3]) (by kernel_rfl) (by simp) ?_
  refine AllReadyH.cons rfl (fun K hK => ?_) AllReadyH.nil
  go_simp
  refine hK.out _ _ ?_ (fun hH4 => ?_)
  · exact putQb hH3
  clear hK K
  try simp only [Act.put, List.setIfInBounds_toArray, List.set_cons_zero, List.set_cons_succ]
  refine wpAnyH_done (by kernel_rfl) ?_ _
  have hB := belowQ hH4
  clear hH hH3 hH4 hS
  obtain ⟨ca0, ca1, ca2, ca3, ca4, ca5, ca6, ca7, ca8, ca9, ca10, ca11, ca12, ca13, ca14, ca15, ca16, ca17, ca18, ca19, ca20, ca21, ca22, ca23, hz, hB1⟩ := hP1
  go_wp2
  exact bodyPost_ret (v := .tuple #[.agg #[.int .i64 ka, .int .i64 na, .string ta], .agg #[.int .i64 kb, .int .i64 nb, .string tb]]) (by simp only [results, Tryz.results32]; go_simp) rfl ⟨rfl, hB⟩
set_option maxHeartbeats 2000000 in
theorem cpair_7 (y : Int) (ka na : Int) (ta : ByteArray) (kb nb : Int) (tb : ByteArray) (w : World) (hL : Lits w) (h0 : y ≠ 0) (h1 : y ≠ 1) (h2 : y ≠ 2) : Calls Tryz.prog 32 #[.agg #[.int .i64 ka, .int .i64 na, .string ta], .agg #[.int .i64 kb, .int .i64 nb, .string tb], .int .i64 2, .int .i64 y] w (VPair ka na ta kb nb tb w) := by
  have hS := ofSQ (start4 w (.int .i64 ka) (.int .i64 na) (.string ta) (.int .i64 kb) (.int .i64 nb) (.string tb) (.int .i64 0) (.int .i64 0) (.string ⟨#[]⟩) (.int .i64 0) (.int .i64 0) (.string ⟨#[]⟩) 24 24 24 24)
  have b0 : (y == 0) = false := by simp [h0]
  have b1 : (y == 1) = false := by simp [h1]
  have b2 : (y == 2) = false := by simp [h2]
  clear h0 h1 h2
  go_enter Tryz.func32, Tryz.ntmps32
  go_wp2_with fail
  obtain ⟨W0, hW0⟩ : ∃ W0, ((((w.alloc (.cells #[.int .i64 ka, .int .i64 na, .string ta] 24)).alloc (.cells #[.int .i64 kb, .int .i64 nb, .string tb] 24)).alloc (.cells #[.int .i64 0, .int .i64 0, .string ⟨#[]⟩] 24)).alloc (.cells #[.int .i64 0, .int .i64 0, .string ⟨#[]⟩] 24)) = W0 := ⟨_, rfl⟩
  rw [hW0] at hS ⊢
  clear hW0
  refine wp_region_held_drew (S := (fun W => W.cell? ⟨w.heap.size, 0, none⟩ = some (.int .i64 ka) ∧ W.cell? ⟨w.heap.size, 1, none⟩ = some (.int .i64 na) ∧ W.cell? ⟨w.heap.size, 2, none⟩ = some (.string ta) ∧ W.frozen? ⟨w.heap.size, 0, none⟩ = false ∧ W.frozen? ⟨w.heap.size, 1, none⟩ = false ∧ W.frozen? ⟨w.heap.size, 2, none⟩ = false ∧ W.cell? ⟨w.heap.size + 1, 0, none⟩ = some (.int .i64 kb) ∧ W.cell? ⟨w.heap.size + 1, 1, none⟩ = some (.int .i64 nb) ∧ W.cell? ⟨w.heap.size + 1, 2, none⟩ = some (.string tb) ∧ W.frozen? ⟨w.heap.size + 1, 0, none⟩ = false ∧ W.frozen? ⟨w.heap.size + 1, 1, none⟩ = false ∧ W.frozen? ⟨w.heap.size + 1, 2, none⟩ = false ∧ W.cell? ⟨w.heap.size + 1 + 1, 0, none⟩ = some (peek W (w.heap.size + 1 + 1) 0) ∧ W.cell? ⟨w.heap.size + 1 + 1, 1, none⟩ = some (peek W (w.heap.size + 1 + 1) 1) ∧ W.cell? ⟨w.heap.size + 1 + 1, 2, none⟩ = some (peek W (w.heap.size + 1 + 1) 2) ∧ W.frozen? ⟨w.heap.size + 1 + 1, 0, none⟩ = false ∧ W.frozen? ⟨w.heap.size + 1 + 1, 1, none⟩ = false ∧ W.frozen? ⟨w.heap.size + 1 + 1, 2, none⟩ = false ∧ W.cell? ⟨w.heap.size + 1 + 1 + 1, 0, none⟩ = some (peek W (w.heap.size + 1 + 1 + 1) 0) ∧ W.cell? ⟨w.heap.size + 1 + 1 + 1, 1, none⟩ = some (peek W (w.heap.size + 1 + 1 + 1) 1) ∧ W.cell? ⟨w.heap.size + 1 + 1 + 1, 2, none⟩ = some (peek W (w.heap.size + 1 + 1 + 1) 2) ∧ W.frozen? ⟨w.heap.size + 1 + 1 + 1, 0, none⟩ = false ∧ W.frozen? ⟨w.heap.size + 1 + 1 + 1, 1, none⟩ = false ∧ W.frozen? ⟨w.heap.size + 1 + 1 + 1, 2, none⟩ = false ∧ w.heap.size + 1 + 1 + 1 < W.heap.size ∧ Below w.heap.size w W)) (by kernel_rfl) ?_ (fun hH => ?_)
  · exact keepQd hS
  obtain ⟨W1, hW1⟩ : ∃ W1, W0.drew = W1 := ⟨_, rfl⟩
  rw [hW1] at hH ⊢
  clear hW1
  have hP1 := hH
  refine wpAnyH_take (i := 0) (v := ?_) rfl (by kernel_rfl) (by kernel_rfl) (by kernel_rfl) (fun _ _ _ h => h) (Or.inl ⟨by rfl, ?_⟩) hH ?_
  rotate_left
  · (intro W hSw; (try dsimp only at hSw); go_simp; try with_reducible rfl)
  try simp only [Act.put, List.setIfInBounds_toArray, List.set_cons_zero, List.set_cons_succ]
  refine wpAnyH_take (i := 1) (v := ?_) rfl (by kernel_rfl) (by kernel_rfl) (by kernel_rfl) (fun _ _ _ h => h) (Or.inl ⟨by rfl, ?_⟩) hH ?_
  rotate_left
  · (intro W hSw; (try dsimp only at hSw); go_simp; try with_reducible rfl)
  try simp only [Act.put, List.setIfInBounds_toArray, List.set_cons_zero, List.set_cons_succ]
  refine wpAnyH_ready (rs := [2]) (by kernel_rfl) (by simp) ?_
  refine AllReadyH.cons rfl (fun K hK => ?_) AllReadyH.nil
  go_simp
  refine hK.out _ _ ?_ (fun hH3 => ?_)
  · exact putQa hH
  clear hK K
  try simp only [Act.put, List.setIfInBounds_toArray, List.set_cons_zero, List.set_cons_succ]
  refine wpAnyH_ready (rs := [3]) (by kernel_rfl) (by simp) ?_
  refine AllReadyH.cons rfl (fun K hK => ?_) AllReadyH.nil
  go_simp
  refine hK.out _ _ ?_ (fun hH4 => ?_)
  · exact putQb hH3
  clear hK K
  try simp only [Act.put, List.setIfInBounds_toArray, List.set_cons_zero, List.set_cons_succ]
  refine wpAnyH_done (by kernel_rfl) ?_ _
  have hB := belowQ hH4
  clear hH hH3 hH4 hS
  obtain ⟨ca0, ca1, ca2, ca3, ca4, ca5, ca6, ca7, ca8, ca9, ca10, ca11, ca12, ca13, ca14, ca15, ca16, ca17, ca18, ca19, ca20, ca21, ca22, ca23, hz, hB1⟩ := hP1
  go_wp2
  exact bodyPost_ret (v := .tuple #[.agg #[.int .i64 ka, .int .i64 na, .string ta], .agg #[.int .i64 kb, .int .i64 nb, .string tb]]) (by simp only [results, Tryz.results32]; go_simp) rfl ⟨rfl, hB⟩
set_option maxHeartbeats 2000000 in
theorem cpair_8 (x : Int) (ka na : Int) (ta : ByteArray) (kb nb : Int) (tb : ByteArray) (w : World) (hL : Lits w) (h0 : x ≠ 0) (h1 : x ≠ 1) (h2 : x ≠ 2) : Calls Tryz.prog 32 #[.agg #[.int .i64 ka, .int .i64 na, .string ta], .agg #[.int .i64 kb, .int .i64 nb, .string tb], .int .i64 x, .int .i64 2] w (VPair ka na ta kb nb tb w) := by
  have hS := ofSQ (start4 w (.int .i64 ka) (.int .i64 na) (.string ta) (.int .i64 kb) (.int .i64 nb) (.string tb) (.int .i64 0) (.int .i64 0) (.string ⟨#[]⟩) (.int .i64 0) (.int .i64 0) (.string ⟨#[]⟩) 24 24 24 24)
  have b0 : (x == 0) = false := by simp [h0]
  have b1 : (x == 1) = false := by simp [h1]
  have b2 : (x == 2) = false := by simp [h2]
  clear h0 h1 h2
  go_enter Tryz.func32, Tryz.ntmps32
  go_wp2_with fail
  obtain ⟨W0, hW0⟩ : ∃ W0, ((((w.alloc (.cells #[.int .i64 ka, .int .i64 na, .string ta] 24)).alloc (.cells #[.int .i64 kb, .int .i64 nb, .string tb] 24)).alloc (.cells #[.int .i64 0, .int .i64 0, .string ⟨#[]⟩] 24)).alloc (.cells #[.int .i64 0, .int .i64 0, .string ⟨#[]⟩] 24)) = W0 := ⟨_, rfl⟩
  rw [hW0] at hS ⊢
  clear hW0
  refine wp_region_held_drew (S := (fun W => W.cell? ⟨w.heap.size, 0, none⟩ = some (.int .i64 ka) ∧ W.cell? ⟨w.heap.size, 1, none⟩ = some (.int .i64 na) ∧ W.cell? ⟨w.heap.size, 2, none⟩ = some (.string ta) ∧ W.frozen? ⟨w.heap.size, 0, none⟩ = false ∧ W.frozen? ⟨w.heap.size, 1, none⟩ = false ∧ W.frozen? ⟨w.heap.size, 2, none⟩ = false ∧ W.cell? ⟨w.heap.size + 1, 0, none⟩ = some (.int .i64 kb) ∧ W.cell? ⟨w.heap.size + 1, 1, none⟩ = some (.int .i64 nb) ∧ W.cell? ⟨w.heap.size + 1, 2, none⟩ = some (.string tb) ∧ W.frozen? ⟨w.heap.size + 1, 0, none⟩ = false ∧ W.frozen? ⟨w.heap.size + 1, 1, none⟩ = false ∧ W.frozen? ⟨w.heap.size + 1, 2, none⟩ = false ∧ W.cell? ⟨w.heap.size + 1 + 1, 0, none⟩ = some (peek W (w.heap.size + 1 + 1) 0) ∧ W.cell? ⟨w.heap.size + 1 + 1, 1, none⟩ = some (peek W (w.heap.size + 1 + 1) 1) ∧ W.cell? ⟨w.heap.size + 1 + 1, 2, none⟩ = some (peek W (w.heap.size + 1 + 1) 2) ∧ W.frozen? ⟨w.heap.size + 1 + 1, 0, none⟩ = false ∧ W.frozen? ⟨w.heap.size + 1 + 1, 1, none⟩ = false ∧ W.frozen? ⟨w.heap.size + 1 + 1, 2, none⟩ = false ∧ W.cell? ⟨w.heap.size + 1 + 1 + 1, 0, none⟩ = some (peek W (w.heap.size + 1 + 1 + 1) 0) ∧ W.cell? ⟨w.heap.size + 1 + 1 + 1, 1, none⟩ = some (peek W (w.heap.size + 1 + 1 + 1) 1) ∧ W.cell? ⟨w.heap.size + 1 + 1 + 1, 2, none⟩ = some (peek W (w.heap.size + 1 + 1 + 1) 2) ∧ W.frozen? ⟨w.heap.size + 1 + 1 + 1, 0, none⟩ = false ∧ W.frozen? ⟨w.heap.size + 1 + 1 + 1, 1, none⟩ = false ∧ W.frozen? ⟨w.heap.size + 1 + 1 + 1, 2, none⟩ = false ∧ w.heap.size + 1 + 1 + 1 < W.heap.size ∧ Below w.heap.size w W)) (by kernel_rfl) ?_ (fun hH => ?_)
  · exact keepQd hS
  obtain ⟨W1, hW1⟩ : ∃ W1, W0.drew = W1 := ⟨_, rfl⟩
  rw [hW1] at hH ⊢
  clear hW1
  have hP1 := hH
  refine wpAnyH_take (i := 0) (v := ?_) rfl (by kernel_rfl) (by kernel_rfl) (by kernel_rfl) (fun _ _ _ h => h) (Or.inl ⟨by rfl, ?_⟩) hH ?_
  rotate_left
  · (intro W hSw; (try dsimp only at hSw); go_simp; try with_reducible rfl)
  try simp only [Act.put, List.setIfInBounds_toArray, List.set_cons_zero, List.set_cons_succ]
  refine wpAnyH_take (i := 1) (v := ?_) rfl (by kernel_rfl) (by kernel_rfl) (by kernel_rfl) (fun _ _ _ h => h) (Or.inl ⟨by rfl, ?_⟩) hH ?_
  rotate_left
  · (intro W hSw; (try dsimp only at hSw); go_simp; try with_reducible rfl)
  try simp only [Act.put, List.setIfInBounds_toArray, List.set_cons_zero, List.set_cons_succ]
  refine wpAnyH_ready (rs := [2]) (by kernel_rfl) (by simp) ?_
  refine AllReadyH.cons rfl (fun K hK => ?_) AllReadyH.nil
  go_simp
  refine hK.out _ _ ?_ (fun hH3 => ?_)
  · exact putQa hH
  clear hK K
  try simp only [Act.put, List.setIfInBounds_toArray, List.set_cons_zero, List.set_cons_succ]
  refine wpAnyH_ready (rs := [3]) (by kernel_rfl) (by simp) ?_
  refine AllReadyH.cons rfl (fun K hK => ?_) AllReadyH.nil
  go_simp
  refine hK.out _ _ ?_ (fun hH4 => ?_)
  · exact putQb hH3
  clear hK K
  try simp only [Act.put, List.setIfInBounds_toArray, List.set_cons_zero, List.set_cons_succ]
  refine wpAnyH_done (by kernel_rfl) ?_ _
  have hB := belowQ hH4
  clear hH hH3 hH4 hS
  obtain ⟨ca0, ca1, ca2, ca3, ca4, ca5, ca6, ca7, ca8, ca9, ca10, ca11, ca12, ca13, ca14, ca15, ca16, ca17, ca18, ca19, ca20, ca21, ca22, ca23, hz, hB1⟩ := hP1
  go_wp2
  exact bodyPost_ret (v := .tuple #[.agg #[.int .i64 ka, .int .i64 na, .string ta], .agg #[.int .i64 kb, .int .i64 nb, .string tb]]) (by simp only [results, Tryz.results32]; go_simp) rfl ⟨rfl, hB⟩
set_option maxHeartbeats 2000000 in
theorem cpair_9 (x y : Int) (ka na : Int) (ta : ByteArray) (kb nb : Int) (tb : ByteArray) (w : World) (hL : Lits w) (h1 : x ≠ 1) (h2 : x ≠ 2) (h3 : y ≠ 1) (h4 : y ≠ 2) : Calls Tryz.prog 32 #[.agg #[.int .i64 ka, .int .i64 na, .string ta], .agg #[.int .i64 kb, .int .i64 nb, .string tb], .int .i64 x, .int .i64 y] w (VPair ka na ta kb nb tb w) := by
  have hS := ofSQ (start4 w (.int .i64 ka) (.int .i64 na) (.string ta) (.int .i64 kb) (.int .i64 nb) (.string tb) (.int .i64 0) (.int .i64 0) (.string ⟨#[]⟩) (.int .i64 0) (.int .i64 0) (.string ⟨#[]⟩) 24 24 24 24)
  have b1 : (x == 1) = false := by simp [h1]
  have b2 : (x == 2) = false := by simp [h2]
  have b3 : (y == 1) = false := by simp [h3]
  have b4 : (y == 2) = false := by simp [h4]
  clear h1 h2 h3 h4
  go_enter Tryz.func32, Tryz.ntmps32
  go_wp2_with fail
  obtain ⟨W0, hW0⟩ : ∃ W0, ((((w.alloc (.cells #[.int .i64 ka, .int .i64 na, .string ta] 24)).alloc (.cells #[.int .i64 kb, .int .i64 nb, .string tb] 24)).alloc (.cells #[.int .i64 0, .int .i64 0, .string ⟨#[]⟩] 24)).alloc (.cells #[.int .i64 0, .int .i64 0, .string ⟨#[]⟩] 24)) = W0 := ⟨_, rfl⟩
  rw [hW0] at hS ⊢
  clear hW0
  refine wp_region_held_drew (S := (fun W => W.cell? ⟨w.heap.size, 0, none⟩ = some (.int .i64 ka) ∧ W.cell? ⟨w.heap.size, 1, none⟩ = some (.int .i64 na) ∧ W.cell? ⟨w.heap.size, 2, none⟩ = some (.string ta) ∧ W.frozen? ⟨w.heap.size, 0, none⟩ = false ∧ W.frozen? ⟨w.heap.size, 1, none⟩ = false ∧ W.frozen? ⟨w.heap.size, 2, none⟩ = false ∧ W.cell? ⟨w.heap.size + 1, 0, none⟩ = some (.int .i64 kb) ∧ W.cell? ⟨w.heap.size + 1, 1, none⟩ = some (.int .i64 nb) ∧ W.cell? ⟨w.heap.size + 1, 2, none⟩ = some (.string tb) ∧ W.frozen? ⟨w.heap.size + 1, 0, none⟩ = false ∧ W.frozen? ⟨w.heap.size + 1, 1, none⟩ = false ∧ W.frozen? ⟨w.heap.size + 1, 2, none⟩ = false ∧ W.cell? ⟨w.heap.size + 1 + 1, 0, none⟩ = some (peek W (w.heap.size + 1 + 1) 0) ∧ W.cell? ⟨w.heap.size + 1 + 1, 1, none⟩ = some (peek W (w.heap.size + 1 + 1) 1) ∧ W.cell? ⟨w.heap.size + 1 + 1, 2, none⟩ = some (peek W (w.heap.size + 1 + 1) 2) ∧ W.frozen? ⟨w.heap.size + 1 + 1, 0, none⟩ = false ∧ W.frozen? ⟨w.heap.size + 1 + 1, 1, none⟩ = false ∧ W.frozen? ⟨w.heap.size + 1 + 1, 2, none⟩ = false ∧ W.cell? ⟨w.heap.size + 1 + 1 + 1, 0, none⟩ = some (peek W (w.heap.size + 1 + 1 + 1) 0) ∧ W.cell? ⟨w.heap.size + 1 + 1 + 1, 1, none⟩ = some (peek W (w.heap.size + 1 + 1 + 1) 1) ∧ W.cell? ⟨w.heap.size + 1 + 1 + 1, 2, none⟩ = some (peek W (w.heap.size + 1 + 1 + 1) 2) ∧ W.frozen? ⟨w.heap.size + 1 + 1 + 1, 0, none⟩ = false ∧ W.frozen? ⟨w.heap.size + 1 + 1 + 1, 1, none⟩ = false ∧ W.frozen? ⟨w.heap.size + 1 + 1 + 1, 2, none⟩ = false ∧ w.heap.size + 1 + 1 + 1 < W.heap.size ∧ Below w.heap.size w W)) (by kernel_rfl) ?_ (fun hH => ?_)
  · exact keepQd hS
  obtain ⟨W1, hW1⟩ : ∃ W1, W0.drew = W1 := ⟨_, rfl⟩
  rw [hW1] at hH ⊢
  clear hW1
  have hP1 := hH
  refine wpAnyH_take (i := 0) (v := ?_) rfl (by kernel_rfl) (by kernel_rfl) (by kernel_rfl) (fun _ _ _ h => h) (Or.inl ⟨by rfl, ?_⟩) hH ?_
  rotate_left
  · (intro W hSw; (try dsimp only at hSw); go_simp; try with_reducible rfl)
  try simp only [Act.put, List.setIfInBounds_toArray, List.set_cons_zero, List.set_cons_succ]
  refine wpAnyH_take (i := 1) (v := ?_) rfl (by kernel_rfl) (by kernel_rfl) (by kernel_rfl) (fun _ _ _ h => h) (Or.inl ⟨by rfl, ?_⟩) hH ?_
  rotate_left
  · (intro W hSw; (try dsimp only at hSw); go_simp; try with_reducible rfl)
  try simp only [Act.put, List.setIfInBounds_toArray, List.set_cons_zero, List.set_cons_succ]
  refine wpAnyH_ready (rs := [2]) (by kernel_rfl) (by simp) ?_
  refine AllReadyH.cons rfl (fun K hK => ?_) AllReadyH.nil
  go_simp
  refine hK.out _ _ ?_ (fun hH3 => ?_)
  · exact putQa hH
  clear hK K
  try simp only [Act.put, List.setIfInBounds_toArray, List.set_cons_zero, List.set_cons_succ]
  refine wpAnyH_ready (rs := [3]) (by kernel_rfl) (by simp) ?_
  refine AllReadyH.cons rfl (fun K hK => ?_) AllReadyH.nil
  go_simp
  refine hK.out _ _ ?_ (fun hH4 => ?_)
  · exact putQb hH3
  clear hK K
  try simp only [Act.put, List.setIfInBounds_toArray, List.set_cons_zero, List.set_cons_succ]
  refine wpAnyH_done (by kernel_rfl) ?_ _
  have hB := belowQ hH4
  clear hH hH3 hH4 hS
  obtain ⟨ca0, ca1, ca2, ca3, ca4, ca5, ca6, ca7, ca8, ca9, ca10, ca11, ca12, ca13, ca14, ca15, ca16, ca17, ca18, ca19, ca20, ca21, ca22, ca23, hz, hB1⟩ := hP1
  go_wp2
  exact bodyPost_ret (v := .tuple #[.agg #[.int .i64 ka, .int .i64 na, .string ta], .agg #[.int .i64 kb, .int .i64 nb, .string tb]]) (by simp only [results, Tryz.results32]; go_simp) rfl ⟨rfl, hB⟩
/-- WHAT calc.Pair ANSWERS -/
theorem cpair_is (x y : Int) (ka na : Int) (ta : ByteArray) (kb nb : Int) (tb : ByteArray) (w : World) (hL : Lits w) (ha : Val.inr na) (hb : Val.inr nb) (k1 n1 : Int) (t1 : ByteArray) (k2 n2 : Int) (t2 : ByteArray) (hv : Hid (Val.pair ⟨ka, na, ta.data.toList⟩ ⟨kb, nb, tb.data.toList⟩ x y = (⟨k1, n1, t1.data.toList⟩, ⟨k2, n2, t2.data.toList⟩))) : Calls Tryz.prog 32 #[.agg #[.int .i64 ka, .int .i64 na, .string ta], .agg #[.int .i64 kb, .int .i64 nb, .string tb], .int .i64 x, .int .i64 y] w (VPair k1 n1 t1 k2 n2 t2 w) := by
  have hv' := hv.out
  rw [Val.pair] at hv'
  have self : ∀ {k n k2 n2 : Int} {t t2 : ByteArray}, (⟨k, n, t.data.toList⟩ : Val.V) = ⟨k2, n2, t2.data.toList⟩ → k2 = k ∧ n2 = n ∧ t2 = t := by
    intro k n k2 n2 t t2 h
    simp only [Val.V.mk.injEq] at h
    exact ⟨h.1.symm, h.2.1.symm, (bytes_inj' h.2.2).symm⟩
  by_cases c1 : x = 1 ∧ y ≠ 1
  · obtain ⟨rfl, hy⟩ := c1
    rw [if_pos ⟨rfl, hy⟩, Prod.mk.injEq] at hv'
    obtain ⟨e1, e2⟩ := hv'
    obtain ⟨rfl, rfl, rfl⟩ := self e1
    exact cpair_1 y _ _ _ _ _ _ w hL hy hb _ _ _ (Lib.hid e2)
  · rw [if_neg c1] at hv'
    by_cases c2 : y = 1 ∧ x ≠ 1
    · obtain ⟨rfl, hx⟩ := c2
      rw [if_pos ⟨rfl, hx⟩, Prod.mk.injEq] at hv'
      obtain ⟨e1, e2⟩ := hv'
      obtain ⟨rfl, rfl, rfl⟩ := self e2
      exact cpair_2 x _ _ _ _ _ _ w hL hx ha _ _ _ (Lib.hid e1)
    · rw [if_neg c2] at hv'
      by_cases c3 : x = 2 ∧ y = 0
      · obtain ⟨rfl, rfl⟩ := c3
        rw [if_pos ⟨rfl, rfl⟩, Prod.mk.injEq] at hv'
        obtain ⟨e1, e2⟩ := hv'
        obtain ⟨rfl, rfl, rfl⟩ := self e1
        exact cpair_3 _ _ _ _ _ _ w hL hb _ _ _ (Lib.hid e2)
      · rw [if_neg c3] at hv'
        by_cases c4 : y = 2 ∧ x = 0
        · obtain ⟨rfl, rfl⟩ := c4
          rw [if_pos ⟨rfl, rfl⟩, Prod.mk.injEq] at hv'
          obtain ⟨e1, e2⟩ := hv'
          obtain ⟨rfl, rfl, rfl⟩ := self e2
          exact cpair_4 _ _ _ _ _ _ w hL ha _ _ _ (Lib.hid e1)
        · rw [if_neg c4, Prod.mk.injEq] at hv'
          obtain ⟨e1, e2⟩ := hv'
          obtain ⟨rfl, rfl, rfl⟩ := self e1
          obtain ⟨rfl, rfl, rfl⟩ := self e2
          by_cases x1 : x = 1
          · have y1 : y = 1 := by omega
            subst x1 y1
            exact cpair_5 _ _ _ _ _ _ w hL
          · have y1 : y ≠ 1 := by omega
            by_cases x2 : x = 2
            · subst x2
              by_cases y2 : y = 2
              · subst y2
                exact cpair_6 _ _ _ _ _ _ w hL
              · exact cpair_7 y _ _ _ _ _ _ w hL (by omega) y1 y2
            · by_cases y2 : y = 2
              · subst y2
                exact cpair_8 x _ _ _ _ _ _ w hL (by omega) x1 x2
              · exact cpair_9 x y _ _ _ _ _ _ w hL x1 x2 y1 y2
set_option maxHeartbeats 2000000 in
theorem rpair_1 (y : Int) (ka na : Int) (ta : ByteArray) (kb nb : Int) (tb : ByteArray) (w : World) (hL : Lits w) (h : y ≠ 1) (hn : Val.inr nb) (k2 n2 : Int) (t2 : ByteArray) (hv : Hid (Val.apply 1 ⟨kb, nb, tb.data.toList⟩ = ⟨k2, n2, t2.data.toList⟩)) : Calls Tryz.prog 33 #[.agg #[.int .i64 ka, .int .i64 na, .string ta], .agg #[.int .i64 kb, .int .i64 nb, .string tb], .int .i64 1, .int .i64 y] w (VPair ka na ta k2 n2 t2 w) := by
  have hS := ofSQ (start4 w (.int .i64 ka) (.int .i64 na) (.string ta) (.int .i64 kb) (.int .i64 nb) (.string tb) (.int .i64 0) (.int .i64 0) (.string ⟨#[]⟩) (.int .i64 0) (.int .i64 0) (.string ⟨#[]⟩) 24 24 24 24)
  have b1 : (y != 1) = true := by simp [h]
  replace hn := Lib.hid hn
  clear h
  go_enter Tryz.func33, Tryz.ntmps33
  go_wp2_with fail
  refine wp_region_held_drew (S := (fun W => W.cell? ⟨w.heap.size, 0, none⟩ = some (.int .i64 ka) ∧ W.cell? ⟨w.heap.size, 1, none⟩ = some (.int .i64 na) ∧ W.cell? ⟨w.heap.size, 2, none⟩ = some (.string ta) ∧ W.frozen? ⟨w.heap.size, 0, none⟩ = false ∧ W.frozen? ⟨w.heap.size, 1, none⟩ = false ∧ W.frozen? ⟨w.heap.size, 2, none⟩ = false ∧ W.cell? ⟨w.heap.size + 1, 0, none⟩ = some (.int .i64 kb) ∧ W.cell? ⟨w.heap.size + 1, 1, none⟩ = some (.int .i64 nb) ∧ W.cell? ⟨w.heap.size + 1, 2, none⟩ = some (.string tb) ∧ W.frozen? ⟨w.heap.size + 1, 0, none⟩ = false ∧ W.frozen? ⟨w.heap.size + 1, 1, none⟩ = false ∧ W.frozen? ⟨w.heap.size + 1, 2, none⟩ = false ∧ W.cell? ⟨w.heap.size + 1 + 1, 0, none⟩ = some (peek W (w.heap.size + 1 + 1) 0) ∧ W.cell? ⟨w.heap.size + 1 + 1, 1, none⟩ = some (peek W (w.heap.size + 1 + 1) 1) ∧ W.cell? ⟨w.heap.size + 1 + 1, 2, none⟩ = some (peek W (w.heap.size + 1 + 1) 2) ∧ W.frozen? ⟨w.heap.size + 1 + 1, 0, none⟩ = false ∧ W.frozen? ⟨w.heap.size + 1 + 1, 1, none⟩ = false ∧ W.frozen? ⟨w.heap.size + 1 + 1, 2, none⟩ = false ∧ W.cell? ⟨w.heap.size + 1 + 1 + 1, 0, none⟩ = some (peek W (w.heap.size + 1 + 1 + 1) 0) ∧ W.cell? ⟨w.heap.size + 1 + 1 + 1, 1, none⟩ = some (peek W (w.heap.size + 1 + 1 + 1) 1) ∧ W.cell? ⟨w.heap.size + 1 + 1 + 1, 2, none⟩ = some (peek W (w.heap.size + 1 + 1 + 1) 2) ∧ W.frozen? ⟨w.heap.size + 1 + 1 + 1, 0, none⟩ = false ∧ W.frozen? ⟨w.heap.size + 1 + 1 + 1, 1, none⟩ = false ∧ W.frozen? ⟨w.heap.size + 1 + 1 + 1, 2, none⟩ = false ∧ w.heap.size + 1 + 1 + 1 < W.heap.size ∧ Below w.heap.size w W)) (by kernel_rfl) ?_ (fun hH => ?_)
  · exact keepQd hS
  refine wpAnyH_take (i := 0) (v := ?_) rfl (by kernel_rfl) (by kernel_rfl) (by kernel_rfl) (fun _ _ _ h => h) (Or.inl ⟨by rfl, ?_⟩) hH ?_
  rotate_left
  · (intro W hSw; (try dsimp only at hSw); go_simp; try with_reducible rfl)
  try simp only [Act.put, List.setIfInBounds_toArray, List.set_cons_zero, List.set_cons_succ]
  refine wpAnyH_take (i := 1) (v := ?_) rfl (by kernel_rfl) (by kernel_rfl) (by kernel_rfl) (fun _ _ _ h => h) (Or.inl ⟨by rfl, ?_⟩) hH ?_
  rotate_left
  · (intro W hSw; (try dsimp only at hSw); go_simp; try with_reducible rfl)
  try simp only [Act.put, List.setIfInBounds_toArray, List.set_cons_zero, List.set_cons_succ]
  refine wpAnyH_ready (rs := [2]) (by kernel_rfl) (by simp) ?_
  refine AllReadyH.cons rfl (fun K hK => ?_) AllReadyH.nil
  go_simp
  go_at_call 35; refine (rapply_is _ _ _ _ _ (hL.below (belowQ hH)) hn.out _ _ _ hv).mono ?_; rintro e w1 ⟨rfl, hb1⟩
  refine hK.out _ _ ?_ (fun hH2 => ?_)
  · exact keepQ hH hb1
  clear hK K
  try simp only [Act.put, List.setIfInBounds_toArray, List.set_cons_zero, List.set_cons_succ]
  have hP1 := keepQ (w := w) hH hb1
  refine wpAnyH_ready (rs := [3]) (by kernel_rfl) (by simp) ?_
  refine AllReadyH.cons rfl (fun K hK => ?_) AllReadyH.nil
  go_simp
  refine hK.out _ _ ?_ (fun hH3 => ?_)
  · exact putQa hH2
  clear hK K
  try simp only [Act.put, List.setIfInBounds_toArray, List.set_cons_zero, List.set_cons_succ]
  refine wpAnyH_ready (rs := [4]) (by kernel_rfl) (by simp) ?_
  refine AllReadyH.cons rfl (fun K hK => ?_) AllReadyH.nil
  go_simp
  refine hK.out _ _ ?_ (fun hH4 => ?_)
  · exact putQb hH3
  clear hK K
  try simp only [Act.put, List.setIfInBounds_toArray, List.set_cons_zero, List.set_cons_succ]
  refine wpAnyH_done (by kernel_rfl) ?_ _
  have hB := belowQ hH4
  clear hH hH2 hH3 hH4 hS
  obtain ⟨ca0, ca1, ca2, ca3, ca4, ca5, ca6, ca7, ca8, ca9, ca10, ca11, ca12, ca13, ca14, ca15, ca16, ca17, ca18, ca19, ca20, ca21, ca22, ca23, hz, hB1⟩ := hP1
  go_wp2
  exact bodyPost_ret (v := .tuple #[.agg #[.int .i64 ka, .int .i64 na, .string ta], .agg #[.int .i64 k2, .int .i64 n2, .string t2]]) (by simp only [results, Tryz.results33]; go_simp) rfl ⟨rfl, hB⟩
set_option maxHeartbeats 2000000 in
theorem rpair_2 (x : Int) (ka na : Int) (ta : ByteArray) (kb nb : Int) (tb : ByteArray) (w : World) (hL : Lits w) (h : x ≠ 1) (hn : Val.inr na) (k2 n2 : Int) (t2 : ByteArray) (hv : Hid (Val.apply 1 ⟨ka, na, ta.data.toList⟩ = ⟨k2, n2, t2.data.toList⟩)) : Calls Tryz.prog 33 #[.agg #[.int .i64 ka, .int .i64 na, .string ta], .agg #[.int .i64 kb, .int .i64 nb, .string tb], .int .i64 x, .int .i64 1] w (VPair k2 n2 t2 kb nb tb w) := by
  have hS := ofSQ (start4 w (.int .i64 ka) (.int .i64 na) (.string ta) (.int .i64 kb) (.int .i64 nb) (.string tb) (.int .i64 0) (.int .i64 0) (.string ⟨#[]⟩) (.int .i64 0) (.int .i64 0) (.string ⟨#[]⟩) 24 24 24 24)
  have b1 : (x == 1) = false := by simp [h]
  have b2 : (x != 1) = true := by simp [h]
  replace hn := Lib.hid hn
  clear h
  go_enter Tryz.func33, Tryz.ntmps33
  go_wp2_with fail
  refine wp_region_held_drew (S := (fun W => W.cell? ⟨w.heap.size, 0, none⟩ = some (.int .i64 ka) ∧ W.cell? ⟨w.heap.size, 1, none⟩ = some (.int .i64 na) ∧ W.cell? ⟨w.heap.size, 2, none⟩ = some (.string ta) ∧ W.frozen? ⟨w.heap.size, 0, none⟩ = false ∧ W.frozen? ⟨w.heap.size, 1, none⟩ = false ∧ W.frozen? ⟨w.heap.size, 2, none⟩ = false ∧ W.cell? ⟨w.heap.size + 1, 0, none⟩ = some (.int .i64 kb) ∧ W.cell? ⟨w.heap.size + 1, 1, none⟩ = some (.int .i64 nb) ∧ W.cell? ⟨w.heap.size + 1, 2, none⟩ = some (.string tb) ∧ W.frozen? ⟨w.heap.size + 1, 0, none⟩ = false ∧ W.frozen? ⟨w.heap.size + 1, 1, none⟩ = false ∧ W.frozen? ⟨w.heap.size + 1, 2, none⟩ = false ∧ W.cell? ⟨w.heap.size + 1 + 1, 0, none⟩ = some (peek W (w.heap.size + 1 + 1) 0) ∧ W.cell? ⟨w.heap.size + 1 + 1, 1, none⟩ = some (peek W (w.heap.size + 1 + 1) 1) ∧ W.cell? ⟨w.heap.size + 1 + 1, 2, none⟩ = some (peek W (w.heap.size + 1 + 1) 2) ∧ W.frozen? ⟨w.heap.size + 1 + 1, 0, none⟩ = false ∧ W.frozen? ⟨w.heap.size + 1 + 1, 1, none⟩ = false ∧ W.frozen? ⟨w.heap.size + 1 + 1, 2, none⟩ = false ∧ W.cell? ⟨w.heap.size + 1 + 1 + 1, 0, none⟩ = some (peek W (w.heap.size + 1 + 1 + 1) 0) ∧ W.cell? ⟨w.heap.size + 1 + 1 + 1, 1, none⟩ = some (peek W (w.heap.size + 1 + 1 + 1) 1) ∧ W.cell? ⟨w.heap.size + 1 + 1 + 1, 2, none⟩ = some (peek W (w.heap.size + 1 + 1 + 1) 2) ∧ W.frozen? ⟨w.heap.size + 1 + 1 + 1, 0, none⟩ = false ∧ W.frozen? ⟨w.heap.size + 1 + 1 + 1, 1, none⟩ = false ∧ W.frozen? ⟨w.heap.size + 1 + 1 + 1, 2, none⟩ = false ∧ w.heap.size + 1 + 1 + 1 < W.heap.size ∧ Below w.heap.size w W)) (by kernel_rfl) ?_ (fun hH => ?_)
  · exact keepQd hS
  refine wpAnyH_take (i := 0) (v := ?_) rfl (by kernel_rfl) (by kernel_rfl) (by kernel_rfl) (fun _ _ _ h => h) (Or.inl ⟨by rfl, ?_⟩) hH ?_
  rotate_left
  · (intro W hSw; (try dsimp only at hSw); go_simp; try with_reducible rfl)
  try simp only [Act.put, List.setIfInBounds_toArray, List.set_cons_zero, List.set_cons_succ]
  refine wpAnyH_take (i := 2) (v := ?_) rfl (by kernel_rfl) (by kernel_rfl) (by kernel_rfl) (fun _ _ _ h => h) (Or.inl ⟨by rfl, ?_⟩) hH ?_
  rotate_left
  · (intro W hSw; (try dsimp only at hSw); go_simp; try with_reducible rfl)
  try simp only [Act.put, List.setIfInBounds_toArray, List.set_cons_zero, List.set_cons_succ]
  refine wpAnyH_ready (rs := [1]) (by kernel_rfl) (by simp) ?_
  refine AllReadyH.cons rfl (fun K hK => ?_) AllReadyH.nil
  go_simp
  go_at_call 35; refine (rapply_is _ _ _ _ _ (hL.below (belowQ hH)) hn.out _ _ _ hv).mono ?_; rintro e w1 ⟨rfl, hb1⟩
  refine hK.out _ _ ?_ (fun hH2 => ?_)
  · exact keepQ hH hb1
  clear hK K
  try simp only [Act.put, List.setIfInBounds_toArray, List.set_cons_zero, List.set_cons_succ]
  have hP1 := keepQ (w := w) hH hb1
  refine wpAnyH_ready (rs := [3]) (by kernel_rfl) (by simp) ?_
  refine AllReadyH.cons rfl (fun K hK => ?_) AllReadyH.nil
  go_simp
  refine hK.out _ _ ?_ (fun hH3 => ?_)
  · exact putQa hH2
  clear hK K
  try simp only [Act.put, List.setIfInBounds_toArray, List.set_cons_zero, List.set_cons_succ]
  refine wpAnyH_ready (rs := [4]) (by kernel_rfl) (by simp) ?_
  refine AllReadyH.cons rfl (fun K hK => ?_) AllReadyH.nil
  go_simp
  refine hK.out _ _ ?_ (fun hH4 => ?_)
  · exact putQb hH3
  clear hK K
  try simp only [Act.put, List.setIfInBounds_toArray, List.set_cons_zero, List.set_cons_succ]
  refine wpAnyH_done (by kernel_rfl) ?_ _
  have hB := belowQ hH4
  clear hH hH2 hH3 hH4 hS
  obtain ⟨ca0, ca1, ca2, ca3, ca4, ca5, ca6, ca7, ca8, ca9, ca10, ca11, ca12, ca13, ca14, ca15, ca16, ca17, ca18, ca19, ca20, ca21, ca22, ca23, hz, hB1⟩ := hP1
  go_wp2
  exact bodyPost_ret (v := .tuple #[.agg #[.int .i64 k2, .int .i64 n2, .string t2], .agg #[.int .i64 kb, .int .i64 nb, .string tb]]) (by simp only [results, Tryz.results33]; go_simp) rfl ⟨rfl, hB⟩
set_option maxHeartbeats 2000000 in
theorem rpair_3 (ka na : Int) (ta : ByteArray) (kb nb : Int) (tb : ByteArray) (w : World) (hL : Lits w)  (hn : Val.inr nb) (k2 n2 : Int) (t2 : ByteArray) (hv : Hid (Val.apply 2 ⟨kb, nb, tb.data.toList⟩ = ⟨k2, n2, t2.data.toList⟩)) : Calls Tryz.prog 33 #[.agg #[.int .i64 ka, .int .i64 na, .string ta], .agg #[.int .i64 kb, .int .i64 nb, .string tb], .int .i64 2, .int .i64 0] w (VPair ka na ta k2 n2 t2 w) := by
  have hS := ofSQ (start4 w (.int .i64 ka) (.int .i64 na) (.string ta) (.int .i64 kb) (.int .i64 nb) (.string tb) (.int .i64 0) (.int .i64 0) (.string ⟨#[]⟩) (.int .i64 0) (.int .i64 0) (.string ⟨#[]⟩) 24 24 24 24)
  replace hn := Lib.hid hn
  go_enter Tryz.func33, Tryz.ntmps33
  go_wp2_with fail
  refine wp_region_held_drew (S := (fun W => W.cell? ⟨w.heap.size, 0, none⟩ = some (.int .i64 ka) ∧ W.cell? ⟨w.heap.size, 1, none⟩ = some (.int .i64 na) ∧ W.cell? ⟨w.heap.size, 2, none⟩ = some (.string ta) ∧ W.frozen? ⟨w.heap.size, 0, none⟩ = false ∧ W.frozen? ⟨w.heap.size, 1, none⟩ = false ∧ W.frozen? ⟨w.heap.size, 2, none⟩ = false ∧ W.cell? ⟨w.heap.size + 1, 0, none⟩ = some (.int .i64 kb) ∧ W.cell? ⟨w.heap.size + 1, 1, none⟩ = some (.int .i64 nb) ∧ W.cell? ⟨w.heap.size + 1, 2, none⟩ = some (.string tb) ∧ W.frozen? ⟨w.heap.size + 1, 0, none⟩ = false ∧ W.frozen? ⟨w.heap.size + 1, 1, none⟩ = false ∧ W.frozen? ⟨w.heap.size + 1, 2, none⟩ = false ∧ W.cell? ⟨w.heap.size + 1 + 1, 0, none⟩ = some (peek W (w.heap.size + 1 + 1) 0) ∧ W.cell? ⟨w.heap.size + 1 + 1, 1, none⟩ = some (peek W (w.heap.size + 1 + 1) 1) ∧ W.cell? ⟨w.heap.size + 1 + 1, 2, none⟩ = some (peek W (w.heap.size + 1 + 1) 2) ∧ W.frozen? ⟨w.heap.size + 1 + 1, 0, none⟩ = false ∧ W.frozen? ⟨w.heap.size + 1 + 1, 1, none⟩ = false ∧ W.frozen? ⟨w.heap.size + 1 + 1, 2, none⟩ = false ∧ W.cell? ⟨w.heap.size + 1 + 1 + 1, 0, none⟩ = some (peek W (w.heap.size + 1 + 1 + 1) 0) ∧ W.cell? ⟨w.heap.size + 1 + 1 + 1, 1, none⟩ = some (peek W (w.heap.size + 1 + 1 + 1) 1) ∧ W.cell? ⟨w.heap.size + 1 + 1 + 1, 2, none⟩ = some (peek W (w.heap.size + 1 + 1 + 1) 2) ∧ W.frozen? ⟨w.heap.size + 1 + 1 + 1, 0, none⟩ = false ∧ W.frozen? ⟨w.heap.size + 1 + 1 + 1, 1, none⟩ = false ∧ W.frozen? ⟨w.heap.size + 1 + 1 + 1, 2, none⟩ = false ∧ w.heap.size + 1 + 1 + 1 < W.heap.size ∧ Below w.heap.size w W)) (by kernel_rfl) ?_ (fun hH => ?_)
  · exact keepQd hS
  refine wpAnyH_take (i := 0) (v := ?_) rfl (by kernel_rfl) (by kernel_rfl) (by kernel_rfl) (fun _ _ _ h => h) (Or.inl ⟨by rfl, ?_⟩) hH ?_
  rotate_left
  · (intro W hSw; (try dsimp only at hSw); go_simp; try with_reducible rfl)
  try simp only [Act.put, List.setIfInBounds_toArray, List.set_cons_zero, List.set_cons_succ]
  refine wpAnyH_take (i := 1) (v := ?_) rfl (by kernel_rfl) (by kernel_rfl) (by kernel_rfl) (fun _ _ _ h => h) (Or.inl ⟨by rfl, ?_⟩) hH ?_
  rotate_left
  · (intro W hSw; (try dsimp only at hSw); go_simp; try with_reducible rfl)
  try simp only [Act.put, List.setIfInBounds_toArray, List.set_cons_zero, List.set_cons_succ]
  refine wpAnyH_ready (rs := [2]) (by kernel_rfl) (by simp) ?_
  refine AllReadyH.cons rfl (fun K hK => ?_) AllReadyH.nil
  go_simp
  go_at_call 35; refine (rapply_is _ _ _ _ _ (hL.below (belowQ hH)) hn.out _ _ _ hv).mono ?_; rintro e w1 ⟨rfl, hb1⟩
  refine hK.out _ _ ?_ (fun hH2 => ?_)
  · exact keepQ hH hb1
  clear hK K
  try simp only [Act.put, List.setIfInBounds_toArray, List.set_cons_zero, List.set_cons_succ]
  have hP1 := keepQ (w := w) hH hb1
  refine wpAnyH_ready (rs := [3]) (by kernel_rfl) (by simp) ?_
  refine AllReadyH.cons rfl (fun K hK => ?_) AllReadyH.nil
  go_simp
  refine hK.out _ _ ?_ (fun hH3 => ?_)
  · exact putQa hH2
  clear hK K
  try simp only [Act.put, List.setIfInBounds_toArray, List.set_cons_zero, List.set_cons_succ]
  refine wpAnyH_ready (rs := [4]) (by kernel_rfl) (by simp) ?_
  refine AllReadyH.cons rfl (fun K hK => ?_) AllReadyH.nil
  go_simp
  refine hK.out _ _ ?_ (fun hH4 => ?_)
  · exact putQb hH3
  clear hK K
  try simp only [Act.put, List.setIfInBounds_toArray, List.set_cons_zero, List.set_cons_succ]
  refine wpAnyH_done (by kernel_rfl) ?_ _
  have hB := belowQ hH4
  clear hH hH2 hH3 hH4 hS
  obtain ⟨ca0, ca1, ca2, ca3, ca4, ca5, ca6, ca7, ca8, ca9, ca10, ca11, ca12, ca13, ca14, ca15, ca16, ca17, ca18, ca19, ca20, ca21, ca22, ca23, hz, hB1⟩ := hP1
  go_wp2
  exact bodyPost_ret (v := .tuple #[.agg #[.int .i64 ka, .int .i64 na, .string ta], .agg #[.int .i64 k2, .int .i64 n2, .string t2]]) (by simp only [results, Tryz.results33]; go_simp) rfl ⟨rfl, hB⟩
set_option maxHeartbeats 2000000 in
theorem rpair_4 (ka na : Int) (ta : ByteArray) (kb nb : Int) (tb : ByteArray) (w : World) (hL : Lits w)  (hn : Val.inr na) (k2 n2 : Int) (t2 : ByteArray) (hv : Hid (Val.apply 2 ⟨ka, na, ta.data.toList⟩ = ⟨k2, n2, t2.data.toList⟩)) : Calls Tryz.prog 33 #[.agg #[.int .i64 ka, .int .i64 na, .string ta], .agg #[.int .i64 kb, .int .i64 nb, .string tb], .int .i64 0, .int .i64 2] w (VPair k2 n2 t2 kb nb tb w) := by
  have hS := ofSQ (start4 w (.int .i64 ka) (.int .i64 na) (.string ta) (.int .i64 kb) (.int .i64 nb) (.string tb) (.int .i64 0) (.int .i64 0) (.string ⟨#[]⟩) (.int .i64 0) (.int .i64 0) (.string ⟨#[]⟩) 24 24 24 24)
  replace hn := Lib.hid hn
  go_enter Tryz.func33, Tryz.ntmps33
  go_wp2_with fail
  refine wp_region_held_drew (S := (fun W => W.cell? ⟨w.heap.size, 0, none⟩ = some (.int .i64 ka) ∧ W.cell? ⟨w.heap.size, 1, none⟩ = some (.int .i64 na) ∧ W.cell? ⟨w.heap.size, 2, none⟩ = some (.string ta) ∧ W.frozen? ⟨w.heap.size, 0, none⟩ = false ∧ W.frozen? ⟨w.heap.size, 1, none⟩ = false ∧ W.frozen? ⟨w.heap.size, 2, none⟩ = false ∧ W.cell? ⟨w.heap.size + 1, 0, none⟩ = some (.int .i64 kb) ∧ W.cell? ⟨w.heap.size + 1, 1, none⟩ = some (.int .i64 nb) ∧ W.cell? ⟨w.heap.size + 1, 2, none⟩ = some (.string tb) ∧ W.frozen? ⟨w.heap.size + 1, 0, none⟩ = false ∧ W.frozen? ⟨w.heap.size + 1, 1, none⟩ = false ∧ W.frozen? ⟨w.heap.size + 1, 2, none⟩ = false ∧ W.cell? ⟨w.heap.size + 1 + 1, 0, none⟩ = some (peek W (w.heap.size + 1 + 1) 0) ∧ W.cell? ⟨w.heap.size + 1 + 1, 1, none⟩ = some (peek W (w.heap.size + 1 + 1) 1) ∧ W.cell? ⟨w.heap.size + 1 + 1, 2, none⟩ = some (peek W (w.heap.size + 1 + 1) 2) ∧ W.frozen? ⟨w.heap.size + 1 + 1, 0, none⟩ = false ∧ W.frozen? ⟨w.heap.size + 1 + 1, 1, none⟩ = false ∧ W.frozen? ⟨w.heap.size + 1 + 1, 2, none⟩ = false ∧ W.cell? ⟨w.heap.size + 1 + 1 + 1, 0, none⟩ = some (peek W (w.heap.size + 1 + 1 + 1) 0) ∧ W.cell? ⟨w.heap.size + 1 + 1 + 1, 1, none⟩ = some (peek W (w.heap.size + 1 + 1 + 1) 1) ∧ W.cell? ⟨w.heap.size + 1 + 1 + 1, 2, none⟩ = some (peek W (w.heap.size + 1 + 1 + 1) 2) ∧ W.frozen? ⟨w.heap.size + 1 + 1 + 1, 0, none⟩ = false ∧ W.frozen? ⟨w.heap.size + 1 + 1 + 1, 1, none⟩ = false ∧ W.frozen? ⟨w.heap.size + 1 + 1 + 1, 2, none⟩ = false ∧ w.heap.size + 1 + 1 + 1 < W.heap.size ∧ Below w.heap.size w W)) (by kernel_rfl) ?_ (fun hH => ?_)
  · exact keepQd hS
  refine wpAnyH_take (i := 0) (v := ?_) rfl (by kernel_rfl) (by kernel_rfl) (by kernel_rfl) (fun _ _ _ h => h) (Or.inl ⟨by rfl, ?_⟩) hH ?_
  rotate_left
  · (intro W hSw; (try dsimp only at hSw); go_simp; try with_reducible rfl)
  try simp only [Act.put, List.setIfInBounds_toArray, List.set_cons_zero, List.set_cons_succ]
  refine wpAnyH_take (i := 2) (v := ?_) rfl (by kernel_rfl) (by kernel_rfl) (by kernel_rfl) (fun _ _ _ h => h) (Or.inl ⟨by rfl, ?_⟩) hH ?_
  rotate_left
  · (intro W hSw; (try dsimp only at hSw); go_simp; try with_reducible rfl)
  try simp only [Act.put, List.setIfInBounds_toArray, List.set_cons_zero, List.set_cons_succ]
  refine wpAnyH_ready (rs := [1]) (by kernel_rfl) (by simp) ?_
  refine AllReadyH.cons rfl (fun K hK => ?_) AllReadyH.nil
  go_simp
  go_at_call 35; refine (rapply_is _ _ _ _ _ (hL.below (belowQ hH)) hn.out _ _ _ hv).mono ?_; rintro e w1 ⟨rfl, hb1⟩
  refine hK.out _ _ ?_ (fun hH2 => ?_)
  · exact keepQ hH hb1
  clear hK K
  try simp only [Act.put, List.setIfInBounds_toArray, List.set_cons_zero, List.set_cons_succ]
  have hP1 := keepQ (w := w) hH hb1
  refine wpAnyH_ready (rs := [3]) (by kernel_rfl) (by simp) ?_
  refine AllReadyH.cons rfl (fun K hK => ?_) AllReadyH.nil
  go_simp
  refine hK.out _ _ ?_ (fun hH3 => ?_)
  · exact putQa hH2
  clear hK K
  try simp only [Act.put, List.setIfInBounds_toArray, List.set_cons_zero, List.set_cons_succ]
  refine wpAnyH_ready (rs := [4]) (by kernel_rfl) (by simp) ?_
  refine AllReadyH.cons rfl (fun K hK => ?_) AllReadyH.nil
  go_simp
  refine hK.out _ _ ?_ (fun hH4 => ?_)
  · exact putQb hH3
  clear hK K
  try simp only [Act.put, List.setIfInBounds_toArray, List.set_cons_zero, List.set_cons_succ]
  refine wpAnyH_done (by kernel_rfl) ?_ _
  have hB := belowQ hH4
  clear hH hH2 hH3 hH4 hS
  obtain ⟨ca0, ca1, ca2, ca3, ca4, ca5, ca6, ca7, ca8, ca9, ca10, ca11, ca12, ca13, ca14, ca15, ca16, ca17, ca18, ca19, ca20, ca21, ca22, ca23, hz, hB1⟩ := hP1
  go_wp2
  exact bodyPost_ret (v := .tuple #[.agg #[.int .i64 k2, .int .i64 n2, .string t2], .agg #[.int .i64 kb, .int .i64 nb, .string tb]]) (by simp only [results, Tryz.results33]; go_simp) rfl ⟨rfl, hB⟩
set_option maxHeartbeats 2000000 in
theorem rpair_5 (ka na : Int) (ta : ByteArray) (kb nb : Int) (tb : ByteArray) (w : World) (hL : Lits w)  : Calls Tryz.prog 33 #[.agg #[.int .i64 ka, .int .i64 na, .string ta], .agg #[.int .i64 kb, .int .i64 nb, .string tb], .int .i64 1, .int .i64 1] w (VPair ka na ta kb nb tb w) := by
  have hS := ofSQ (start4 w (.int .i64 ka) (.int .i64 na) (.string ta) (.int .i64 kb) (.int .i64 nb) (.string tb) (.int .i64 0) (.int .i64 0) (.string ⟨#[]⟩) (.int .i64 0) (.int .i64 0) (.string ⟨#[]⟩) 24 24 24 24)
  go_enter Tryz.func33, Tryz.ntmps33
  go_wp2_with fail
  obtain ⟨W0, hW0⟩ : ∃ W0, ((((w.alloc (.cells #[.int .i64 ka, .int .i64 na, .string ta] 24)).alloc (.cells #[.int .i64 kb, .int .i64 nb, .string tb] 24)).alloc (.cells #[.int .i64 0, .int .i64 0, .string ⟨#[]⟩] 24)).alloc (.cells #[.int .i64 0, .int .i64 0, .string ⟨#[]⟩] 24)) = W0 := ⟨_, rfl⟩
  rw [hW0] at hS ⊢
  clear hW0
  refine wp_region_held_drew (S := (fun W => W.cell? ⟨w.heap.size, 0, none⟩ = some (.int .i64 ka) ∧ W.cell? ⟨w.heap.size, 1, none⟩ = some (.int .i64 na) ∧ W.cell? ⟨w.heap.size, 2, none⟩ = some (.string ta) ∧ W.frozen? ⟨w.heap.size, 0, none⟩ = false ∧ W.frozen? ⟨w.heap.size, 1, none⟩ = false ∧ W.frozen? ⟨w.heap.size, 2, none⟩ = false ∧ W.cell? ⟨w.heap.size + 1, 0, none⟩ = some (.int .i64 kb) ∧ W.cell? ⟨w.heap.size + 1, 1, none⟩ = some (.int .i64 nb) ∧ W.cell? ⟨w.heap.size + 1, 2, none⟩ = some (.string tb) ∧ W.frozen? ⟨w.heap.size + 1, 0, none⟩ = false ∧ W.frozen? ⟨w.heap.size + 1, 1, none⟩ = false ∧ W.frozen? ⟨w.heap.size + 1, 2, none⟩ = false ∧ W.cell? ⟨w.heap.size + 1 + 1, 0, none⟩ = some (peek W (w.heap.size + 1 + 1) 0) ∧ W.cell? ⟨w.heap.size + 1 + 1, 1, none⟩ = some (peek W (w.heap.size + 1 + 1) 1) ∧ W.cell? ⟨w.heap.size + 1 + 1, 2, none⟩ = some (peek W (w.heap.size + 1 + 1) 2) ∧ W.frozen? ⟨w.heap.size + 1 + 1, 0, none⟩ = false ∧ W.frozen? ⟨w.heap.size + 1 + 1, 1, none⟩ = false ∧ W.frozen? ⟨w.heap.size + 1 + 1, 2, none⟩ = false ∧ W.cell? ⟨w.heap.size + 1 + 1 + 1, 0, none⟩ = some (peek W (w.heap.size + 1 + 1 + 1) 0) ∧ W.cell? ⟨w.heap.size + 1 + 1 + 1, 1, none⟩ = some (peek W (w.heap.size + 1 + 1 + 1) 1) ∧ W.cell? ⟨w.heap.size + 1 + 1 + 1, 2, none⟩ = some (peek W (w.heap.size + 1 + 1 + 1) 2) ∧ W.frozen? ⟨w.heap.size + 1 + 1 + 1, 0, none⟩ = false ∧ W.frozen? ⟨w.heap.size + 1 + 1 + 1, 1, none⟩ = false ∧ W.frozen? ⟨w.heap.size + 1 + 1 + 1, 2, none⟩ = false ∧ w.heap.size + 1 + 1 + 1 < W.heap.size ∧ Below w.heap.size w W)) (by kernel_rfl) ?_ (fun hH => ?_)
  · exact keepQd hS
  obtain ⟨W1, hW1⟩ : ∃ W1, W0.drew = W1 := ⟨_, rfl⟩
  rw [hW1] at hH ⊢
  clear hW1
  have hP1 := hH
  refine wpAnyH_take (i := 0) (v := ?_) rfl (by kernel_rfl) (by kernel_rfl) (by kernel_rfl) (fun _ _ _ h => h) (Or.inl ⟨by rfl, ?_⟩) hH ?_
  rotate_left
  · (intro W hSw; (try dsimp only at hSw); go_simp; try with_reducible rfl)
  try simp only [Act.put, List.setIfInBounds_toArray, List.set_cons_zero, List.set_cons_succ]
  refine wpAnyH_take (i := 1) (v := ?_) rfl (by kernel_rfl) (by kernel_rfl) (by kernel_rfl) (fun _ _ _ h => h) (Or.inl ⟨by rfl, ?_⟩) hH ?_
  rotate_left
  · (intro W hSw; (try dsimp only at hSw); go_simp; try with_reducible rfl)
  try simp only [Act.put, List.setIfInBounds_toArray, List.set_cons_zero, List.set_cons_succ]
  refine wpAnyH_ready (rs := [2]) (by kernel_rfl) (by simp) ?_
  refine AllReadyH.cons rfl (fun K hK => ?_) AllReadyH.nil
  go_simp
  refine hK.out _ _ ?_ (fun hH3 => ?_)
  · exact putQa hH
  clear hK K
  try simp only [Act.put, List.setIfInBounds_toArray, List.set_cons_zero, List.set_cons_succ]
  refine wpAnyH_ready (rs := [3]) (by kernel_rfl) (by simp) ?_
  refine AllReadyH.cons rfl (fun K hK => ?_) AllReadyH.nil
  go_simp
  refine hK.out _ _ ?_ (fun hH4 => ?_)
  · exact putQb hH3
  clear hK K
  try simp only [Act.put, List.setIfInBounds_toArray, List.set_cons_zero, List.set_cons_succ]
  refine wpAnyH_done (by kernel_rfl) ?_ _
  have hB := belowQ hH4
  clear hH hH3 hH4 hS
  obtain ⟨ca0, ca1, ca2, ca3, ca4, ca5, ca6, ca7, ca8, ca9, ca10, ca11, ca12, ca13, ca14, ca15, ca16, ca17, ca18, ca19, ca20, ca21, ca22, ca23, hz, hB1⟩ := hP1
  go_wp2
  exact bodyPost_ret (v := .tuple #[.agg #[.int .i64 ka, .int .i64 na, .string ta], .agg #[.int .i64 kb, .int .i64 nb, .string tb]]) (by simp only [results, Tryz.results33]; go_simp) rfl ⟨rfl, hB⟩
set_option maxHeartbeats 2000000 in
theorem rpair_6 (ka na : Int) (ta : ByteArray) (kb nb : Int) (tb : ByteArray) (w : World) (hL : Lits w)  : Calls Tryz.prog 33 #[.agg #[.int .i64 ka, .int .i64 na, .string ta], .agg #[.int .i64 kb, .int .i64 nb, .string tb], .int .i64 2, .int .i64 2] w (VPair ka na ta kb nb tb w) := by
  have hS := ofSQ (start4 w (.int .i64 ka) (.int .i64 na) (.string ta) (.int .i64 kb) (.int .i64 nb) (.string tb) (.int .i64 0) (.int .i64 0) (.string ⟨#[]⟩) (.int .i64 0) (.int .i64 0) (.string ⟨#[]⟩) 24 24 24 24)
  go_enter Tryz.func33, Tryz.ntmps33
  go_wp2_with fail
  obtain ⟨W0, hW0⟩ : ∃ W0, ((((w.alloc (.cells #[.int .i64 ka, .int .i64 na, .string ta] 24)).alloc (.cells #[.int .i64 kb, .int .i64 nb, .string tb] 24)).alloc (.cells #[.int .i64 0, .int .i64 0, .string ⟨#[]⟩] 24)).alloc (.cells #[.int .i64 0, .int .i64 0, .string ⟨#[]⟩] 24)) = W0 := ⟨_, rfl⟩
  rw [hW0] at hS ⊢
  clear hW0
  refine wp_region_held_drew (S := (fun W => W.cell? ⟨w.heap.size, 0, none⟩ = some (.int .i64 ka) ∧ W.cell? ⟨w.heap.size, 1, none⟩ = some (.int .i64 na) ∧ W.cell? ⟨w.heap.size, 2, none⟩ = some (.string ta) ∧ W.frozen? ⟨w.heap.size, 0, none⟩ = false ∧ W.frozen? ⟨w.heap.size, 1, none⟩ = false ∧ W.frozen? ⟨w.heap.size, 2, none⟩ = false ∧ W.cell? ⟨w.heap.size + 1, 0, none⟩ = some (.int .i64 kb) ∧ W.cell? ⟨w.heap.size + 1, 1, none⟩ = some (.int .i64 nb) ∧ W.cell? ⟨w.heap.size + 1, 2, none⟩ = some (.string tb) ∧ W.frozen? ⟨w.heap.size + 1, 0, none⟩ = false ∧ W.frozen? ⟨w.heap.size + 1, 1, none⟩ = false ∧ W.frozen? ⟨w.heap.size + 1, 2, none⟩ = false ∧ W.cell? ⟨w.heap.size + 1 + 1, 0, none⟩ = some (peek W (w.heap.size + 1 + 1) 0) ∧ W.cell? ⟨w.heap.size + 1 + 1, 1, none⟩ = some (peek W (w.heap.size + 1 + 1) 1) ∧ W.cell? ⟨w.heap.size + 1 + 1, 2, none⟩ = some (peek W (w.heap.size + 1 + 1) 2) ∧ W.frozen? ⟨w.heap.size + 1 + 1, 0, none⟩ = false ∧ W.frozen? ⟨w.heap.size + 1 + 1, 1, none⟩ = false ∧ W.frozen? ⟨w.heap.size + 1 + 1, 2, none⟩ = false ∧ W.cell? ⟨w.heap.size + 1 + 1 + 1, 0, none⟩ = some (peek W (w.heap.size + 1 + 1 + 1) 0) ∧ W.cell? ⟨w.heap.size + 1 + 1 + 1, 1, none⟩ = some (peek W (w.heap.size + 1 + 1 + 1) 1) ∧ W.cell? ⟨w.heap.size + 1 + 1 + 1, 2, none⟩ = some (peek W (w.heap.size + 1 + 1 + 1) 2) ∧ W.frozen? ⟨w.heap.size + 1 + 1 + 1, 0, none⟩ = false ∧ W.frozen? ⟨w.heap.size + 1 + 1 + 1, 1, none⟩ = false ∧ W.frozen? ⟨w.heap.size + 1 + 1 + 1, 2, none⟩ = false ∧ w.heap.size + 1 + 1 + 1 < W.heap.size ∧ Below w.heap.size w W)) (by kernel_rfl) ?_ (fun hH => ?_)
  · exact keepQd hS
  obtain ⟨W1, hW1⟩ : ∃ W1, W0.drew = W1 := ⟨_, rfl⟩
  rw [hW1] at hH ⊢
  clear hW1
  have hP1 := hH
  refine wpAnyH_take (i := 0) (v := ?_) rfl (by kernel_rfl) (by kernel_rfl) (by kernel_rfl) (fun _ _ _ h => h) (Or.inl ⟨by rfl, ?_⟩) hH ?_
  rotate_left
  · (intro W hSw; (try dsimp only at hSw); go_simp; try with_reducible rfl)
  try simp only [Act.put, List.setIfInBounds_toArray, List.set_cons_zero, List.set_cons_succ]
  refine wpAnyH_take (i := 1) (v := ?_) rfl (by kernel_rfl) (by kernel_rfl) (by kernel_rfl) (fun _ _ _ h => h) (Or.inl ⟨by rfl, ?_⟩) hH ?_
  rotate_left
  · (intro W hSw; (try dsimp only at hSw); go_simp; try with_reducible rfl)
  try simp only [Act.put, List.setIfInBounds_toArray, List.set_cons_zero, List.set_cons_succ]
  refine wpAnyH_ready (rs := [2]) (by kernel_rfl) (by simp) ?_
  refine AllReadyH.cons rfl (fun K hK => ?_) AllReadyH.nil
  go_simp
  refine hK.out _ _ ?_ (fun hH3 => ?_)
  · exact putQa hH
  clear hK K
  try simp only [Act.put, List.setIfInBounds_toArray, List.set_cons_zero, List.set_cons_succ]
  refine wpAnyH_ready (rs := [3]) (by kernel_rfl) (by simp) ?_
  refine AllReadyH.cons rfl (fun K hK => ?_) AllReadyH.nil
  go_simp
  refine hK.out _ _ ?_ (fun hH4 => ?_)
  · exact putQb hH3
  clear hK K
  try simp only [Act.put, List.setIfInBounds_toArray, List.set_cons_zero, List.set_cons_succ]
  refine wpAnyH_done (by kernel_rfl) ?_ _
  have hB := belowQ hH4
  clear hH hH3 hH4 hS
  obtain ⟨ca0, ca1, ca2, ca3, ca4, ca5, ca6, ca7, ca8, ca9, ca10, ca11, ca12, ca13, ca14, ca15, ca16, ca17, ca18, ca19, ca20, ca21, ca22, ca23, hz, hB1⟩ := hP1
  go_wp2
  exact bodyPost_ret (v := .tuple #[.agg #[.int .i64 ka, .int .i64 na, .string ta], .agg #[.int .i64 kb, .int .i64 nb, .string tb]]) (by simp only [results, Tryz.results33]; go_simp) rfl ⟨rfl, hB⟩
set_option maxHeartbeats 2000000 in
theorem rpair_7 (y : Int) (ka na : Int) (ta : ByteArray) (kb nb : Int) (tb : ByteArray) (w : World) (hL : Lits w) (h0 : y ≠ 0) (h1 : y ≠ 1) (h2 : y ≠ 2) : Calls Tryz.prog 33 #[.agg #[.int .i64 ka, .int .i64 na, .string ta], .agg #[.int .i64 kb, .int .i64 nb, .string tb], .int .i64 2, .int .i64 y] w (VPair ka na ta kb nb tb w) := by
  have hS := ofSQ (start4 w (.int .i64 ka) (.int .i64 na) (.string ta) (.int .i64 kb) (.int .i64 nb) (.string tb) (.int .i64 0) (.int .i64 0) (.string ⟨#[]⟩) (.int .i64 0) (.int .i64 0) (.string ⟨#[]⟩) 24 24 24 24)
  have b0 : (y == 0) = false := by simp [h0]
  have b1 : (y == 1) = false := by simp [h1]
  have b2 : (y == 2) = false := by simp [h2]
  clear h0 h1 h2
  go_enter Tryz.func33, Tryz.ntmps33
  go_wp2_with fail
  obtain ⟨W0, hW0⟩ : ∃ W0, ((((w.alloc (.cells #[.int .i64 ka, .int .i64 na, .string ta] 24)).alloc (.cells #[.int .i64 kb, .int .i64 nb, .string tb] 24)).alloc (.cells #[.int .i64 0, .int .i64 0, .string ⟨#[]⟩] 24)).alloc (.cells #[.int .i64 0, .int .i64 0, .string ⟨#[]⟩] 24)) = W0 := ⟨_, rfl⟩
  rw [hW0] at hS ⊢
  clear hW0
  refine wp_region_held_drew (S := (fun W => W.cell? ⟨w.heap.size, 0, none⟩ = some (.int .i64 ka) ∧ W.cell? ⟨w.heap.size, 1, none⟩ = some (.int .i64 na) ∧ W.cell? ⟨w.heap.size, 2, none⟩ = some (.string ta) ∧ W.frozen? ⟨w.heap.size, 0, none⟩ = false ∧ W.frozen? ⟨w.heap.size, 1, none⟩ = false ∧ W.frozen? ⟨w.heap.size, 2, none⟩ = false ∧ W.cell? ⟨w.heap.size + 1, 0, none⟩ = some (.int .i64 kb) ∧ W.cell? ⟨w.heap.size + 1, 1, none⟩ = some (.int .i64 nb) ∧ W.cell? ⟨w.heap.size + 1, 2, none⟩ = some (.string tb) ∧ W.frozen? ⟨w.heap.size + 1, 0, none⟩ = false ∧ W.frozen? ⟨w.heap.size + 1, 1, none⟩ = false ∧ W.frozen? ⟨w.heap.size + 1, 2, none⟩ = false ∧ W.cell? ⟨w.heap.size + 1 + 1, 0, none⟩ = some (peek W (w.heap.size + 1 + 1) 0) ∧ W.cell? ⟨w.heap.size + 1 + 1, 1, none⟩ = some (peek W (w.heap.size + 1 + 1) 1) ∧ W.cell? ⟨w.heap.size + 1 + 1, 2, none⟩ = some (peek W (w.heap.size + 1 + 1) 2) ∧ W.frozen? ⟨w.heap.size + 1 + 1, 0, none⟩ = false ∧ W.frozen? ⟨w.heap.size + 1 + 1, 1, none⟩ = false ∧ W.frozen? ⟨w.heap.size + 1 + 1, 2, none⟩ = false ∧ W.cell? ⟨w.heap.size + 1 + 1 + 1, 0, none⟩ = some (peek W (w.heap.size + 1 + 1 + 1) 0) ∧ W.cell? ⟨w.heap.size + 1 + 1 + 1, 1, none⟩ = some (peek W (w.heap.size + 1 + 1 + 1) 1) ∧ W.cell? ⟨w.heap.size + 1 + 1 + 1, 2, none⟩ = some (peek W (w.heap.size + 1 + 1 + 1) 2) ∧ W.frozen? ⟨w.heap.size + 1 + 1 + 1, 0, none⟩ = false ∧ W.frozen? ⟨w.heap.size + 1 + 1 + 1, 1, none⟩ = false ∧ W.frozen? ⟨w.heap.size + 1 + 1 + 1, 2, none⟩ = false ∧ w.heap.size + 1 + 1 + 1 < W.heap.size ∧ Below w.heap.size w W)) (by kernel_rfl) ?_ (fun hH => ?_)
  · exact keepQd hS
  obtain ⟨W1, hW1⟩ : ∃ W1, W0.drew = W1 := ⟨_, rfl⟩
  rw [hW1] at hH ⊢
  clear hW1
  have hP1 := hH
  refine wpAnyH_take (i := 0) (v := ?_) rfl (by kernel_rfl) (by kernel_rfl) (by kernel_rfl) (fun _ _ _ h => h) (Or.inl ⟨by rfl, ?_⟩) hH ?_
  rotate_left
  · (intro W hSw; (try dsimp only at hSw); go_simp; try with_reducible rfl)
  try simp only [Act.put, List.setIfInBounds_toArray, List.set_cons_zero, List.set_cons_succ]
  refine wpAnyH_take (i := 1) (v := ?_) rfl (by kernel_rfl) (by kernel_rfl) (by kernel_rfl) (fun _ _ _ h => h) (Or.inl ⟨by rfl, ?_⟩) hH ?_
  rotate_left
  · (intro W hSw; (try dsimp only at hSw); go_simp; try with_reducible rfl)
  try simp only [Act.put, List.setIfInBounds_toArray, List.set_cons_zero, List.set_cons_succ]
  refine wpAnyH_ready (rs := [2]) (by kernel_rfl) (by simp) ?_
  refine AllReadyH.cons rfl (fun K hK => ?_) AllReadyH.nil
  go_simp
  refine hK.out _ _ ?_ (fun hH3 => ?_)
  · exact putQa hH
  clear hK K
  try simp only [Act.put, List.setIfInBounds_toArray, List.set_cons_zero, List.set_cons_succ]
  refine wpAnyH_ready (rs := [3]) (by kernel_rfl) (by simp) ?_
  refine AllReadyH.cons rfl (fun K hK => ?_) AllReadyH.nil
  go_simp
  refine hK.out _ _ ?_ (fun hH4 => ?_)
  · exact putQb hH3
  clear hK K
  try simp only [Act.put, List.setIfInBounds_toArray, List.set_cons_zero, List.set_cons_succ]
  refine wpAnyH_done (by kernel_rfl) ?_ _
  have hB := belowQ hH4
  clear hH hH3 hH4 hS
  obtain ⟨ca0, ca1, ca2, ca3, ca4, ca5, ca6, ca7, ca8, ca9, ca10, ca11, ca12, ca13, ca14, ca15, ca16, ca17, ca18, ca19, ca20, ca21, ca22, ca23, hz, hB1⟩ := hP1
  go_wp2
  exact bodyPost_ret (v := .tuple #[.agg #[.int .i64 ka, .int .i64 na, .string ta], .agg #[.int .i64 kb, .int .i64 nb, .string tb]]) (by simp only [results, Tryz.results33]; go_simp) rfl ⟨rfl, hB⟩
set_option maxHeartbeats 2000000 in
theorem rpair_8 (x : Int) (ka na : Int) (ta : ByteArray) (kb nb : Int) (tb : ByteArray) (w : World) (hL : Lits w) (h0 : x ≠ 0) (h1 : x ≠ 1) (h2 : x ≠ 2) : Calls Tryz.prog 33 #[.agg #[.int .i64 ka, .int .i64 na, .string ta], .agg #[.int .i64 kb, .int .i64 nb, .string tb], .int .i64 x, .int .i64 2] w (VPair ka na ta kb nb tb w) := by
  have hS := ofSQ (start4 w (.int .i64 ka) (.int .i64 na) (.string ta) (.int .i64 kb) (.int .i64 nb) (.string tb) (.int .i64 0) (.int .i64 0) (.string ⟨#[]⟩) (.int .i64 0) (.int .i64 0) (.string ⟨#[]⟩) 24 24 24 24)
  have b0 : (x == 0) = false := by simp [h0]
  have b1 : (x == 1) = false := by simp [h1]
  have b2 : (x == 2) = false := by simp [h2]
  clear h0 h1 h2
  go_enter Tryz.func33, Tryz.ntmps33
  go_wp2_with fail
  obtain ⟨W0, hW0⟩ : ∃ W0, ((((w.alloc (.cells #[.int .i64 ka, .int .i64 na, .string ta] 24)).alloc (.cells #[.int .i64 kb, .int .i64 nb, .string tb] 24)).alloc (.cells #[.int .i64 0, .int .i64 0, .string ⟨#[]⟩] 24)).alloc (.cells #[.int .i64 0, .int .i64 0, .string ⟨#[]⟩] 24)) = W0 := ⟨_, rfl⟩
  rw [hW0] at hS ⊢
  clear hW0
  refine wp_region_held_drew (S := (fun W => W.cell? ⟨w.heap.size, 0, none⟩ = some (.int .i64 ka) ∧ W.cell? ⟨w.heap.size, 1, none⟩ = some (.int .i64 na) ∧ W.cell? ⟨w.heap.size, 2, none⟩ = some (.string ta) ∧ W.frozen? ⟨w.heap.size, 0, none⟩ = false ∧ W.frozen? ⟨w.heap.size, 1, none⟩ = false ∧ W.frozen? ⟨w.heap.size, 2, none⟩ = false ∧ W.cell? ⟨w.heap.size + 1, 0, none⟩ = some (.int .i64 kb) ∧ W.cell? ⟨w.heap.size + 1, 1, none⟩ = some (.int .i64 nb) ∧ W.cell? ⟨w.heap.size + 1, 2, none⟩ = some (.string tb) ∧ W.frozen? ⟨w.heap.size + 1, 0, none⟩ = false ∧ W.frozen? ⟨w.heap.size + 1, 1, none⟩ = false ∧ W.frozen? ⟨w.heap.size + 1, 2, none⟩ = false ∧ W.cell? ⟨w.heap.size + 1 + 1, 0, none⟩ = some (peek W (w.heap.size + 1 + 1) 0) ∧ W.cell? ⟨w.heap.size + 1 + 1, 1, none⟩ = some (peek W (w.heap.size + 1 + 1) 1) ∧ W.cell? ⟨w.heap.size + 1 + 1, 2, none⟩ = some (peek W (w.heap.size + 1 + 1) 2) ∧ W.frozen? ⟨w.heap.size + 1 + 1, 0, none⟩ = false ∧ W.frozen? ⟨w.heap.size + 1 + 1, 1, none⟩ = false ∧ W.frozen? ⟨w.heap.size + 1 + 1, 2, none⟩ = false ∧ W.cell? ⟨w.heap.size + 1 + 1 + 1, 0, none⟩ = some (peek W (w.heap.size + 1 + 1 + 1) 0) ∧ W.cell? ⟨w.heap.size + 1 + 1 + 1, 1, none⟩ = some (peek W (w.heap.size + 1 + 1 + 1) 1) ∧ W.cell? ⟨w.heap.size + 1 + 1 + 1, 2, none⟩ = some (peek W (w.heap.size + 1 + 1 + 1) 2) ∧ W.frozen? ⟨w.heap.size + 1 + 1 + 1, 0, none⟩ = false ∧ W.frozen? ⟨w.heap.size + 1 + 1 + 1, 1, none⟩ = false ∧ W.frozen? ⟨w.heap.size + 1 + 1 + 1, 2, none⟩ = false ∧ w.heap.size + 1 + 1 + 1 < W.heap.size ∧ Below w.heap.size w W)) (by kernel_rfl) ?_ (fun hH => ?_)
  · exact keepQd hS
  obtain ⟨W1, hW1⟩ : ∃ W1, W0.drew = W1 := ⟨_, rfl⟩
  rw [hW1] at hH ⊢
  clear hW1
  have hP1 := hH
  refine wpAnyH_take (i := 0) (v := ?_) rfl (by kernel_rfl) (by kernel_rfl) (by kernel_rfl) (fun _ _ _ h => h) (Or.inl ⟨by rfl, ?_⟩) hH ?_
  rotate_left
  · (intro W hSw; (try dsimp only at hSw); go_simp; try with_reducible rfl)
  try simp only [Act.put, List.setIfInBounds_toArray, List.set_cons_zero, List.set_cons_succ]
  refine wpAnyH_take (i := 1) (v := ?_) rfl (by kernel_rfl) (by kernel_rfl) (by kernel_rfl) (fun _ _ _ h => h) (Or.inl ⟨by rfl, ?_⟩) hH ?_
  rotate_left
  · (intro W hSw; (try dsimp only at hSw); go_simp; try with_reducible rfl)
  try simp only [Act.put, List.setIfInBounds_toArray, List.set_cons_zero, List.set_cons_succ]
  refine wpAnyH_ready (rs := [2]) (by kernel_rfl) (by simp) ?_
  refine AllReadyH.cons rfl (fun K hK => ?_) AllReadyH.nil
  go_simp
  refine hK.out _ _ ?_ (fun hH3 => ?_)
  · exact putQa hH
  clear hK K
  try simp only [Act.put, List.setIfInBounds_toArray, List.set_cons_zero, List.set_cons_succ]
  refine wpAnyH_ready (rs := [3]) (by kernel_rfl) (by simp) ?_
  refine AllReadyH.cons rfl (fun K hK => ?_) AllReadyH.nil
  go_simp
  refine hK.out _ _ ?_ (fun hH4 => ?_)
  · exact putQb hH3
  clear hK K
  try simp only [Act.put, List.setIfInBounds_toArray, List.set_cons_zero, List.set_cons_succ]
  refine wpAnyH_done (by kernel_rfl) ?_ _
  have hB := belowQ hH4
  clear hH hH3 hH4 hS
  obtain ⟨ca0, ca1, ca2, ca3, ca4, ca5, ca6, ca7, ca8, ca9, ca10, ca11, ca12, ca13, ca14, ca15, ca16, ca17, ca18, ca19, ca20, ca21, ca22, ca23, hz, hB1⟩ := hP1
  go_wp2
  exact bodyPost_ret (v := .tuple #[.agg #[.int .i64 ka, .int .i64 na, .string ta], .agg #[.int .i64 kb, .int .i64 nb, .string tb]]) (by simp only [results, Tryz.results33]; go_simp) rfl ⟨rfl, hB⟩
set_option maxHeartbeats 2000000 in
theorem rpair_9 (x y : Int) (ka na : Int) (ta : ByteArray) (kb nb : Int) (tb : ByteArray) (w : World) (hL : Lits w) (h1 : x ≠ 1) (h2 : x ≠ 2) (h3 : y ≠ 1) (h4 : y ≠ 2) : Calls Tryz.prog 33 #[.agg #[.int .i64 ka, .int .i64 na, .string ta], .agg #[.int .i64 kb, .int .i64 nb, .string tb], .int .i64 x, .int .i64 y] w (VPair ka na ta kb nb tb w) := by
  have hS := ofSQ (start4 w (.int .i64 ka) (.int .i64 na) (.string ta) (.int .i64 kb) (.int .i64 nb) (.string tb) (.int .i64 0) (.int .i64 0) (.string ⟨#[]⟩) (.int .i64 0) (.int .i64 0) (.string ⟨#[]⟩) 24 24 24 24)
  have b1 : (x == 1) = false := by simp [h1]
  have b2 : (x == 2) = false := by simp [h2]
  have b3 : (y == 1) = false := by simp [h3]
  have b4 : (y == 2) = false := by simp [h4]
  clear h1 h2 h3 h4
  go_enter Tryz.func33, Tryz.ntmps33
  go_wp2_with fail
  obtain ⟨W0, hW0⟩ : ∃ W0, ((((w.alloc (.cells #[.int .i64 ka, .int .i64 na, .string ta] 24)).alloc (.cells #[.int .i64 kb, .int .i64 nb, .string tb] 24)).alloc (.cells #[.int .i64 0, .int .i64 0, .string ⟨#[]⟩] 24)).alloc (.cells #[.int .i64 0, .int .i64 0, .string ⟨#[]⟩] 24)) = W0 := ⟨_, rfl⟩
  rw [hW0] at hS ⊢
  clear hW0
  refine wp_region_held_drew (S := (fun W => W.cell? ⟨w.heap.size, 0, none⟩ = some (.int .i64 ka) ∧ W.cell? ⟨w.heap.size, 1, none⟩ = some (.int .i64 na) ∧ W.cell? ⟨w.heap.size, 2, none⟩ = some (.string ta) ∧ W.frozen? ⟨w.heap.size, 0, none⟩ = false ∧ W.frozen? ⟨w.heap.size, 1, none⟩ = false ∧ W.frozen? ⟨w.heap.size, 2, none⟩ = false ∧ W.cell? ⟨w.heap.size + 1, 0, none⟩ = some (.int .i64 kb) ∧ W.cell? ⟨w.heap.size + 1, 1, none⟩ = some (.int .i64 nb) ∧ W.cell? ⟨w.heap.size + 1, 2, none⟩ = some (.string tb) ∧ W.frozen? ⟨w.heap.size + 1, 0, none⟩ = false ∧ W.frozen? ⟨w.heap.size + 1, 1, none⟩ = false ∧ W.frozen? ⟨w.heap.size + 1, 2, none⟩ = false ∧ W.cell? ⟨w.heap.size + 1 + 1, 0, none⟩ = some (peek W (w.heap.size + 1 + 1) 0) ∧ W.cell? ⟨w.heap.size + 1 + 1, 1, none⟩ = some (peek W (w.heap.size + 1 + 1) 1) ∧ W.cell? ⟨w.heap.size + 1 + 1, 2, none⟩ = some (peek W (w.heap.size + 1 + 1) 2) ∧ W.frozen? ⟨w.heap.size + 1 + 1, 0, none⟩ = false ∧ W.frozen? ⟨w.heap.size + 1 + 1, 1, none⟩ = false ∧ W.frozen? ⟨w.heap.size + 1 + 1, 2, none⟩ = false ∧ W.cell? ⟨w.heap.size + 1 + 1 + 1, 0, none⟩ = some (peek W (w.heap.size + 1 + 1 + 1) 0) ∧ W.cell? ⟨w.heap.size + 1 + 1 + 1, 1, none⟩ = some (peek W (w.heap.size + 1 + 1 + 1) 1) ∧ W.cell? ⟨w.heap.size + 1 + 1 + 1, 2, none⟩ = some (peek W (w.heap.size + 1 + 1 + 1) 2) ∧ W.frozen? ⟨w.heap.size + 1 + 1 + 1, 0, none⟩ = false ∧ W.frozen? ⟨w.heap.size + 1 + 1 + 1, 1, none⟩ = false ∧ W.frozen? ⟨w.heap.size + 1 + 1 + 1, 2, none⟩ = false ∧ w.heap.size + 1 + 1 + 1 < W.heap.size ∧ Below w.heap.size w W)) (by kernel_rfl) ?_ (fun hH => ?_)
  · exact keepQd hS
  obtain ⟨W1, hW1⟩ : ∃ W1, W0.drew = W1 := ⟨_, rfl⟩
  rw [hW1] at hH ⊢
  clear hW1
  have hP1 := hH
  refine wpAnyH_take (i := 0) (v := ?_) rfl (by kernel_rfl) (by kernel_rfl) (by kernel_rfl) (fun _ _ _ h => h) (Or.inl ⟨by rfl, ?_⟩) hH ?_
  rotate_left
  · (intro W hSw; (try dsimp only at hSw); go_simp; try with_reducible rfl)
  try simp only [Act.put, List.setIfInBounds_toArray, List.set_cons_zero, List.set_cons_succ]
  refine wpAnyH_take (i := 1) (v := ?_) rfl (by kernel_rfl) (by kernel_rfl) (by kernel_rfl) (fun _ _ _ h => h) (Or.inl ⟨by rfl, ?_⟩) hH ?_
  rotate_left
  · (intro W hSw; (try dsimp only at hSw); go_simp; try with_reducible rfl)
  try simp only [Act.put, List.setIfInBounds_toArray, List.set_cons_zero, List.set_cons_succ]
  refine wpAnyH_ready (rs := [2]) (by kernel_rfl) (by simp) ?_
  refine AllReadyH.cons rfl (fun K hK => ?_) AllReadyH.nil
  go_simp
  refine hK.out _ _ ?_ (fun hH3 => ?_)
  · exact putQa hH
  clear hK K
  try simp only [Act.put, List.setIfInBounds_toArray, List.set_cons_zero, List.set_cons_succ]
  refine wpAnyH_ready (rs := [3]) (by kernel_rfl) (by simp) ?_
  refine AllReadyH.cons rfl (fun K hK => ?_) AllReadyH.nil
  go_simp
  refine hK.out _ _ ?_ (fun hH4 => ?_)
  · exact putQb hH3
  clear hK K
  try simp only [Act.put, List.setIfInBounds_toArray, List.set_cons_zero, List.set_cons_succ]
  refine wpAnyH_done (by kernel_rfl) ?_ _
  have hB := belowQ hH4
  clear hH hH3 hH4 hS
  obtain ⟨ca0, ca1, ca2, ca3, ca4, ca5, ca6, ca7, ca8, ca9, ca10, ca11, ca12, ca13, ca14, ca15, ca16, ca17, ca18, ca19, ca20, ca21, ca22, ca23, hz, hB1⟩ := hP1
  go_wp2
  exact bodyPost_ret (v := .tuple #[.agg #[.int .i64 ka, .int .i64 na, .string ta], .agg #[.int .i64 kb, .int .i64 nb, .string tb]]) (by simp only [results, Tryz.results33]; go_simp) rfl ⟨rfl, hB⟩
/-- WHAT bureauref03.Pair ANSWERS -/
theorem rpair_is (x y : Int) (ka na : Int) (ta : ByteArray) (kb nb : Int) (tb : ByteArray) (w : World) (hL : Lits w) (ha : Val.inr na) (hb : Val.inr nb) (k1 n1 : Int) (t1 : ByteArray) (k2 n2 : Int) (t2 : ByteArray) (hv : Hid (Val.pair ⟨ka, na, ta.data.toList⟩ ⟨kb, nb, tb.data.toList⟩ x y = (⟨k1, n1, t1.data.toList⟩, ⟨k2, n2, t2.data.toList⟩))) : Calls Tryz.prog 33 #[.agg #[.int .i64 ka, .int .i64 na, .string ta], .agg #[.int .i64 kb, .int .i64 nb, .string tb], .int .i64 x, .int .i64 y] w (VPair k1 n1 t1 k2 n2 t2 w) := by
  have hv' := hv.out
  rw [Val.pair] at hv'
  have self : ∀ {k n k2 n2 : Int} {t t2 : ByteArray}, (⟨k, n, t.data.toList⟩ : Val.V) = ⟨k2, n2, t2.data.toList⟩ → k2 = k ∧ n2 = n ∧ t2 = t := by
    intro k n k2 n2 t t2 h
    simp only [Val.V.mk.injEq] at h
    exact ⟨h.1.symm, h.2.1.symm, (bytes_inj' h.2.2).symm⟩
  by_cases c1 : x = 1 ∧ y ≠ 1
  · obtain ⟨rfl, hy⟩ := c1
    rw [if_pos ⟨rfl, hy⟩, Prod.mk.injEq] at hv'
    obtain ⟨e1, e2⟩ := hv'
    obtain ⟨rfl, rfl, rfl⟩ := self e1
    exact rpair_1 y _ _ _ _ _ _ w hL hy hb _ _ _ (Lib.hid e2)
  · rw [if_neg c1] at hv'
    by_cases c2 : y = 1 ∧ x ≠ 1
    · obtain ⟨rfl, hx⟩ := c2
      rw [if_pos ⟨rfl, hx⟩, Prod.mk.injEq] at hv'
      obtain ⟨e1, e2⟩ := hv'
      obtain ⟨rfl, rfl, rfl⟩ := self e2
      exact rpair_2 x _ _ _ _ _ _ w hL hx ha _ _ _ (Lib.hid e1)
    · rw [if_neg c2] at hv'
      by_cases c3 : x = 2 ∧ y = 0
      · obtain ⟨rfl, rfl⟩ := c3
        rw [if_pos ⟨rfl, rfl⟩, Prod.mk.injEq] at hv'
        obtain ⟨e1, e2⟩ := hv'
        obtain ⟨rfl, rfl, rfl⟩ := self e1
        exact rpair_3 _ _ _ _ _ _ w hL hb _ _ _ (Lib.hid e2)
      · rw [if_neg c3] at hv'
        by_cases c4 : y = 2 ∧ x = 0
        · obtain ⟨rfl, rfl⟩ := c4
          rw [if_pos ⟨rfl, rfl⟩, Prod.mk.injEq] at hv'
          obtain ⟨e1, e2⟩ := hv'
          obtain ⟨rfl, rfl, rfl⟩ := self e2
          exact rpair_4 _ _ _ _ _ _ w hL ha _ _ _ (Lib.hid e1)
        · rw [if_neg c4, Prod.mk.injEq] at hv'
          obtain ⟨e1, e2⟩ := hv'
          obtain ⟨rfl, rfl, rfl⟩ := self e1
          obtain ⟨rfl, rfl, rfl⟩ := self e2
          by_cases x1 : x = 1
          · have y1 : y = 1 := by omega
            subst x1 y1
            exact rpair_5 _ _ _ _ _ _ w hL
          · have y1 : y ≠ 1 := by omega
            by_cases x2 : x = 2
            · subst x2
              by_cases y2 : y = 2
              · subst y2
                exact rpair_6 _ _ _ _ _ _ w hL
              · exact rpair_7 y _ _ _ _ _ _ w hL (by omega) y1 y2
            · by_cases y2 : y = 2
              · subst y2
                exact rpair_8 x _ _ _ _ _ _ w hL (by omega) x1 x2
              · exact rpair_9 x y _ _ _ _ _ _ w hL x1 x2 y1 y2

end Go.Proofs.YthdpgekjbkpomaaGreatDoor
