/- Walks: the law FuncsLike. -/
import Derived.Test.YtmkgalcojoeniaaGreatDoorMatchR
import Derived.Test.YtmkgalcojoeniaaGreatDoorFn4
set_option maxRecDepth 100000
set_option linter.unusedVariables false
set_option linter.unusedSimpArgs false
namespace Go.Proofs.YtmkgalcojoeniaaGreatDoor
open Go.RowKit

def M2 (w W : World) (k1 n1 : Int) (t1 : ByteArray) (k2 n2 : Int) (t2 : ByteArray) : Prop := V3 W w.heap.size k1 n1 t1 ∧ V3 W (w.heap.size + 1) k2 n2 t2 ∧ Below w.heap.size w W
theorem M2.on {w W W' : World} {k1 n1 : Int} {t1 : ByteArray} {k2 n2 : Int} {t2 : ByteArray} (h : M2 w W k1 n1 t1 k2 n2 t2) (hb : Below W.heap.size W W') : M2 w W' k1 n1 t1 k2 n2 t2 := ⟨h.1.on hb, h.2.1.on hb, below_step h.2.2 h.2.2.size hb⟩
theorem matchV_form (AS : List UInt8 → List UInt8) (PS : List UInt8 → List Fit.P) (a b : Val.V) : ∃ k n, matchV AS PS a b = ⟨k, n, []⟩ := by
  unfold matchV
  split
  · exact ⟨_, _, rfl⟩
  · exact ⟨_, _, rfl⟩

set_option maxHeartbeats 4000000 in
theorem funcs_like (ka na : Int) (ta : ByteArray) (kb nb : Int) (tb : ByteArray) (w : World) (ha : Val.inr na) (hb : Val.inr nb) (hL : Lits w) :
    Calls Tryz.prog 6 #[.agg #[.int .i64 ka, .int .i64 na, .string ta], .agg #[.int .i64 kb, .int .i64 nb, .string tb]] w fun e w' => e = .returned (.bool true) ∧ Below w.heap.size w w' := by
  obtain ⟨k, n, hv⟩ := matchV_form (fun l => l.map Txt.lower) (fun l => Fit.like (l.map Txt.lower)) ⟨ka, na, ta.data.toList⟩ ⟨kb, nb, tb.data.toList⟩
  replace hv := Lib.hid hv
  have hS0 : M2 w ((w.alloc (.cells #[.int .i64 ka, .int .i64 na, .string ta] 25)).alloc (.cells #[.int .i64 kb, .int .i64 nb, .string tb] 25)).drew ka na ta kb nb tb := by
    refine ⟨(V3.new w _ _ _).alloc _, ?_, (((Below.refl _ w).alloc (Nat.le_refl _) _).alloc (by simp) _).drew⟩
    have := V3.new (w.alloc (.cells #[.int .i64 ka, .int .i64 na, .string ta] 25)) kb nb tb
    rw [World.size_alloc] at this; exact this
  replace ha := Lib.hid ha
  replace hb := Lib.hid hb
  go_enter Tryz.func6, Tryz.ntmps6
  go_wp2_with fail
  obtain ⟨W1, hW1⟩ : ∃ W, ((w.alloc (.cells #[.int .i64 ka, .int .i64 na, .string ta] 25)).alloc (.cells #[.int .i64 kb, .int .i64 nb, .string tb] 25)).drew = W := ⟨_, rfl⟩
  rw [hW1] at hS0
  refine wp_region_held_drew (S := fun W => M2 w W ka na ta kb nb tb) (by kernel_rfl) ?_ (fun hH => ?_)
  · rw [hW1]; exact hS0
  rw [hW1] at hH ⊢
  clear hW1 hS0
  refine wpAnyH_ready (rs := [0]) (by kernel_rfl) (by simp) ?_
  refine AllReadyH.cons rfl (fun K hK => ?_) AllReadyH.nil
  go_simp
  go_at_call 12; refine (head18_any _ (hL.below hH.2.2)).mono ?_; rintro e w2 ⟨rfl, hb2⟩
  refine hK.out _ _ ?_ (fun hH2 => ?_)
  · exact hH.on hb2
  clear hK K
  try simp only [List.getElem_toArray, List.getElem_cons_zero, List.getElem_cons_succ, Act.put, List.setIfInBounds_toArray, List.set_cons_zero, List.set_cons_succ]
  refine wpAnyH_take (i := 1) (v := ?_) rfl (by kernel_rfl) (by kernel_rfl) (by kernel_rfl) (fun _ _ _ h => h) (Or.inl ⟨by rfl, ?_⟩) hH2 ?_
  rotate_left
  · (intro W hSw; (try dsimp only at hSw); go_simp; try with_reducible rfl)
  try simp only [List.getElem_toArray, List.getElem_cons_zero, List.getElem_cons_succ, Act.put, List.setIfInBounds_toArray, List.set_cons_zero, List.set_cons_succ]
  refine wpAnyH_take (i := 2) (v := ?_) rfl (by kernel_rfl) (by kernel_rfl) (by kernel_rfl) (fun _ _ _ h => h) (Or.inl ⟨by rfl, ?_⟩) hH2 ?_
  rotate_left
  · (intro W hSw; (try dsimp only at hSw); obtain ⟨z0, z1, z2, z3, z4, z5⟩ := hSw.1.cells; obtain ⟨y0, y1, y2, y3, y4, y5⟩ := hSw.2.1.cells; go_simp; try with_reducible rfl)
  try simp only [List.getElem_toArray, List.getElem_cons_zero, List.getElem_cons_succ, Act.put, List.setIfInBounds_toArray, List.set_cons_zero, List.set_cons_succ]
  refine wpAnyH_take (i := 3) (v := ?_) rfl (by kernel_rfl) (by kernel_rfl) (by kernel_rfl) (fun _ _ _ h => h) (Or.inl ⟨by rfl, ?_⟩) hH2 ?_
  rotate_left
  · (intro W hSw; (try dsimp only at hSw); obtain ⟨z0, z1, z2, z3, z4, z5⟩ := hSw.1.cells; obtain ⟨y0, y1, y2, y3, y4, y5⟩ := hSw.2.1.cells; go_simp; try with_reducible rfl)
  try simp only [List.getElem_toArray, List.getElem_cons_zero, List.getElem_cons_succ, Act.put, List.setIfInBounds_toArray, List.set_cons_zero, List.set_cons_succ]
  refine wpAnyH_take (i := 5) (v := ?_) rfl (by kernel_rfl) (by kernel_rfl) (by kernel_rfl) (fun _ _ _ h => h) (Or.inl ⟨by rfl, ?_⟩) hH2 ?_
  rotate_left
  · (intro W hSw; (try dsimp only at hSw); obtain ⟨z0, z1, z2, z3, z4, z5⟩ := hSw.1.cells; obtain ⟨y0, y1, y2, y3, y4, y5⟩ := hSw.2.1.cells; go_simp; try with_reducible rfl)
  try simp only [List.getElem_toArray, List.getElem_cons_zero, List.getElem_cons_succ, Act.put, List.setIfInBounds_toArray, List.set_cons_zero, List.set_cons_succ]
  refine wpAnyH_take (i := 6) (v := ?_) rfl (by kernel_rfl) (by kernel_rfl) (by kernel_rfl) (fun _ _ _ h => h) (Or.inl ⟨by rfl, ?_⟩) hH2 ?_
  rotate_left
  · (intro W hSw; (try dsimp only at hSw); obtain ⟨z0, z1, z2, z3, z4, z5⟩ := hSw.1.cells; obtain ⟨y0, y1, y2, y3, y4, y5⟩ := hSw.2.1.cells; go_simp; try with_reducible rfl)
  try simp only [List.getElem_toArray, List.getElem_cons_zero, List.getElem_cons_succ, Act.put, List.setIfInBounds_toArray, List.set_cons_zero, List.set_cons_succ]
  refine wpAnyH_ready (rs := [4]) (by kernel_rfl) (by simp) ?_
  refine AllReadyH.cons rfl (fun K hK => ?_) AllReadyH.nil
  go_simp
  go_at_call 22; refine (flike_is ka na ta kb nb tb _ (hL.below hH2.2.2) ha.out hb.out k n hv).mono ?_; rintro e w3 ⟨rfl, hb3⟩
  refine hK.out _ _ ?_ (fun hH3 => ?_)
  · exact hH2.on hb3
  clear hK K
  try simp only [List.getElem_toArray, List.getElem_cons_zero, List.getElem_cons_succ, Act.put, List.setIfInBounds_toArray, List.set_cons_zero, List.set_cons_succ]
  refine wpAnyH_ready (rs := [7]) (by kernel_rfl) (by simp) ?_
  refine AllReadyH.cons rfl (fun K hK => ?_) AllReadyH.nil
  go_simp
  go_at_call 23; refine (rmatch_is ka na ta kb nb tb _ (hL.below hH3.2.2) ha.out hb.out k n hv).mono ?_; rintro e w4 ⟨rfl, hb4⟩
  refine hK.out _ _ ?_ (fun hH4 => ?_)
  · exact hH3.on hb4
  clear hK K
  try simp only [List.getElem_toArray, List.getElem_cons_zero, List.getElem_cons_succ, Act.put, List.setIfInBounds_toArray, List.set_cons_zero, List.set_cons_succ]
  refine wpAnyH_take (i := 8) (v := ?_) rfl (by kernel_rfl) (by kernel_rfl) (by kernel_rfl) (fun _ _ _ h => h) (Or.inl ⟨by rfl, ?_⟩) hH4 ?_
  rotate_left
  · (intro W hSw; (try dsimp only at hSw); go_simp; try with_reducible rfl)
  try simp only [List.getElem_toArray, List.getElem_cons_zero, List.getElem_cons_succ, Act.put, List.setIfInBounds_toArray, List.set_cons_zero, List.set_cons_succ]
  refine wpAnyH_take (i := 9) (v := ?_) rfl (by kernel_rfl) (by kernel_rfl) (by kernel_rfl) (fun _ _ _ h => h) (Or.inl ⟨by rfl, ?_⟩) hH4 ?_
  rotate_left
  · (intro W hSw; (try dsimp only at hSw); go_simp; try with_reducible rfl)
  try simp only [List.getElem_toArray, List.getElem_cons_zero, List.getElem_cons_succ, Act.put, List.setIfInBounds_toArray, List.set_cons_zero, List.set_cons_succ]
  refine wpAnyH_take (i := 10) (v := ?_) rfl (by kernel_rfl) (by kernel_rfl) (by kernel_rfl) (fun _ _ _ h => h) (Or.inl ⟨by rfl, ?_⟩) hH4 ?_
  rotate_left
  · (intro W hSw; (try dsimp only at hSw); go_simp; try with_reducible rfl)
  try simp only [List.getElem_toArray, List.getElem_cons_zero, List.getElem_cons_succ, Act.put, List.setIfInBounds_toArray, List.set_cons_zero, List.set_cons_succ]
  refine wpAnyH_done (by kernel_rfl) ?_ _
  go_wp2
  go_ret
  exact ⟨rfl, hH4.2.2⟩

end Go.Proofs.YtmkgalcojoeniaaGreatDoor
