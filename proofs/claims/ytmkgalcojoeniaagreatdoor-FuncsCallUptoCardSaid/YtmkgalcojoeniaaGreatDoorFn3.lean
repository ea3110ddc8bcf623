/- Walks: one's functions, abs (package funcs). -/
import Derived.Test.YtmkgalcojoeniaaGreatDoorFnA
import Derived.Test.YtmkgalcojoeniaaGreatDoorCalcU
import Derived.Deep.RegionHeld3
set_option maxRecDepth 100000
set_option linter.unusedVariables false
set_option linter.unusedSimpArgs false
namespace Go.Proofs.YtmkgalcojoeniaaGreatDoor
open Go.RowKit
attribute [local go_sem] run_store_fn run_store_nofn

theorem below_put3 {B : Nat} {w W : World} {g : Nat} {a b c : Value} (h : Below B w W) (hg : B ≤ g) : Below B w (((W.setCell ⟨g, 0, none⟩ a).setCell ⟨g, 1, none⟩ b).setCell ⟨g, 2, none⟩ c) := ((h.setCell hg _).setCell hg _).setCell hg _
theorem heap_put3 {W : World} {g : Nat} {x y z a b c : Value} {t : TypeId} (h : W.heap[g]? = some (.cells #[x, y, z] t (0, 0))) : (((W.setCell ⟨g, 0, none⟩ a).setCell ⟨g, 1, none⟩ b).setCell ⟨g, 2, none⟩ c).heap[g]? = some (.cells #[a, b, c] t (0, 0)) := by
  have e : ∀ (W : World) (cs : Array Value) (i : Nat) (v : Value), W.heap[g]? = some (.cells cs t (0, 0)) → (W.setCell ⟨g, i, none⟩ v).heap[g]? = some (.cells (cs.setIfInBounds i v) t (0, 0)) := by
    intro W cs i v h
    show (W.heap.modify g _)[g]? = _
    rw [Array.getElem?_modify, if_pos rfl, h]
    rfl
  exact e _ _ _ _ (e _ _ _ _ (e _ _ _ _ h))
theorem cells3o {w : World} {g : Nat} {t : TypeId} {a b c : Value} (h : w.heap[g]? = some (.cells #[a, b, c] t (0, 0))) :
    w.cell? ⟨g, 0, none⟩ = some a ∧ w.cell? ⟨g, 1, none⟩ = some b ∧ w.cell? ⟨g, 2, none⟩ = some c ∧ w.frozen? ⟨g, 0, none⟩ = false ∧ w.frozen? ⟨g, 1, none⟩ = false ∧ w.frozen? ⟨g, 2, none⟩ = false := by
  refine ⟨cell_of_row w g 0 _ t _ h, cell_of_row w g 1 _ t _ h, cell_of_row w g 2 _ t _ h, ?_, ?_, ?_⟩ <;> simp [World.frozen?, h]

set_option maxHeartbeats 1000000 in
theorem one1_any (fid : Nat) (eg : ∀ args w, (callFunc fid args).run Tryz.prog w = .ok (.enter fid args) w) (c : Int) (B b off N cap : Nat) (k n : Int) (t : ByteArray) (k2 n2 : Int) (t2 : ByteArray) (w : World) (hB : Boxed w B 76 (.func (.func fid) #[] #[])) (c0 : w.cell? ⟨b, off, none⟩ = some (.int .i64 k)) (c1 : w.cell? ⟨b, off + 1, none⟩ = some (.int .i64 n)) (c2 : w.cell? ⟨b, off + 2, none⟩ = some (.string t)) (hbl : b < w.heap.size) (hN : 0 < N)
    (hdo : ∀ W, Below w.heap.size w W → Calls Tryz.prog fid #[.agg #[.int .i64 k, .int .i64 n, .string t]] W (VRet k2 n2 t2 W)) :
    Calls Tryz.prog 126 #[.int .i64 c, .slice (some ⟨b, off, none⟩) N cap, .pointer (some ⟨B, 0, none⟩)] w (VRet k2 n2 t2 w) := by
  have i0 : (0 : Int) < (N : Int) := by omega
  have hlB := hB.lt
  go_enter Tryz.func126, Tryz.ntmps126
  go_wp2_with fail
  have hb0 : Below w.heap.size w (w.alloc (.cells #[.int .i64 0, .int .i64 0, .string ⟨#[]⟩] 25)).drew := ((Below.refl _ w).alloc (Nat.le_refl _) _).drew
  have hh0 : (w.alloc (.cells #[.int .i64 0, .int .i64 0, .string ⟨#[]⟩] 25)).drew.heap[w.heap.size]? = some (.cells #[.int .i64 0, .int .i64 0, .string ⟨#[]⟩] 25 (0, 0)) := heap_new w _
  have hz0 : w.heap.size < (w.alloc (.cells #[.int .i64 0, .int .i64 0, .string ⟨#[]⟩] 25)).drew.heap.size := by simp [World.drew]
  obtain ⟨W1, hW1⟩ : ∃ W1, (w.alloc (.cells #[.int .i64 0, .int .i64 0, .string ⟨#[]⟩] 25)).drew = W1 := ⟨_, rfl⟩
  rw [hW1] at hb0 hh0 hz0
  refine wp_region_held_drew (S := (fun W => w.heap.size < W.heap.size ∧ Below w.heap.size w W ∧ ∃ x y z, W.heap[w.heap.size]? = some (.cells #[x, y, z] 25 (0, 0)))) (by kernel_rfl) ?_ (fun hH => ?_)
  · rw [hW1]; exact ⟨hz0, hb0, _, _, _, hh0⟩
  rw [hW1] at hH ⊢
  clear hW1
  refine wpAnyH_take (i := 0) (v := ?_) rfl (by kernel_rfl) (by kernel_rfl) (by kernel_rfl) (fun _ _ _ h => h) (Or.inl ⟨by rfl, ?_⟩) hH ?_
  rotate_left
  · (intro W hSw; (try dsimp only at hSw); have z0 := (hSw.2.1.cell (p := ⟨B, 0, none⟩) hlB).trans hB.cell; go_simp; try with_reducible rfl)
  try simp only [List.getElem_toArray, List.getElem_cons_zero, List.getElem_cons_succ, Act.put, List.setIfInBounds_toArray, List.set_cons_zero, List.set_cons_succ]
  refine wpAnyH_take (i := 1) (v := ?_) rfl (by kernel_rfl) (by kernel_rfl) (by kernel_rfl) (fun _ _ _ h => h) (Or.inl ⟨by rfl, ?_⟩) hH ?_
  rotate_left
  · (intro W hSw; (try dsimp only at hSw); go_simp; try with_reducible rfl)
  try simp only [List.getElem_toArray, List.getElem_cons_zero, List.getElem_cons_succ, Act.put, List.setIfInBounds_toArray, List.set_cons_zero, List.set_cons_succ]
  refine wpAnyH_take (i := 2) (v := ?_) rfl (by kernel_rfl) (by kernel_rfl) (by kernel_rfl) (fun _ _ _ h => h) (Or.inl ⟨by rfl, ?_⟩) hH ?_
  rotate_left
  · (intro W hSw; (try dsimp only at hSw); go_simp; try with_reducible rfl)
  try simp only [List.getElem_toArray, List.getElem_cons_zero, List.getElem_cons_succ, Act.put, List.setIfInBounds_toArray, List.set_cons_zero, List.set_cons_succ]
  refine wpAnyH_take (i := 3) (v := ?_) rfl (by kernel_rfl) (by kernel_rfl) (by kernel_rfl) (fun _ _ _ h => h) (Or.inl ⟨by rfl, ?_⟩) hH ?_
  rotate_left
  · (intro W hSw; (try dsimp only at hSw); have z0 := (hSw.2.1.cell (p := ⟨b, _, none⟩) hbl).trans c0; have z1 := (hSw.2.1.cell (p := ⟨b, _, none⟩) hbl).trans c1; have z2 := (hSw.2.1.cell (p := ⟨b, _, none⟩) hbl).trans c2; go_simp; try with_reducible rfl)
  try simp only [List.getElem_toArray, List.getElem_cons_zero, List.getElem_cons_succ, Act.put, List.setIfInBounds_toArray, List.set_cons_zero, List.set_cons_succ]
  refine wpAnyH_ready (rs := [4]) (by kernel_rfl) (by simp) ?_
  refine AllReadyH.cons rfl (fun K hK => ?_) AllReadyH.nil
  go_simp
  refine (hdo _ hH.2.1).mono ?_; rintro e w5 ⟨rfl, hb5⟩
  refine hK.out _ _ ?_ (fun hH2 => ?_)
  · exact ⟨by have := hb5.size; omega, below_step hH.2.1 (Nat.le_of_lt hH.1) hb5, _, _, _, (hb5.block _ hH.1).trans hh0⟩
  clear hK K
  try simp only [List.getElem_toArray, List.getElem_cons_zero, List.getElem_cons_succ, Act.put, List.setIfInBounds_toArray, List.set_cons_zero, List.set_cons_succ]
  obtain ⟨q0, q1, q2, f0, f1, f2⟩ := cells3o ((hb5.block _ hH.1).trans hh0)
  refine wpAnyH_ready (rs := [5]) (by kernel_rfl) (by simp) ?_
  refine AllReadyH.cons rfl (fun K hK => ?_) AllReadyH.nil
  go_simp
  refine hK.out _ _ ?_ (fun hH3 => ?_)
  · exact ⟨by simp [World.setCell]; exact hH2.1, below_put3 hH2.2.1 (Nat.le_refl _), _, _, _, heap_put3 ((hb5.block _ hH.1).trans hh0)⟩
  clear hK K
  try simp only [List.getElem_toArray, List.getElem_cons_zero, List.getElem_cons_succ, Act.put, List.setIfInBounds_toArray, List.set_cons_zero, List.set_cons_succ]
  refine wpAnyH_done (by kernel_rfl) ?_ _
  go_wp2
  exact bodyPost_ret (v := .agg #[.int .i64 k2, .int .i64 n2, .string t2]) (by simp only [results, Tryz.results126]; go_simp) rfl ⟨rfl, below_put3 hH2.2.1 (Nat.le_refl _)⟩

/-- what abs answers -/
def absV (v : Val.V) : Val.V := if 0 ≤ (Val.num v).int then Val.num v else (Val.unary 4 (Val.num v)).1

set_option maxHeartbeats 1000000 in
theorem abs_pos (k n : Int) (t : ByteArray) (k1 n1 : Int) (w : World) (hL : Lits w) (hv : Hid (Val.num ⟨k, n, t.data.toList⟩ = ⟨k1, n1, []⟩)) (h1 : 0 ≤ n1) :
    Calls Tryz.prog 75 #[.agg #[.int .i64 k, .int .i64 n, .string t]] w (VRet k1 n1 ⟨#[]⟩ w) := by
  have hS := start2 w (.int .i64 k) (.int .i64 n) (.string t) (.int .i64 0) (.int .i64 0) (.string ⟨#[]⟩) 25 25
  have b1 : decide (n1 ≥ 0) = true := decide_eq_true h1
  go_enter Tryz.func75, Tryz.ntmps75
  go_wp2_with (go_at_call 127; refine (cnum_is _ _ _ _ ((hL.alloc _).alloc _) _ _ hv).mono ?_; rintro e w1 ⟨rfl, hb1⟩; have hS2 := keep2 (keep2 hS hb1) (below_new w1 (.cells #[.int .i64 k1, .int .i64 n1, .string ⟨#[]⟩] 25)); obtain ⟨ca0, ca1, ca2, ca3, ca4, ca5, ca6, ca7, ca8, ca9, ca10, ca11, hz, hB⟩ := id hS2)
  exact bodyPost_ret (v := .agg #[.int .i64 k1, .int .i64 n1, .string ⟨#[]⟩]) (by simp only [results, Tryz.results75]; go_simp) rfl ⟨rfl, below_setg hB (by omega)⟩

set_option maxHeartbeats 1000000 in
theorem abs_neg (k n : Int) (t : ByteArray) (k1 n1 : Int) (k2 n2 : Int) (t2 : ByteArray) (E : Int) (w : World) (hL : Lits w) (hi : Val.inr n1) (hv : Hid (Val.num ⟨k, n, t.data.toList⟩ = ⟨k1, n1, []⟩)) (h1 : n1 < 0) (hu : Hid (Val.unary 4 ⟨k1, n1, (⟨#[]⟩ : ByteArray).data.toList⟩ = (⟨k2, n2, t2.data.toList⟩, E))) :
    Calls Tryz.prog 75 #[.agg #[.int .i64 k, .int .i64 n, .string t]] w (VRet k2 n2 t2 w) := by
  have hS := start2 w (.int .i64 k) (.int .i64 n) (.string t) (.int .i64 0) (.int .i64 0) (.string ⟨#[]⟩) 25 25
  have b1 : decide (n1 ≥ 0) = false := decide_eq_false (by omega)
  go_enter Tryz.func75, Tryz.ntmps75
  go_wp2_with (first
    | (go_at_call 127; refine (cnum_is _ _ _ _ ((hL.alloc _).alloc _) _ _ hv).mono ?_; rintro e w1 ⟨rfl, hb1⟩; have hL1 := (((hL.alloc _).alloc _).below hb1).alloc (.cells #[.int .i64 k1, .int .i64 n1, .string ⟨#[]⟩] 25); have hS2 := keep2 (keep2 hS hb1) (below_new w1 (.cells #[.int .i64 k1, .int .i64 n1, .string ⟨#[]⟩] 25)))
    | (go_at_call 128; refine (cunary_is 4 _ _ _ _ hL1 hi _ _ _ _ hu).mono ?_; rintro e w2 ⟨rfl, hb2⟩; have hS3 := keep2 (keep2 hS2 hb2) (below_new w2 (.cells #[.int .i64 k2, .int .i64 n2, .string t2] 25)); obtain ⟨ca0, ca1, ca2, ca3, ca4, ca5, ca6, ca7, ca8, ca9, ca10, ca11, hz, hB⟩ := id hS3))
  exact bodyPost_ret (v := .agg #[.int .i64 k2, .int .i64 n2, .string t2]) (by simp only [results, Tryz.results75]; go_simp) rfl ⟨rfl, below_setg hB (by omega)⟩

end Go.Proofs.YtmkgalcojoeniaaGreatDoor
