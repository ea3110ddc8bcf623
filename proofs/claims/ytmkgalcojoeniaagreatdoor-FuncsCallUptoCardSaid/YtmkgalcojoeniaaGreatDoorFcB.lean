/- Walks: replace, trim, max and min (package funcs). Walks: the functions that trim (package funcs). Walks: max, min (package funcs). Walks: sum, clip (package funcs). -/
import Derived.Test.YtmkgalcojoeniaaGreatDoorFcA
import Derived.Test.YtmkgalcojoeniaaGreatDoorFitP2
import Derived.Test.YtmkgalcojoeniaaGreatDoorGlobT
import Derived.Deep.CutRange
import Derived.Deep.CutBlock
import Derived.Shelf.Strings.SlTrimAscii
set_option maxRecDepth 100000
set_option linter.unusedVariables false
set_option linter.unusedSimpArgs false
namespace Go.Proofs.YtmkgalcojoeniaaGreatDoor
open Go.RowKit
attribute [local go_sem] run_store_fn run_store_nofn

def Three (w W : World) (b off : Nat) (k n : Int) (t : ByteArray) (k1 n1 : Int) (t1 : ByteArray) (k2 n2 : Int) (t2 : ByteArray) : Prop := VAt W b off k n t ∧ VAt W b (off + 3) k1 n1 t1 ∧ VAt W b (off + 6) k2 n2 t2 ∧ V3 W w.heap.size 0 0 ⟨#[]⟩ ∧ Below w.heap.size w W
theorem Three.on {w W W' : World} {b off : Nat} {k n : Int} {t : ByteArray} {k1 n1 : Int} {t1 : ByteArray} {k2 n2 : Int} {t2 : ByteArray} (h : Three w W b off k n t k1 n1 t1 k2 n2 t2) (hb : Below W.heap.size W W') : Three w W' b off k n t k1 n1 t1 k2 n2 t2 :=
  ⟨h.1.on hb, h.2.1.on hb, h.2.2.1.on hb, h.2.2.2.1.on hb, below_step h.2.2.2.2 h.2.2.2.2.size hb⟩
/-- a text in which another one is replaced -/
def repT (x y z : List UInt8) : List UInt8 := if y = [] then x else Lib.replaceAll x y z
set_option maxHeartbeats 2000000 in
theorem replace_none (c : Int) (b off N cap : Nat) (k n : Int) (t : ByteArray) (k1 n1 : Int) (t1 : ByteArray) (k2 n2 : Int) (t2 : ByteArray) (w : World) (hL : Lits w) (hi : Val.inr n) (hi1 : Val.inr n1) (hi2 : Val.inr n2) (hN : 2 < N) (h0 : VAt w b off k n t) (h1 : VAt w b (off + 3) k1 n1 t1) (h2 : VAt w b (off + 6) k2 n2 t2) (x y z : ByteArray) (hv : Hid (Val.pshow ⟨k, n, t.data.toList⟩ = ⟨2, 0, x.data.toList⟩)) (hv1 : Hid (Val.pshow ⟨k1, n1, t1.data.toList⟩ = ⟨2, 0, y.data.toList⟩)) (hv2 : Hid (Val.pshow ⟨k2, n2, t2.data.toList⟩ = ⟨2, 0, z.data.toList⟩)) (hy0 : y = ⟨#[]⟩) (kr : Int) (r : ByteArray) (hr : Hid (Val.ptext x.data.toList = ⟨kr, 0, r.data.toList⟩)) :
    Calls Tryz.prog 92 #[.int .i64 c, .slice (some ⟨b, off, none⟩) N cap] w (VRet kr 0 r w) := by
  obtain rfl : y = ⟨#[]⟩ := hy0
  have hb0 := below_new w (.cells #[.int .i64 0, .int .i64 0, .string ⟨#[]⟩] 25)
  have n0 : 0 < N := by omega
  have n1' : 1 < N := by omega
  have i0 : (0 : Int) < (N : Int) := by omega
  have i1 : (1 : Int) < (N : Int) := by omega
  have i2 : (2 : Int) < (N : Int) := by omega
  have hT0 : Three w (w.alloc (.cells #[.int .i64 0, .int .i64 0, .string ⟨#[]⟩] 25)).drew b off k n t k1 n1 t1 k2 n2 t2 := by
    have hd : Below w.heap.size w (w.alloc (.cells #[.int .i64 0, .int .i64 0, .string ⟨#[]⟩] 25)).drew := hb0.drew
    exact ⟨h0.on hd, h1.on hd, h2.on hd, V3.new w 0 0 ⟨#[]⟩, hd⟩
  replace hi := Lib.hid hi
  replace hi1 := Lib.hid hi1
  replace hi2 := Lib.hid hi2
  clear h0 h1 h2
  go_enter Tryz.func92, Tryz.ntmps92
  go_wp2_with fail
  obtain ⟨W1, hW1⟩ : ∃ W, (w.alloc (.cells #[.int .i64 0, .int .i64 0, .string ⟨#[]⟩] 25)).drew = W := ⟨_, rfl⟩
  rw [hW1] at hT0
  refine wp_region_held_drew (S := fun W => Three w W b off k n t k1 n1 t1 k2 n2 t2) (by kernel_rfl) ?_ (fun hH => ?_)
  · rw [hW1]; exact hT0
  rw [hW1] at hH ⊢
  clear hW1 hT0 hb0
  refine wpAnyH_take (i := 0) (v := ?_) rfl (by kernel_rfl) (by kernel_rfl) (by kernel_rfl) (fun _ _ _ h => h) (Or.inl ⟨by rfl, ?_⟩) hH ?_
  rotate_left
  · (intro W hSw; (try dsimp only at hSw); go_simp; try with_reducible rfl)
  try simp only [List.getElem_toArray, List.getElem_cons_zero, List.getElem_cons_succ, Act.put, List.setIfInBounds_toArray, List.set_cons_zero, List.set_cons_succ]
  refine wpAnyH_take (i := 1) (v := ?_) rfl (by kernel_rfl) (by kernel_rfl) (by kernel_rfl) (fun _ _ _ h => h) (Or.inl ⟨by rfl, ?_⟩) hH ?_
  rotate_left
  · (intro W hSw; (try dsimp only at hSw); go_simp; try with_reducible rfl)
  try simp only [List.getElem_toArray, List.getElem_cons_zero, List.getElem_cons_succ, Act.put, List.setIfInBounds_toArray, List.set_cons_zero, List.set_cons_succ]
  refine wpAnyH_take (i := 2) (v := ?_) rfl (by kernel_rfl) (by kernel_rfl) (by kernel_rfl) (fun _ _ _ h => h) (Or.inl ⟨by rfl, ?_⟩) hH ?_
  rotate_left
  · (intro W hSw; (try dsimp only at hSw); obtain ⟨z0, z1, z2, z3⟩ := hSw.1; obtain ⟨y0, y1, y2, y3⟩ := hSw.2.1; obtain ⟨x0, x1, x2, x3⟩ := hSw.2.2.1; go_simp; try with_reducible rfl)
  try simp only [List.getElem_toArray, List.getElem_cons_zero, List.getElem_cons_succ, Act.put, List.setIfInBounds_toArray, List.set_cons_zero, List.set_cons_succ]
  refine wpAnyH_take (i := 4) (v := ?_) rfl (by kernel_rfl) (by kernel_rfl) (by kernel_rfl) (fun _ _ _ h => h) (Or.inl ⟨by rfl, ?_⟩) hH ?_
  rotate_left
  · (intro W hSw; (try dsimp only at hSw); go_simp; try with_reducible rfl)
  try simp only [List.getElem_toArray, List.getElem_cons_zero, List.getElem_cons_succ, Act.put, List.setIfInBounds_toArray, List.set_cons_zero, List.set_cons_succ]
  refine wpAnyH_take (i := 5) (v := ?_) rfl (by kernel_rfl) (by kernel_rfl) (by kernel_rfl) (fun _ _ _ h => h) (Or.inl ⟨by rfl, ?_⟩) hH ?_
  rotate_left
  · (intro W hSw; (try dsimp only at hSw); go_simp; try with_reducible rfl)
  try simp only [List.getElem_toArray, List.getElem_cons_zero, List.getElem_cons_succ, Act.put, List.setIfInBounds_toArray, List.set_cons_zero, List.set_cons_succ]
  refine wpAnyH_take (i := 6) (v := ?_) rfl (by kernel_rfl) (by kernel_rfl) (by kernel_rfl) (fun _ _ _ h => h) (Or.inl ⟨by rfl, ?_⟩) hH ?_
  rotate_left
  · (intro W hSw; (try dsimp only at hSw); obtain ⟨z0, z1, z2, z3⟩ := hSw.1; obtain ⟨y0, y1, y2, y3⟩ := hSw.2.1; obtain ⟨x0, x1, x2, x3⟩ := hSw.2.2.1; go_simp; try with_reducible rfl)
  try simp only [List.getElem_toArray, List.getElem_cons_zero, List.getElem_cons_succ, Act.put, List.setIfInBounds_toArray, List.set_cons_zero, List.set_cons_succ]
  refine wpAnyH_take (i := 8) (v := ?_) rfl (by kernel_rfl) (by kernel_rfl) (by kernel_rfl) (fun _ _ _ h => h) (Or.inl ⟨by rfl, ?_⟩) hH ?_
  rotate_left
  · (intro W hSw; (try dsimp only at hSw); go_simp; try with_reducible rfl)
  try simp only [List.getElem_toArray, List.getElem_cons_zero, List.getElem_cons_succ, Act.put, List.setIfInBounds_toArray, List.set_cons_zero, List.set_cons_succ]
  refine wpAnyH_take (i := 9) (v := ?_) rfl (by kernel_rfl) (by kernel_rfl) (by kernel_rfl) (fun _ _ _ h => h) (Or.inl ⟨by rfl, ?_⟩) hH ?_
  rotate_left
  · (intro W hSw; (try dsimp only at hSw); go_simp; try with_reducible rfl)
  try simp only [List.getElem_toArray, List.getElem_cons_zero, List.getElem_cons_succ, Act.put, List.setIfInBounds_toArray, List.set_cons_zero, List.set_cons_succ]
  refine wpAnyH_take (i := 10) (v := ?_) rfl (by kernel_rfl) (by kernel_rfl) (by kernel_rfl) (fun _ _ _ h => h) (Or.inl ⟨by rfl, ?_⟩) hH ?_
  rotate_left
  · (intro W hSw; (try dsimp only at hSw); obtain ⟨z0, z1, z2, z3⟩ := hSw.1; obtain ⟨y0, y1, y2, y3⟩ := hSw.2.1; obtain ⟨x0, x1, x2, x3⟩ := hSw.2.2.1; go_simp; try with_reducible rfl)
  try simp only [List.getElem_toArray, List.getElem_cons_zero, List.getElem_cons_succ, Act.put, List.setIfInBounds_toArray, List.set_cons_zero, List.set_cons_succ]
  refine wpAnyH_ready (rs := [3]) (by kernel_rfl) (by simp) ?_
  refine AllReadyH.cons rfl (fun K hK => ?_) AllReadyH.nil
  go_simp
  go_at_call 83; refine (fbytes_is _ _ _ _ hi.out (hL.below hH.2.2.2.2) _ _ hv).mono ?_; rintro e w2 ⟨rfl, hb2⟩
  refine hK.out _ _ ?_ (fun hH2 => ?_)
  · exact hH.on hb2
  clear hK K
  try simp only [List.getElem_toArray, List.getElem_cons_zero, List.getElem_cons_succ, Act.put, List.setIfInBounds_toArray, List.set_cons_zero, List.set_cons_succ]
  refine wpAnyH_ready (rs := [7]) (by kernel_rfl) (by simp) ?_
  refine AllReadyH.cons rfl (fun K hK => ?_) AllReadyH.nil
  go_simp
  go_at_call 83; refine (fbytes_is _ _ _ _ hi1.out (hL.below hH2.2.2.2.2) 2 ⟨#[]⟩ hv1).mono ?_; rintro e w3 ⟨rfl, hb3⟩
  refine hK.out _ _ ?_ (fun hH3 => ?_)
  · exact hH2.on hb3
  clear hK K
  try simp only [List.getElem_toArray, List.getElem_cons_zero, List.getElem_cons_succ, Act.put, List.setIfInBounds_toArray, List.set_cons_zero, List.set_cons_succ]
  refine wpAnyH_ready (rs := [11]) (by kernel_rfl) (by simp) ?_
  refine AllReadyH.cons rfl (fun K hK => ?_) AllReadyH.nil
  go_simp
  go_at_call 83; refine (fbytes_is _ _ _ _ hi2.out (hL.below hH3.2.2.2.2) _ _ hv2).mono ?_; rintro e w4 ⟨rfl, hb4⟩
  refine hK.out _ _ ?_ (fun hH4 => ?_)
  · exact hH3.on hb4
  clear hK K
  try simp only [List.getElem_toArray, List.getElem_cons_zero, List.getElem_cons_succ, Act.put, List.setIfInBounds_toArray, List.set_cons_zero, List.set_cons_succ]
  refine wpAnyH_take (i := 12) (v := ?_) rfl (by kernel_rfl) (by kernel_rfl) (by kernel_rfl) (fun _ _ _ h => h) (Or.inl ⟨by rfl, ?_⟩) hH4 ?_
  rotate_left
  · (intro W hSw; (try dsimp only at hSw); go_simp; try with_reducible rfl)
  try simp only [List.getElem_toArray, List.getElem_cons_zero, List.getElem_cons_succ, Act.put, List.setIfInBounds_toArray, List.set_cons_zero, List.set_cons_succ]
  refine wpAnyH_take (i := 13) (v := ?_) rfl (by kernel_rfl) (by kernel_rfl) (by kernel_rfl) (fun _ _ _ h => h) (Or.inl ⟨by rfl, ?_⟩) hH4 ?_
  rotate_left
  · (intro W hSw; (try dsimp only at hSw); go_simp; try with_reducible rfl)
  try simp only [List.getElem_toArray, List.getElem_cons_zero, List.getElem_cons_succ, Act.put, List.setIfInBounds_toArray, List.set_cons_zero, List.set_cons_succ]
  refine wpAnyH_take (i := 14) (v := ?_) rfl (by kernel_rfl) (by kernel_rfl) (by kernel_rfl) (fun _ _ _ h => h) (Or.inl ⟨by rfl, ?_⟩) hH4 ?_
  rotate_left
  · (intro W hSw; (try dsimp only at hSw); go_simp; try with_reducible rfl)
  try simp only [List.getElem_toArray, List.getElem_cons_zero, List.getElem_cons_succ, Act.put, List.setIfInBounds_toArray, List.set_cons_zero, List.set_cons_succ]
  refine wpAnyH_done (by kernel_rfl) ?_ _
  go_wp2_with (go_at_call 86; refine (ftext_is _ _ _ _ hr).mono ?_; rintro e w5 ⟨rfl, hb5⟩; have hR := hH4.2.2.2.1.on hb5; obtain ⟨a0, a1, a2, a3, a4, a5⟩ := hR.cells)
  exact bodyPost_ret (v := .agg #[.int .i64 kr, .int .i64 0, .string r]) (by simp only [results, Tryz.results92]; go_simp) rfl ⟨rfl, below_put (below_step hH4.2.2.2.2 hH4.2.2.2.2.size hb5) (Nat.le_refl _)⟩
set_option maxHeartbeats 2000000 in
theorem replace_some (c : Int) (b off N cap : Nat) (k n : Int) (t : ByteArray) (k1 n1 : Int) (t1 : ByteArray) (k2 n2 : Int) (t2 : ByteArray) (w : World) (hL : Lits w) (hi : Val.inr n) (hi1 : Val.inr n1) (hi2 : Val.inr n2) (hN : 2 < N) (h0 : VAt w b off k n t) (h1 : VAt w b (off + 3) k1 n1 t1) (h2 : VAt w b (off + 6) k2 n2 t2) (x y z : ByteArray) (hv : Hid (Val.pshow ⟨k, n, t.data.toList⟩ = ⟨2, 0, x.data.toList⟩)) (hv1 : Hid (Val.pshow ⟨k1, n1, t1.data.toList⟩ = ⟨2, 0, y.data.toList⟩)) (hv2 : Hid (Val.pshow ⟨k2, n2, t2.data.toList⟩ = ⟨2, 0, z.data.toList⟩)) (hy : y.toList.isEmpty = false) (hx : x.size ≤ 400) (hy1 : 1 ≤ y.size) (hz : z.size ≤ 400) (R : ByteArray) (hR : Hid (bs (Lib.replaceAll x.data.toList y.data.toList z.data.toList) = R)) (kr : Int) (r : ByteArray) (hr : Hid (Val.ptext R.data.toList = ⟨kr, 0, r.data.toList⟩)) :
    Calls Tryz.prog 92 #[.int .i64 c, .slice (some ⟨b, off, none⟩) N cap] w (VRet kr 0 r w) := by
  have hb0 := below_new w (.cells #[.int .i64 0, .int .i64 0, .string ⟨#[]⟩] 25)
  have n0 : 0 < N := by omega
  have n1' : 1 < N := by omega
  have i0 : (0 : Int) < (N : Int) := by omega
  have i1 : (1 : Int) < (N : Int) := by omega
  have i2 : (2 : Int) < (N : Int) := by omega
  have hT0 : Three w (w.alloc (.cells #[.int .i64 0, .int .i64 0, .string ⟨#[]⟩] 25)).drew b off k n t k1 n1 t1 k2 n2 t2 := by
    have hd : Below w.heap.size w (w.alloc (.cells #[.int .i64 0, .int .i64 0, .string ⟨#[]⟩] 25)).drew := hb0.drew
    exact ⟨h0.on hd, h1.on hd, h2.on hd, V3.new w 0 0 ⟨#[]⟩, hd⟩
  replace hi := Lib.hid hi
  replace hi1 := Lib.hid hi1
  replace hi2 := Lib.hid hi2
  replace hx := Lib.hid hx
  replace hy1 := Lib.hid hy1
  replace hz := Lib.hid hz
  clear h0 h1 h2
  go_enter Tryz.func92, Tryz.ntmps92
  go_wp2_with fail
  obtain ⟨W1, hW1⟩ : ∃ W, (w.alloc (.cells #[.int .i64 0, .int .i64 0, .string ⟨#[]⟩] 25)).drew = W := ⟨_, rfl⟩
  rw [hW1] at hT0
  refine wp_region_held_drew (S := fun W => Three w W b off k n t k1 n1 t1 k2 n2 t2) (by kernel_rfl) ?_ (fun hH => ?_)
  · rw [hW1]; exact hT0
  rw [hW1] at hH ⊢
  clear hW1 hT0 hb0
  refine wpAnyH_take (i := 0) (v := ?_) rfl (by kernel_rfl) (by kernel_rfl) (by kernel_rfl) (fun _ _ _ h => h) (Or.inl ⟨by rfl, ?_⟩) hH ?_
  rotate_left
  · (intro W hSw; (try dsimp only at hSw); go_simp; try with_reducible rfl)
  try simp only [List.getElem_toArray, List.getElem_cons_zero, List.getElem_cons_succ, Act.put, List.setIfInBounds_toArray, List.set_cons_zero, List.set_cons_succ]
  refine wpAnyH_take (i := 1) (v := ?_) rfl (by kernel_rfl) (by kernel_rfl) (by kernel_rfl) (fun _ _ _ h => h) (Or.inl ⟨by rfl, ?_⟩) hH ?_
  rotate_left
  · (intro W hSw; (try dsimp only at hSw); go_simp; try with_reducible rfl)
  try simp only [List.getElem_toArray, List.getElem_cons_zero, List.getElem_cons_succ, Act.put, List.setIfInBounds_toArray, List.set_cons_zero, List.set_cons_succ]
  refine wpAnyH_take (i := 2) (v := ?_) rfl (by kernel_rfl) (by kernel_rfl) (by kernel_rfl) (fun _ _ _ h => h) (Or.inl ⟨by rfl, ?_⟩) hH ?_
  rotate_left
  · (intro W hSw; (try dsimp only at hSw); obtain ⟨z0, z1, z2, z3⟩ := hSw.1; obtain ⟨y0, y1, y2, y3⟩ := hSw.2.1; obtain ⟨x0, x1, x2, x3⟩ := hSw.2.2.1; go_simp; try with_reducible rfl)
  try simp only [List.getElem_toArray, List.getElem_cons_zero, List.getElem_cons_succ, Act.put, List.setIfInBounds_toArray, List.set_cons_zero, List.set_cons_succ]
  refine wpAnyH_take (i := 4) (v := ?_) rfl (by kernel_rfl) (by kernel_rfl) (by kernel_rfl) (fun _ _ _ h => h) (Or.inl ⟨by rfl, ?_⟩) hH ?_
  rotate_left
  · (intro W hSw; (try dsimp only at hSw); go_simp; try with_reducible rfl)
  try simp only [List.getElem_toArray, List.getElem_cons_zero, List.getElem_cons_succ, Act.put, List.setIfInBounds_toArray, List.set_cons_zero, List.set_cons_succ]
  refine wpAnyH_take (i := 5) (v := ?_) rfl (by kernel_rfl) (by kernel_rfl) (by kernel_rfl) (fun _ _ _ h => h) (Or.inl ⟨by rfl, ?_⟩) hH ?_
  rotate_left
  · (intro W hSw; (try dsimp only at hSw); go_simp; try with_reducible rfl)
  try simp only [List.getElem_toArray, List.getElem_cons_zero, List.getElem_cons_succ, Act.put, List.setIfInBounds_toArray, List.set_cons_zero, List.set_cons_succ]
  refine wpAnyH_take (i := 6) (v := ?_) rfl (by kernel_rfl) (by kernel_rfl) (by kernel_rfl) (fun _ _ _ h => h) (Or.inl ⟨by rfl, ?_⟩) hH ?_
  rotate_left
  · (intro W hSw; (try dsimp only at hSw); obtain ⟨z0, z1, z2, z3⟩ := hSw.1; obtain ⟨y0, y1, y2, y3⟩ := hSw.2.1; obtain ⟨x0, x1, x2, x3⟩ := hSw.2.2.1; go_simp; try with_reducible rfl)
  try simp only [List.getElem_toArray, List.getElem_cons_zero, List.getElem_cons_succ, Act.put, List.setIfInBounds_toArray, List.set_cons_zero, List.set_cons_succ]
  refine wpAnyH_take (i := 8) (v := ?_) rfl (by kernel_rfl) (by kernel_rfl) (by kernel_rfl) (fun _ _ _ h => h) (Or.inl ⟨by rfl, ?_⟩) hH ?_
  rotate_left
  · (intro W hSw; (try dsimp only at hSw); go_simp; try with_reducible rfl)
  try simp only [List.getElem_toArray, List.getElem_cons_zero, List.getElem_cons_succ, Act.put, List.setIfInBounds_toArray, List.set_cons_zero, List.set_cons_succ]
  refine wpAnyH_take (i := 9) (v := ?_) rfl (by kernel_rfl) (by kernel_rfl) (by kernel_rfl) (fun _ _ _ h => h) (Or.inl ⟨by rfl, ?_⟩) hH ?_
  rotate_left
  · (intro W hSw; (try dsimp only at hSw); go_simp; try with_reducible rfl)
  try simp only [List.getElem_toArray, List.getElem_cons_zero, List.getElem_cons_succ, Act.put, List.setIfInBounds_toArray, List.set_cons_zero, List.set_cons_succ]
  refine wpAnyH_take (i := 10) (v := ?_) rfl (by kernel_rfl) (by kernel_rfl) (by kernel_rfl) (fun _ _ _ h => h) (Or.inl ⟨by rfl, ?_⟩) hH ?_
  rotate_left
  · (intro W hSw; (try dsimp only at hSw); obtain ⟨z0, z1, z2, z3⟩ := hSw.1; obtain ⟨y0, y1, y2, y3⟩ := hSw.2.1; obtain ⟨x0, x1, x2, x3⟩ := hSw.2.2.1; go_simp; try with_reducible rfl)
  try simp only [List.getElem_toArray, List.getElem_cons_zero, List.getElem_cons_succ, Act.put, List.setIfInBounds_toArray, List.set_cons_zero, List.set_cons_succ]
  refine wpAnyH_ready (rs := [3]) (by kernel_rfl) (by simp) ?_
  refine AllReadyH.cons rfl (fun K hK => ?_) AllReadyH.nil
  go_simp
  go_at_call 83; refine (fbytes_is _ _ _ _ hi.out (hL.below hH.2.2.2.2) _ _ hv).mono ?_; rintro e w2 ⟨rfl, hb2⟩
  refine hK.out _ _ ?_ (fun hH2 => ?_)
  · exact hH.on hb2
  clear hK K
  try simp only [List.getElem_toArray, List.getElem_cons_zero, List.getElem_cons_succ, Act.put, List.setIfInBounds_toArray, List.set_cons_zero, List.set_cons_succ]
  refine wpAnyH_ready (rs := [7]) (by kernel_rfl) (by simp) ?_
  refine AllReadyH.cons rfl (fun K hK => ?_) AllReadyH.nil
  go_simp
  go_at_call 83; refine (fbytes_is _ _ _ _ hi1.out (hL.below hH2.2.2.2.2) 2 y hv1).mono ?_; rintro e w3 ⟨rfl, hb3⟩
  refine hK.out _ _ ?_ (fun hH3 => ?_)
  · exact hH2.on hb3
  clear hK K
  try simp only [List.getElem_toArray, List.getElem_cons_zero, List.getElem_cons_succ, Act.put, List.setIfInBounds_toArray, List.set_cons_zero, List.set_cons_succ]
  refine wpAnyH_ready (rs := [11]) (by kernel_rfl) (by simp) ?_
  refine AllReadyH.cons rfl (fun K hK => ?_) AllReadyH.nil
  go_simp
  go_at_call 83; refine (fbytes_is _ _ _ _ hi2.out (hL.below hH3.2.2.2.2) _ _ hv2).mono ?_; rintro e w4 ⟨rfl, hb4⟩
  refine hK.out _ _ ?_ (fun hH4 => ?_)
  · exact hH3.on hb4
  clear hK K
  try simp only [List.getElem_toArray, List.getElem_cons_zero, List.getElem_cons_succ, Act.put, List.setIfInBounds_toArray, List.set_cons_zero, List.set_cons_succ]
  refine wpAnyH_take (i := 12) (v := ?_) rfl (by kernel_rfl) (by kernel_rfl) (by kernel_rfl) (fun _ _ _ h => h) (Or.inl ⟨by rfl, ?_⟩) hH4 ?_
  rotate_left
  · (intro W hSw; (try dsimp only at hSw); go_simp; try with_reducible rfl)
  try simp only [List.getElem_toArray, List.getElem_cons_zero, List.getElem_cons_succ, Act.put, List.setIfInBounds_toArray, List.set_cons_zero, List.set_cons_succ]
  refine wpAnyH_take (i := 13) (v := ?_) rfl (by kernel_rfl) (by kernel_rfl) (by kernel_rfl) (fun _ _ _ h => h) (Or.inl ⟨by rfl, ?_⟩) hH4 ?_
  rotate_left
  · (intro W hSw; (try dsimp only at hSw); go_simp; try with_reducible rfl)
  try simp only [List.getElem_toArray, List.getElem_cons_zero, List.getElem_cons_succ, Act.put, List.setIfInBounds_toArray, List.set_cons_zero, List.set_cons_succ]
  refine wpAnyH_take (i := 14) (v := ?_) rfl (by kernel_rfl) (by kernel_rfl) (by kernel_rfl) (fun _ _ _ h => h) (Or.inl ⟨by rfl, ?_⟩) hH4 ?_
  rotate_left
  · (intro W hSw; (try dsimp only at hSw); go_simp; try with_reducible rfl)
  try simp only [List.getElem_toArray, List.getElem_cons_zero, List.getElem_cons_succ, Act.put, List.setIfInBounds_toArray, List.set_cons_zero, List.set_cons_succ]
  refine wpAnyH_done (by kernel_rfl) ?_ _
  go_wp2_with (first
    | (go_at_call 93; refine (sreplace_any _ _ _ _ (hL.below hH4.2.2.2.2).maxl hx.out hy1.out hz.out _ hR).mono ?_; rintro e w5 ⟨rfl, hb5⟩; have hH5 := hH4.on hb5)
    | (go_at_call 86; refine (ftext_is _ _ _ _ hr).mono ?_; rintro e w6 ⟨rfl, hb6⟩; have hR := hH5.2.2.2.1.on hb6; obtain ⟨a0, a1, a2, a3, a4, a5⟩ := hR.cells))
  exact bodyPost_ret (v := .agg #[.int .i64 kr, .int .i64 0, .string r]) (by simp only [results, Tryz.results92]; go_simp) rfl ⟨rfl, below_put (below_step hH5.2.2.2.2 hH5.2.2.2.2.size hb6) (Nat.le_refl _)⟩

end Go.Proofs.YtmkgalcojoeniaaGreatDoor

namespace Go.Proofs.YtmkgalcojoeniaaGreatDoor
open Go.RowKit
attribute [local go_sem] run_store_fn run_store_nofn

/-- a text without bytes at its beginning -/
def trimL (cut : List UInt8) : List UInt8 → List UInt8
  | [] => []
  | c :: l => if Fit.inT cut c = true then trimL cut l else c :: l
def trimR (cut l : List UInt8) : List UInt8 := (trimL cut l.reverse).reverse
theorem trimR_snoc (cut l : List UInt8) (c : UInt8) : trimR cut (l ++ [c]) = if Fit.inT cut c = true then trimR cut l else l ++ [c] := by
  unfold trimR
  rw [List.reverse_append, List.reverse_singleton, List.singleton_append, trimL]
  split <;> simp
theorem trimL_len (cut l : List UInt8) : (trimL cut l).length ≤ l.length := by
  induction l with
  | nil => simp [trimL]
  | cons c l ih => rw [trimL]; split <;> simp <;> omega
theorem trimR_len (cut l : List UInt8) : (trimR cut l).length ≤ l.length := by
  unfold trimR; rw [List.length_reverse]; have := trimL_len cut l.reverse; rw [List.length_reverse] at this; exact this
def trimT (cut : List UInt8) (left right : Bool) (l : List UInt8) : List UInt8 := let m := if left = true then trimL cut l else l; if right = true then trimR cut m else m
theorem indexByte_in (l : List UInt8) (c : UInt8) : decide (Lib.indexByte l c ≥ 0) = Fit.inT l c := by
  induction l with
  | nil => rfl
  | cons b l ih =>
    have hg := Lib.indexByte_ge l c
    unfold Lib.indexByte Fit.inT
    rw [List.any_cons]
    by_cases e : b = c
    · simp [e]
    · have e' : (b == c) = false := by simpa using e
      rw [e', Bool.false_or]
      have ih' : decide (Lib.indexByte l c ≥ 0) = l.any (· == c) := ih
      rw [← ih', if_neg (by simp)]
      by_cases h1 : Lib.indexByte l c = -1
      · simp [h1]
      · rw [if_neg (by simpa using h1)]
        rw [Bool.eq_iff_iff, decide_eq_true_iff, decide_eq_true_iff]; omega
theorem sbyte_any (cut : ByteArray) (c : UInt8) (w : World) (b : Bool) (hb : Hid (Fit.inT cut.data.toList c = b)) : Calls Tryz.prog 132 #[.string cut, .int .u8 (c.toNat : Int)] w fun e w' => ∃ r : Int, e = .returned (.int .i64 r) ∧ decide (r ≥ 0) = b ∧ w = w' := by
  refine (Tryz.strings_IndexByte cut (c.toNat : Int) w).mono fun e w' ⟨he, hw⟩ => ⟨_, he, ?_, hw.symm⟩
  have : ((c.toNat : Int)).toNat.toUInt8 = c := by simp
  rw [this, indexByte_in]; exact hb.out
theorem lastB (q : ByteArray) (h : 0 < q.size) : q.data.toList = (q.extract 0 (q.size - 1)).data.toList ++ [q[q.size - 1]] := by
  have hl : q.data.toList.length = q.size := rfl
  have h' : q.size - 1 < q.data.toList.length := by omega
  rw [Lib.extract_data]
  have e := List.take_succ_eq_append_getElem h'
  rw [List.take_of_length_le (by omega)] at e
  simp only [Nat.sub_zero, List.drop_zero]
  exact e

theorem dropB1' (q : ByteArray) (h : 0 < q.size) : q.data.toList = q[0] :: q.data.toList.drop 1 := by
  have := dropB1 q 0 h
  rwa [List.drop_zero] at this
def strSize' : Value → Nat
  | .string s => s.size
  | _ => 0
set_option maxHeartbeats 8000000 in
theorem trim_one (left right : Bool) (c : Int) (b off cap : Nat) (k n : Int) (t : ByteArray) (Bl Br : Nat) (w : World) (hL : Lits w) (hi : Val.inr n) (h0 : VAt w b off k n t) (hl : Boxed w Bl 4 (.bool left)) (hr : Boxed w Br 4 (.bool right)) (s : ByteArray) (hs : s.size ≤ 400) (hv : Hid (Val.pshow ⟨k, n, t.data.toList⟩ = ⟨2, 0, s.data.toList⟩)) (R : ByteArray) (hR : Hid (bs (trimT [32] left right s.data.toList) = R)) :
    Calls Tryz.prog 131 #[.int .i64 c, .slice (some ⟨b, off, none⟩) 1 cap, .pointer (some ⟨Bl, 0, none⟩), .pointer (some ⟨Br, 0, none⟩)] w (VRet 2 0 R w) := by
  have hb0 := below_new w (.cells #[.int .i64 0, .int .i64 0, .string ⟨#[]⟩] 25)
  have hR0 := V3.new w 0 0 ⟨#[]⟩
  have hv0 := h0.on hb0
  have hl0 := hl.alloc (.cells #[.int .i64 0, .int .i64 0, .string ⟨#[]⟩] 25)
  have hr0 := hr.alloc (.cells #[.int .i64 0, .int .i64 0, .string ⟨#[]⟩] 25)
  obtain ⟨c0, c1, c2, hbl⟩ := id hv0
  obtain ⟨m, hm⟩ : ∃ m, (if left = true then trimL [32] s.data.toList else s.data.toList) = m := ⟨_, rfl⟩
  have hRR : (if right = true then trimR [32] m else m) = R.data.toList := by have := congrArg (fun x : ByteArray => x.data.toList) hR.out; simp only [trimT, hm] at this; exact this
  have hml : m.length ≤ 400 := by rw [← hm]; split <;> first | (have := trimL_len [32] s.data.toList; have e : s.data.toList.length = s.size := rfl; omega) | exact hs
  have hRl : R.data.toList.length ≤ 400 := by rw [← hRR]; split <;> first | (have := trimR_len [32] m; omega) | exact hml
  have hx : Val.ptext R.data.toList = ⟨2, 0, R.data.toList⟩ := by unfold Val.ptext; rw [if_neg (by omega)]
  replace hi := Lib.hid hi
  replace hx := Lib.hid hx
  replace hRR := Lib.hid hRR
  replace hm := Lib.hid hm
  replace hml := Lib.hid hml
  replace hs := Lib.hid hs
  clear hRl hR h0 hl hr
  go_enter Tryz.func131, Tryz.ntmps131
  go_upto_block 0 with (go_at_call 83; refine (fbytes_is _ _ _ _ hi.out (hL.alloc _) _ _ hv).mono ?_; rintro e WE ⟨rfl, hbE⟩; have hlE := boxed_on hl0 hbE; have hrE := boxed_on hr0 hbE; have hRE := hR0.on hbE; have hBE := below_step hb0 hb0.size hbE)
  clear c0 c1 c2
  obtain ⟨cl, fl⟩ : _ ∧ _ := ⟨hlE.cell, hlE.frozen⟩
  obtain ⟨cr, fr⟩ : _ ∧ _ := ⟨hrE.cell, hrE.frozen⟩
  go_cut [8] from 20 to 33 (fun sv W => sv = .string (bs m) ∧ W = WE)
  case first =>
    go_wp2_with fail
    go_loop [8] (fun sv => ∃ q : ByteArray, sv = .string q ∧ q.size ≤ 400 ∧ Hid ((if left = true then trimL [32] q.data.toList else q.data.toList) = m)) (fun sv => strSize' sv)
    case atStart => exact ⟨s, by go_num, hs.out, hm⟩
    case round =>
      obtain ⟨q, rfl, hq4, hq⟩ := hrel
      cases left with
      | false =>
        have hqm : q = bs m := by rw [← hq.out, if_neg (by simp), bs_of]
        replace hqm := Lib.hid hqm
        go_wp2
        go_meet
        exact ⟨by rw [hqm.out], rfl⟩
      | true =>
        have hq' := hq.out
        rw [if_pos rfl] at hq'
        by_cases h1 : 0 < q.size
        · have hd := dropB1 q 0 h1
          rw [List.drop_zero] at hd
          have hne : q.toList.isEmpty = false := by rw [Lib.toList_data, hd]; rfl
          have n0 : (0 : Int) ≤ 0 := by omega
          have n1 : (0 : Int) < (q.size : Int) := by omega
          have s1 : (1 : Int) ≤ (q.size : Int) := by omega
          have s2 : 1 ≤ q.size := h1
          rw [hd, trimL] at hq'
          cases hin : Fit.inT [32] q[0] with
          | true =>
            rw [if_pos hin] at hq'
            have hq2 : (if true = true then trimL [32] (q.extract 1 q.size).data.toList else (q.extract 1 q.size).data.toList) = m := by rw [if_pos rfl, tail_data]; exact hq'
            replace hq2 := Lib.hid hq2
            replace hin := Lib.hid hin
            clear hd hq' hq
            go_wp2_with (go_at_call 132; refine (sbyte_any ⟨#[32]⟩ _ _ _ hin).mono ?_; rintro e wx ⟨rr, rfl, hrr, rfl⟩)
            go_round
            case rel => exact ⟨q.extract 1 q.size, by go_num, by simp; omega, hq2⟩
            case measure => simp [strSize']; omega
          | false =>
            rw [if_neg (by rw [hin]; simp), ← List.drop_zero (l := q.data.toList)] at hq'
            have hqm : q = bs m := by
              have e2 : q.data.toList = m := by rw [hd, ← hq']; rfl
              rw [← e2, bs_of]
            replace hqm := Lib.hid hqm
            replace hin := Lib.hid hin
            clear hd hq' hq
            go_wp2_with (go_at_call 132; refine (sbyte_any ⟨#[32]⟩ _ _ _ hin).mono ?_; rintro e wx ⟨rr, rfl, hrr, rfl⟩)
            go_meet
            exact ⟨by rw [hqm.out], rfl⟩
        · have he : q = ⟨#[]⟩ := by
            have : q.data.toList = [] := List.eq_nil_of_length_eq_zero (by have : q.data.toList.length = q.size := rfl; omega)
            rw [← bs_of q, this]; rfl
          subst he
          have hqm : (⟨#[]⟩ : ByteArray) = bs m := by rw [← hq']; rfl
          replace hqm := Lib.hid hqm
          go_wp2
          go_meet
          exact ⟨by rw [← hqm.out], rfl⟩
  case rest =>
  obtain ⟨rfl, hwc⟩ := hcut
  subst hwc
  go_upto_block 2 with fail
  go_cut [8] from 34 to 53 (fun sv W => sv = .string R ∧ W = wc)
  case first =>
    go_wp2_with fail
    go_loop [8] (fun sv => ∃ q : ByteArray, sv = .string q ∧ q.size ≤ 400 ∧ Hid ((if right = true then trimR [32] q.data.toList else q.data.toList) = R.data.toList)) (fun sv => strSize' sv)
    case atStart => exact ⟨bs m, by go_num, hml.out, hRR⟩
    case round =>
      obtain ⟨q, rfl, hq4, hq⟩ := hrel
      cases right with
      | false =>
        have hqm : q = R := by rw [← bs_of R, ← hq.out, if_neg (by simp), bs_of]
        replace hqm := Lib.hid hqm
        go_wp2
        go_meet
        exact ⟨by rw [hqm.out], rfl⟩
      | true =>
        have hq' := hq.out
        rw [if_pos rfl] at hq'
        by_cases h1 : 0 < q.size
        · have hd := lastB q h1
          have hne : q.toList.isEmpty = false := by rw [Lib.toList_data, dropB1' q h1]; rfl
          have n0 : (0 : Int) ≤ (q.size : Int) - 1 := by omega
          have n1 : (q.size : Int) - 1 < (q.size : Int) := by omega
          have n2 : ((q.size : Int) - 1).toNat = q.size - 1 := by omega
          have n3 : (q.size : Int) - 1 ≤ (q.size : Int) := by omega
          have n4 : q.size - 1 ≤ q.size := by omega
          have n5 : q.size - 1 < q.size := by omega
          have hwr : IntKind.i64.wrap ((q.size : Int) - 1) = (q.size : Int) - 1 := by rw [IntKind.wrap_i64]; omega
          rw [hd, trimR_snoc] at hq'
          cases hin : Fit.inT [32] q[q.size - 1] with
          | true =>
            rw [if_pos hin] at hq'
            have hq2 : (if true = true then trimR [32] (q.extract 0 (q.size - 1)).data.toList else (q.extract 0 (q.size - 1)).data.toList) = R.data.toList := by rw [if_pos rfl]; exact hq'
            replace hq2 := Lib.hid hq2
            replace hin := Lib.hid hin
            clear hd hq' hq
            go_wp2_with (go_at_call 132; refine (sbyte_any ⟨#[32]⟩ _ _ _ hin).mono ?_; rintro e wx ⟨rr, rfl, hrr, rfl⟩)
            go_round
            case rel => exact ⟨q.extract 0 (q.size - 1), by go_num, by simp; omega, hq2⟩
            case measure => simp [strSize']; omega
          | false =>
            rw [if_neg (by rw [hin]; simp), ← hd] at hq'
            have hqm : q = R := by rw [← bs_of q, hq', bs_of]
            replace hqm := Lib.hid hqm
            replace hin := Lib.hid hin
            clear hd hq' hq
            go_wp2_with (go_at_call 132; refine (sbyte_any ⟨#[32]⟩ _ _ _ hin).mono ?_; rintro e wx ⟨rr, rfl, hrr, rfl⟩)
            go_meet
            exact ⟨by rw [hqm.out], rfl⟩
        · have he : q = ⟨#[]⟩ := by
            have : q.data.toList = [] := List.eq_nil_of_length_eq_zero (by have : q.data.toList.length = q.size := rfl; omega)
            rw [← bs_of q, this]; rfl
          subst he
          have hqm : (⟨#[]⟩ : ByteArray) = R := by rw [← bs_of R, ← hq']; rfl
          replace hqm := Lib.hid hqm
          go_wp2
          go_meet
          exact ⟨by rw [← hqm.out], rfl⟩
  case rest =>
  obtain ⟨rfl, hwc⟩ := hcut
  subst hwc
  go_wp2_with (go_at_call 86; refine (ftext_is _ _ _ _ hx).mono ?_; rintro e w5 ⟨rfl, hb5⟩; have hR5 := hRE.on hb5; obtain ⟨a0, a1, a2, a3, a4, a5⟩ := hR5.cells)
  exact bodyPost_ret (v := .agg #[.int .i64 2, .int .i64 0, .string R]) (by simp only [results, Tryz.results131]; go_simp) rfl ⟨rfl, below_put (below_step hBE hBE.size hb5) (Nat.le_refl _)⟩
set_option maxHeartbeats 8000000 in
theorem trim_two (left right : Bool) (c : Int) (b off cap : Nat) (k n : Int) (t : ByteArray) (Bl Br : Nat) (w : World) (hL : Lits w) (hi : Val.inr n) (h0 : VAt w b off k n t) (hl : Boxed w Bl 4 (.bool left)) (hr : Boxed w Br 4 (.bool right)) (s : ByteArray) (cut : ByteArray) (hs : s.size ≤ 400) (hv : Hid (Val.pshow ⟨k, n, t.data.toList⟩ = ⟨2, 0, s.data.toList⟩)) (k1 n1 : Int) (t1 : ByteArray) (hi1 : Val.inr n1) (h1 : VAt w b (off + 3) k1 n1 t1) (hv1 : Hid (Val.pshow ⟨k1, n1, t1.data.toList⟩ = ⟨2, 0, cut.data.toList⟩)) (R : ByteArray) (hR : Hid (bs (trimT cut.data.toList left right s.data.toList) = R)) :
    Calls Tryz.prog 131 #[.int .i64 c, .slice (some ⟨b, off, none⟩) 2 cap, .pointer (some ⟨Bl, 0, none⟩), .pointer (some ⟨Br, 0, none⟩)] w (VRet 2 0 R w) := by
  have hb0 := below_new w (.cells #[.int .i64 0, .int .i64 0, .string ⟨#[]⟩] 25)
  have hR0 := V3.new w 0 0 ⟨#[]⟩
  have hv0 := h0.on hb0
  have hl0 := hl.alloc (.cells #[.int .i64 0, .int .i64 0, .string ⟨#[]⟩] 25)
  have hr0 := hr.alloc (.cells #[.int .i64 0, .int .i64 0, .string ⟨#[]⟩] 25)
  obtain ⟨c0, c1, c2, hbl⟩ := id hv0
  obtain ⟨d0, d1, d2, d3⟩ := h1.on hb0
  replace hi1 := Lib.hid hi1
  obtain ⟨m, hm⟩ : ∃ m, (if left = true then trimL cut.data.toList s.data.toList else s.data.toList) = m := ⟨_, rfl⟩
  have hRR : (if right = true then trimR cut.data.toList m else m) = R.data.toList := by have := congrArg (fun x : ByteArray => x.data.toList) hR.out; simp only [trimT, hm] at this; exact this
  have hml : m.length ≤ 400 := by rw [← hm]; split <;> first | (have := trimL_len cut.data.toList s.data.toList; have e : s.data.toList.length = s.size := rfl; omega) | exact hs
  have hRl : R.data.toList.length ≤ 400 := by rw [← hRR]; split <;> first | (have := trimR_len cut.data.toList m; omega) | exact hml
  have hx : Val.ptext R.data.toList = ⟨2, 0, R.data.toList⟩ := by unfold Val.ptext; rw [if_neg (by omega)]
  replace hi := Lib.hid hi
  replace hx := Lib.hid hx
  replace hRR := Lib.hid hRR
  replace hm := Lib.hid hm
  replace hml := Lib.hid hml
  replace hs := Lib.hid hs
  clear hRl hR h0 hl hr
  go_enter Tryz.func131, Tryz.ntmps131
  go_upto_block 0 with (go_at_call 83; first | (have hqq := hbC; refine (fbytes_is _ _ _ _ hi.out hLC _ _ hv).mono ?_; rintro e WE ⟨rfl, hbE⟩; have hlE := boxed_on hlC hbE; have hrE := boxed_on hrC hbE; have hRE := hRC.on hbE; have hBE := below_step hBC hBC.size hbE) | (refine (fbytes_is _ _ _ _ hi1.out (hL.alloc _) _ _ hv1).mono ?_; rintro e WC ⟨rfl, hbC⟩; have hlC := boxed_on hl0 hbC; have hrC := boxed_on hr0 hbC; have hRC := hR0.on hbC; have hBC := below_step hb0 hb0.size hbC; have hLC := (hL.alloc _).below hbC; obtain ⟨c0, c1, c2, hbl⟩ := id (hv0.on hbC)))
  clear c0 c1 c2
  obtain ⟨cl, fl⟩ : _ ∧ _ := ⟨hlE.cell, hlE.frozen⟩
  obtain ⟨cr, fr⟩ : _ ∧ _ := ⟨hrE.cell, hrE.frozen⟩
  go_cut [8] from 20 to 33 (fun sv W => sv = .string (bs m) ∧ W = WE)
  case first =>
    go_wp2_with fail
    go_loop [8] (fun sv => ∃ q : ByteArray, sv = .string q ∧ q.size ≤ 400 ∧ Hid ((if left = true then trimL cut.data.toList q.data.toList else q.data.toList) = m)) (fun sv => strSize' sv)
    case atStart => exact ⟨s, by go_num, hs.out, hm⟩
    case round =>
      obtain ⟨q, rfl, hq4, hq⟩ := hrel
      cases left with
      | false =>
        have hqm : q = bs m := by rw [← hq.out, if_neg (by simp), bs_of]
        replace hqm := Lib.hid hqm
        go_wp2
        go_meet
        exact ⟨by rw [hqm.out], rfl⟩
      | true =>
        have hq' := hq.out
        rw [if_pos rfl] at hq'
        by_cases h1 : 0 < q.size
        · have hd := dropB1 q 0 h1
          rw [List.drop_zero] at hd
          have hne : q.toList.isEmpty = false := by rw [Lib.toList_data, hd]; rfl
          have n0 : (0 : Int) ≤ 0 := by omega
          have n1 : (0 : Int) < (q.size : Int) := by omega
          have s1 : (1 : Int) ≤ (q.size : Int) := by omega
          have s2 : 1 ≤ q.size := h1
          rw [hd, trimL] at hq'
          cases hin : Fit.inT cut.data.toList q[0] with
          | true =>
            rw [if_pos hin] at hq'
            have hq2 : (if true = true then trimL cut.data.toList (q.extract 1 q.size).data.toList else (q.extract 1 q.size).data.toList) = m := by rw [if_pos rfl, tail_data]; exact hq'
            replace hq2 := Lib.hid hq2
            replace hin := Lib.hid hin
            clear hd hq' hq
            go_wp2_with (go_at_call 132; refine (sbyte_any cut _ _ _ hin).mono ?_; rintro e wx ⟨rr, rfl, hrr, rfl⟩)
            go_round
            case rel => exact ⟨q.extract 1 q.size, by go_num, by simp; omega, hq2⟩
            case measure => simp [strSize']; omega
          | false =>
            rw [if_neg (by rw [hin]; simp), ← List.drop_zero (l := q.data.toList)] at hq'
            have hqm : q = bs m := by
              have e2 : q.data.toList = m := by rw [hd, ← hq']; rfl
              rw [← e2, bs_of]
            replace hqm := Lib.hid hqm
            replace hin := Lib.hid hin
            clear hd hq' hq
            go_wp2_with (go_at_call 132; refine (sbyte_any cut _ _ _ hin).mono ?_; rintro e wx ⟨rr, rfl, hrr, rfl⟩)
            go_meet
            exact ⟨by rw [hqm.out], rfl⟩
        · have he : q = ⟨#[]⟩ := by
            have : q.data.toList = [] := List.eq_nil_of_length_eq_zero (by have : q.data.toList.length = q.size := rfl; omega)
            rw [← bs_of q, this]; rfl
          subst he
          have hqm : (⟨#[]⟩ : ByteArray) = bs m := by rw [← hq']; rfl
          replace hqm := Lib.hid hqm
          go_wp2
          go_meet
          exact ⟨by rw [← hqm.out], rfl⟩
  case rest =>
  obtain ⟨rfl, hwc⟩ := hcut
  subst hwc
  go_upto_block 2 with fail
  go_cut [8] from 34 to 53 (fun sv W => sv = .string R ∧ W = wc)
  case first =>
    go_wp2_with fail
    go_loop [8] (fun sv => ∃ q : ByteArray, sv = .string q ∧ q.size ≤ 400 ∧ Hid ((if right = true then trimR cut.data.toList q.data.toList else q.data.toList) = R.data.toList)) (fun sv => strSize' sv)
    case atStart => exact ⟨bs m, by go_num, hml.out, hRR⟩
    case round =>
      obtain ⟨q, rfl, hq4, hq⟩ := hrel
      cases right with
      | false =>
        have hqm : q = R := by rw [← bs_of R, ← hq.out, if_neg (by simp), bs_of]
        replace hqm := Lib.hid hqm
        go_wp2
        go_meet
        exact ⟨by rw [hqm.out], rfl⟩
      | true =>
        have hq' := hq.out
        rw [if_pos rfl] at hq'
        by_cases h1 : 0 < q.size
        · have hd := lastB q h1
          have hne : q.toList.isEmpty = false := by rw [Lib.toList_data, dropB1' q h1]; rfl
          have n0 : (0 : Int) ≤ (q.size : Int) - 1 := by omega
          have n1 : (q.size : Int) - 1 < (q.size : Int) := by omega
          have n2 : ((q.size : Int) - 1).toNat = q.size - 1 := by omega
          have n3 : (q.size : Int) - 1 ≤ (q.size : Int) := by omega
          have n4 : q.size - 1 ≤ q.size := by omega
          have n5 : q.size - 1 < q.size := by omega
          have hwr : IntKind.i64.wrap ((q.size : Int) - 1) = (q.size : Int) - 1 := by rw [IntKind.wrap_i64]; omega
          rw [hd, trimR_snoc] at hq'
          cases hin : Fit.inT cut.data.toList q[q.size - 1] with
          | true =>
            rw [if_pos hin] at hq'
            have hq2 : (if true = true then trimR cut.data.toList (q.extract 0 (q.size - 1)).data.toList else (q.extract 0 (q.size - 1)).data.toList) = R.data.toList := by rw [if_pos rfl]; exact hq'
            replace hq2 := Lib.hid hq2
            replace hin := Lib.hid hin
            clear hd hq' hq
            go_wp2_with (go_at_call 132; refine (sbyte_any cut _ _ _ hin).mono ?_; rintro e wx ⟨rr, rfl, hrr, rfl⟩)
            go_round
            case rel => exact ⟨q.extract 0 (q.size - 1), by go_num, by simp; omega, hq2⟩
            case measure => simp [strSize']; omega
          | false =>
            rw [if_neg (by rw [hin]; simp), ← hd] at hq'
            have hqm : q = R := by rw [← bs_of q, hq', bs_of]
            replace hqm := Lib.hid hqm
            replace hin := Lib.hid hin
            clear hd hq' hq
            go_wp2_with (go_at_call 132; refine (sbyte_any cut _ _ _ hin).mono ?_; rintro e wx ⟨rr, rfl, hrr, rfl⟩)
            go_meet
            exact ⟨by rw [hqm.out], rfl⟩
        · have he : q = ⟨#[]⟩ := by
            have : q.data.toList = [] := List.eq_nil_of_length_eq_zero (by have : q.data.toList.length = q.size := rfl; omega)
            rw [← bs_of q, this]; rfl
          subst he
          have hqm : (⟨#[]⟩ : ByteArray) = R := by rw [← bs_of R, ← hq']; rfl
          replace hqm := Lib.hid hqm
          go_wp2
          go_meet
          exact ⟨by rw [← hqm.out], rfl⟩
  case rest =>
  obtain ⟨rfl, hwc⟩ := hcut
  subst hwc
  go_wp2_with (go_at_call 86; refine (ftext_is _ _ _ _ hx).mono ?_; rintro e w5 ⟨rfl, hb5⟩; have hR5 := hRE.on hb5; obtain ⟨a0, a1, a2, a3, a4, a5⟩ := hR5.cells)
  exact bodyPost_ret (v := .agg #[.int .i64 2, .int .i64 0, .string R]) (by simp only [results, Tryz.results131]; go_simp) rfl ⟨rfl, below_put (below_step hBE hBE.size hb5) (Nat.le_refl _)⟩

end Go.Proofs.YtmkgalcojoeniaaGreatDoor

namespace Go.Proofs.YtmkgalcojoeniaaGreatDoor
open Go.RowKit
attribute [local go_sem] run_store_fn run_store_nofn

def bestV (way c : Int) (best : Val.V) : List Val.V → Val.V
  | [] => best
  | v :: l => bestV way c (if Val.cmp v best c = way then v else best) l
/-- what a round of max or min reads -/
def ExtR (w W : World) (B : Nat) (way : Int) (g : Nat) (kv nv : Int) (tv : ByteArray) (kb nb : Int) (tb : ByteArray) : Prop := V3 W g kv nv tv ∧ V3 W (w.heap.size + 1) kb nb tb ∧ V3 W w.heap.size 0 0 ⟨#[]⟩ ∧ Boxed W B 3 (.int .i64 way) ∧ Below w.heap.size w W
theorem ExtR.on {w W W' : World} {B : Nat} {way : Int} {g : Nat} {kv nv : Int} {tv : ByteArray} {kb nb : Int} {tb : ByteArray} (h : ExtR w W B way g kv nv tv kb nb tb) (hb : Below W.heap.size W W') : ExtR w W' B way g kv nv tv kb nb tb :=
  ⟨h.1.on hb, h.2.1.on hb, h.2.2.1.on hb, boxed_on h.2.2.2.1 hb, below_step h.2.2.2.2 h.2.2.2.2.size hb⟩
theorem boxed_put {W : World} {B g : Nat} {T : TypeId} {v : Value} (h : Boxed W B T v) (hne : B ≠ g) (a b c : Value) : Boxed (((W.setCell ⟨g, 0, none⟩ a).setCell ⟨g, 1, none⟩ b).setCell ⟨g, 2, none⟩ c) B T v :=
  ((Below.heap_setCell _ _ _ _ hne).trans ((Below.heap_setCell _ _ _ _ hne).trans (Below.heap_setCell _ _ _ _ hne))).trans h
def smallV (v : Val.V) : Prop := v.text.length ≤ 1048576

set_option maxHeartbeats 8000000 in
theorem extreme_is (way c : Int) (b off N cap B : Nat) (vs : List Val.V) (k0 n0 : Int) (t0 : ByteArray) (w : World) (hA : ValsAt w (some ⟨b, off, none⟩) N (⟨k0, n0, t0.data.toList⟩ :: vs)) (hN : N ≤ 1048576) (hcap : N ≤ cap) (hN2 : 1 < N) (hB : Boxed w B 3 (.int .i64 way)) (h0s : t0.size ≤ 1048576) (hsm : ∀ v ∈ vs, smallV v) (k' n' : Int) (t' : ByteArray) (hv : Hid (bestV way c ⟨k0, n0, t0.data.toList⟩ vs = ⟨k', n', t'.data.toList⟩)) :
    Calls Tryz.prog 133 #[.int .i64 c, .slice (some ⟨b, off, none⟩) N cap, .pointer (some ⟨B, 0, none⟩)] w (VRet k' n' t' w) := by
  have hlen := hA.1
  rw [List.length_cons] at hlen
  have hN1 : 0 < N := by omega
  have hb0 := below_new w (.cells #[.int .i64 0, .int .i64 0, .string ⟨#[]⟩] 25)
  have hR0 := V3.new w 0 0 ⟨#[]⟩
  obtain ⟨b', off', he, hat⟩ := hA.get (i := 0) rfl
  cases he
  obtain ⟨c0, c1, c2, hbl⟩ := hat.on hb0
  simp only [Nat.zero_mul, Nat.add_zero, bs_of] at c0 c1 c2
  have i1 : (0 : Int) < (N : Int) := by omega
  have j1 : (1 : Int) ≤ (N : Int) := by omega
  have j2 : 1 ≤ N := hN1
  have j3 : 1 < cap := by omega
  have j4 : (1 : Int) < (cap : Int) := by omega
  have j5 : (1 : Int) ≤ (cap : Int) := by omega
  have j6 : (N : Int) ≤ (cap : Int) := by omega
  have j7 : ¬ cap = 1 := by omega
  go_enter Tryz.func133, Tryz.ntmps133
  go_wp2
  obtain ⟨M, hM⟩ : ∃ M, N - 1 = M := ⟨_, rfl⟩
  have hML : vs.length = M := by omega
  have hM1 : M ≤ 1048576 := by omega
  rw [hM]
  obtain ⟨W0, hW0⟩ : ∃ W, (w.alloc (.cells #[.int .i64 0, .int .i64 0, .string ⟨#[]⟩] 25)).alloc (.cells #[.int .i64 k0, .int .i64 n0, .string t0] 25) = W := ⟨_, rfl⟩
  have hB0 : Below w.heap.size w W0 := by rw [← hW0]; exact hb0.alloc hb0.size _
  have hR1 : V3 W0 w.heap.size 0 0 ⟨#[]⟩ := by rw [← hW0]; exact hR0.alloc _
  have hbest : V3 W0 (w.heap.size + 1) k0 n0 t0 := by rw [← hW0]; have := V3.new (w.alloc (.cells #[.int .i64 0, .int .i64 0, .string ⟨#[]⟩] 25)) k0 n0 t0; rw [World.size_alloc] at this; exact this
  have hBx : Boxed W0 B 3 (.int .i64 way) := boxed_on hB hB0
  rw [hW0]
  replace hML := Lib.hid hML
  replace hM := Lib.hid hM
  replace hsm := Lib.hid hsm
  have hbw := hat.2.2.2
  clear hW0 hb0 hR0 c0 c1 c2 hat hlen hbl
  go_loopw [15] (fun iv wr => ∃ (k : Nat) (kb nb : Int) (tb : ByteArray), iv = .int .i64 (k : Int) ∧ k ≤ M ∧ tb.size ≤ 1048576 ∧ Hid (bestV way c ⟨kb, nb, tb.data.toList⟩ (vs.drop k) = ⟨k', n', t'.data.toList⟩) ∧ Hid (V3 wr (w.heap.size + 1) kb nb tb) ∧ Hid (V3 wr w.heap.size 0 0 ⟨#[]⟩) ∧ Hid (Boxed wr B 3 (.int .i64 way)) ∧ Below w.heap.size w wr) (fun iv _ => M - (intOf iv).toNat)
  case atStart => exact ⟨0, k0, n0, t0, by go_num, by omega, h0s, hv, Lib.hid hbest, Lib.hid hR1, Lib.hid hBx, hB0⟩
  case round =>
    obtain ⟨k, kb, nb, tb, rfl, hk, htb, hbv, hbe, hR, hbo, hBe⟩ := hrel
    clear hv hbest hR1 hBx hB0
    have hzB := hBe.size
    by_cases hlt : k < M
    · have hlk : k < vs.length := by rw [hML.out]; exact hlt
      have hb2 := hbv.out
      rw [List.drop_eq_getElem_cons hlk] at hb2
      obtain ⟨v, hvk⟩ : ∃ v, vs[k] = v := ⟨_, rfl⟩
      have hgk : (⟨k0, n0, t0.data.toList⟩ :: vs)[k + 1]? = some v := by rw [List.getElem?_cons_succ, List.getElem?_eq_getElem hlk, hvk]
      rw [hvk] at hb2
      have hvs := hsm.out v (by rw [← hvk]; exact List.getElem_mem hlk)
      obtain ⟨b', off', he, hat⟩ := (hA.below hBe).get hgk
      cases he
      obtain ⟨kd, n, tx⟩ := v
      obtain ⟨t, rfl⟩ : ∃ t : ByteArray, tx = t.data.toList := ⟨bs tx, rfl⟩
      have hts : t.size ≤ 1048576 := hvs
      rw [bs_of, show off + (k + 1) * 3 = off + 3 + k * 3 by omega] at hat
      obtain ⟨c0, c1, c2, hbl⟩ := hat
      simp only at c0 c1 c2
      have lB : decide ((k : Int) < (M : Int)) = true := by simp; omega
      have i0 : (0 : Int) ≤ (k : Int) := by omega
      have i2 : (k : Int) < (M : Int) := by omega
      simp only [bestV] at hb2
      obtain ⟨r, hr⟩ : ∃ r, Val.cmp ⟨kd, n, t.data.toList⟩ ⟨kb, nb, tb.data.toList⟩ c = r := ⟨_, rfl⟩
      rw [hr] at hb2
      have hX : ExtR w ((wr.alloc (.cells #[.int .i64 kd, .int .i64 n, .string t] 25)).drew) B way wr.heap.size kd n t kb nb tb := by
        refine ⟨V3.new wr kd n t, hbe.out.alloc _, hR.out.alloc _, hbo.out.alloc _, (hBe.alloc hzB _).drew⟩
      replace hr := Lib.hid hr
      replace hb2 := Lib.hid hb2
      clear hvk hgk hlk hvs hbv hbe hR hbo hBe
      go_wp2
      obtain ⟨W1, hW1⟩ : ∃ W, (wr.alloc (.cells #[.int .i64 kd, .int .i64 n, .string t] 25)).drew = W := ⟨_, rfl⟩
      obtain ⟨g, hg⟩ : ∃ g, wr.heap.size = g := ⟨_, rfl⟩
      rw [hW1, hg] at hX
      rw [hg]
      refine wp_region_held_drew (S := fun W => ExtR w W B way g kd n t kb nb tb) (by kernel_rfl) ?_ (fun hH => ?_)
      · rw [hW1]; exact hX
      rw [hW1] at hH ⊢
      have hgw : w.heap.size ≤ g := by omega
      clear hW1 hX hg c0 c1 c2
      refine wpAnyH_take (i := 0) (v := ?_) rfl (by kernel_rfl) (by kernel_rfl) (by kernel_rfl) (fun _ _ _ h => h) (Or.inl ⟨by rfl, ?_⟩) hH ?_
      rotate_left
      · (intro W hSw; (try dsimp only at hSw); obtain ⟨z0, z1, z2, z3, z4, z5⟩ := hSw.1.cells; obtain ⟨y0, y1, y2, y3, y4, y5⟩ := hSw.2.1.cells; have x0 := hSw.2.2.2.1.cell; go_simp; try with_reducible rfl)
      try simp only [List.getElem_toArray, List.getElem_cons_zero, List.getElem_cons_succ, Act.put, List.setIfInBounds_toArray, List.set_cons_zero, List.set_cons_succ]
      refine wpAnyH_take (i := 1) (v := ?_) rfl (by kernel_rfl) (by kernel_rfl) (by kernel_rfl) (fun _ _ _ h => h) (Or.inl ⟨by rfl, ?_⟩) hH ?_
      rotate_left
      · (intro W hSw; (try dsimp only at hSw); obtain ⟨z0, z1, z2, z3, z4, z5⟩ := hSw.1.cells; obtain ⟨y0, y1, y2, y3, y4, y5⟩ := hSw.2.1.cells; have x0 := hSw.2.2.2.1.cell; go_simp; try with_reducible rfl)
      try simp only [List.getElem_toArray, List.getElem_cons_zero, List.getElem_cons_succ, Act.put, List.setIfInBounds_toArray, List.set_cons_zero, List.set_cons_succ]
      refine wpAnyH_take (i := 2) (v := ?_) rfl (by kernel_rfl) (by kernel_rfl) (by kernel_rfl) (fun _ _ _ h => h) (Or.inl ⟨by rfl, ?_⟩) hH ?_
      rotate_left
      · (intro W hSw; (try dsimp only at hSw); obtain ⟨z0, z1, z2, z3, z4, z5⟩ := hSw.1.cells; obtain ⟨y0, y1, y2, y3, y4, y5⟩ := hSw.2.1.cells; have x0 := hSw.2.2.2.1.cell; go_simp; try with_reducible rfl)
      try simp only [List.getElem_toArray, List.getElem_cons_zero, List.getElem_cons_succ, Act.put, List.setIfInBounds_toArray, List.set_cons_zero, List.set_cons_succ]
      refine wpAnyH_take (i := 4) (v := ?_) rfl (by kernel_rfl) (by kernel_rfl) (by kernel_rfl) (fun _ _ _ h => h) (Or.inl ⟨by rfl, ?_⟩) hH ?_
      rotate_left
      · (intro W hSw; (try dsimp only at hSw); obtain ⟨z0, z1, z2, z3, z4, z5⟩ := hSw.1.cells; obtain ⟨y0, y1, y2, y3, y4, y5⟩ := hSw.2.1.cells; have x0 := hSw.2.2.2.1.cell; go_simp; try with_reducible rfl)
      try simp only [List.getElem_toArray, List.getElem_cons_zero, List.getElem_cons_succ, Act.put, List.setIfInBounds_toArray, List.set_cons_zero, List.set_cons_succ]
      refine wpAnyH_ready (rs := [3]) (by kernel_rfl) (by simp) ?_
      refine AllReadyH.cons rfl (fun K hK => ?_) AllReadyH.nil
      go_simp
      go_at_call 90; refine (vcmp_is _ _ _ _ _ _ _ _ hts htb _ hr).mono ?_; rintro e w2 ⟨rfl, hb2'⟩
      refine hK.out _ _ ?_ (fun hH2 => ?_)
      · exact hH.on hb2'
      clear hK K
      try simp only [List.getElem_toArray, List.getElem_cons_zero, List.getElem_cons_succ, Act.put, List.setIfInBounds_toArray, List.set_cons_zero, List.set_cons_succ]
      refine wpAnyH_take (i := 5) (v := ?_) rfl (by kernel_rfl) (by kernel_rfl) (by kernel_rfl) (fun _ _ _ h => h) (Or.inl ⟨by rfl, ?_⟩) hH2 ?_
      rotate_left
      · (intro W hSw; (try dsimp only at hSw); go_simp; try with_reducible rfl)
      try simp only [List.getElem_toArray, List.getElem_cons_zero, List.getElem_cons_succ, Act.put, List.setIfInBounds_toArray, List.set_cons_zero, List.set_cons_succ]
      refine wpAnyH_done (by kernel_rfl) ?_ _
      obtain ⟨e0, e1, e2, e3, e4⟩ := hH2
      obtain ⟨z0, z1, z2, z3, z4, z5⟩ := e0.cells
      obtain ⟨y0, y1, y2, y3, y4, y5⟩ := e1.cells
      have hne : g ≠ w.heap.size + 1 ∨ g = w.heap.size + 1 := by omega
      by_cases hrw : r = way
      · have q : (r == way) = true := by simpa using hrw
        have hb3 := hb2.out
        rw [if_pos hrw] at hb3
        have hbe' := Lib.hid (e1.put kd n t)
        have hR' := Lib.hid (e2.other (g' := w.heap.size + 1) (by omega) (.int .i64 kd) (.int .i64 n) (.string t))
        have hbo' : Boxed (((w2.setCell ⟨w.heap.size + 1, 0, none⟩ (.int .i64 kd)).setCell ⟨w.heap.size + 1, 1, none⟩ (.int .i64 n)).setCell ⟨w.heap.size + 1, 2, none⟩ (.string t)) B 3 (.int .i64 way) := boxed_put e3 (by have := hB.lt; omega) _ _ _
        have hBe' := below_put (g := w.heap.size + 1) (a := .int .i64 kd) (b := .int .i64 n) (c := .string t) e4 (by omega)
        replace hb3 := Lib.hid hb3
        replace hbo' := Lib.hid hbo'
        clear hrw e0 e1 e2 e3 e4 hb2 hb2' hH hne
        go_wp2
        go_roundw
        case rel => exact ⟨k + 1, kd, n, t, by go_num, by omega, hts, hb3, hbe', hR', hbo', hBe'⟩
        case measure => simp [intOf]; omega
      · have q : (r == way) = false := by simpa using hrw
        have hb3 := hb2.out
        rw [if_neg hrw] at hb3
        replace hb3 := Lib.hid hb3
        replace e1 := Lib.hid e1
        replace e2 := Lib.hid e2
        replace e3 := Lib.hid e3
        clear hrw e0 hb2 hb2' hH hne
        go_wp2
        go_roundw
        case rel => exact ⟨k + 1, kb, nb, tb, by go_num, by omega, htb, hb3, e1, e2, e3, e4⟩
        case measure => simp [intOf]; omega
    · have hb2 := hbv.out
      rw [List.drop_eq_nil_of_le (by rw [hML.out]; omega), bestV] at hb2
      injection hb2 with e1 e2 e3
      obtain rfl : tb = t' := by rw [← bs_of tb, ← bs_of t', e3]
      subst e1
      subst e2
      have lB : decide ((k : Int) < (M : Int)) = false := by simp; omega
      obtain ⟨y0, y1, y2, y3, y4, y5⟩ := hbe.out.cells
      obtain ⟨a0, a1, a2, a3, a4, a5⟩ := hR.out.cells
      clear e3 hbv
      go_wp2
      exact bodyPost_ret (v := .agg #[.int .i64 kb, .int .i64 nb, .string tb]) (by simp only [results, Tryz.results133]; go_simp) rfl ⟨rfl, below_put hBe (Nat.le_refl _)⟩

end Go.Proofs.YtmkgalcojoeniaaGreatDoor

namespace Go.Proofs.YtmkgalcojoeniaaGreatDoor
open Go.RowKit

/-- a sum, cut to the int64 -/
def clampI (x : Int) : Int := if 9223372036854775807 < x then 9223372036854775807 else if x < -9223372036854775808 then -9223372036854775808 else x
theorem sum_is (x y : Int) (w : World) (hx : Val.inr x) (hy : Val.inr y) : Calls Tryz.prog 139 #[.int .i64 x, .int .i64 y] w fun e w' => e = .returned (.int .i64 (clampI (x + y))) ∧ w = w' := by
  obtain ⟨x0, x1⟩ := hx
  obtain ⟨y0, y1⟩ := hy
  obtain ⟨r, hr⟩ : ∃ r, clampI (x + y) = r := ⟨_, rfl⟩
  rw [hr]
  unfold clampI at hr
  by_cases h1 : 9223372036854775807 < x + y
  · rw [if_pos h1] at hr
    subst hr
    have b1 : decide (y > 0) = true := decide_eq_true (by omega)
    have hw : IntKind.i64.wrap (x + y) = x + y - 18446744073709551616 := by rw [IntKind.wrap_i64]; omega
    have b2 : decide (x + y - 18446744073709551616 < x) = true := decide_eq_true (by omega)
    go_enter Tryz.func139, Tryz.ntmps139
    go_wp2
    go_ret
    exact ⟨rfl, rfl⟩
  · rw [if_neg h1] at hr
    by_cases h2 : x + y < -9223372036854775808
    · rw [if_pos h2] at hr
      subst hr
      have b1 : decide (y > 0) = false := decide_eq_false (by omega)
      have b1' : ¬ 0 < y := by omega
      have b3 : decide (y < 0) = true := decide_eq_true (by omega)
      have hw : IntKind.i64.wrap (x + y) = x + y + 18446744073709551616 := by rw [IntKind.wrap_i64]; omega
      have b2 : decide (x + y + 18446744073709551616 > x) = true := decide_eq_true (by omega)
      go_enter Tryz.func139, Tryz.ntmps139
      go_wp2
      go_ret
      exact ⟨rfl, rfl⟩
    · rw [if_neg h2] at hr
      subst hr
      have hw : IntKind.i64.wrap (x + y) = x + y := by rw [IntKind.wrap_i64]; omega
      rcases Int.lt_trichotomy y 0 with h | h | h
      · have b1 : decide (y > 0) = false := decide_eq_false (by omega)
        have b1' : ¬ 0 < y := by omega
        have b3 : decide (y < 0) = true := decide_eq_true (by omega)
        have b2 : decide (x + y > x) = false := decide_eq_false (by omega)
        go_enter Tryz.func139, Tryz.ntmps139
        go_wp2
        go_ret
        exact ⟨rfl, rfl⟩
      · subst h
        go_enter Tryz.func139, Tryz.ntmps139
        go_wp2
        go_ret
        exact ⟨ret_int (by omega), rfl⟩
      · have b1 : decide (y > 0) = true := decide_eq_true (by omega)
        have b2 : decide (x + y < x) = false := decide_eq_false (by omega)
        have b3 : decide (y < 0) = false := decide_eq_false (by omega)
        have b3' : ¬ y < 0 := by omega
        go_enter Tryz.func139, Tryz.ntmps139
        go_wp2
        go_ret
        exact ⟨rfl, rfl⟩
/-- a place within a text of l bytes -/
def clipN (n : Int) (l : Nat) : Nat := if n < 0 then 0 else if (l : Int) < n then l else n.toNat
theorem clip_is (n : Int) (s : ByteArray) (w : World) (hn : Val.inr n) (hs : s.size ≤ 1048576) : Calls Tryz.prog 140 #[.int .i64 n, .string s] w fun e w' => e = .returned (.int .i64 (clipN n s.size : Int)) ∧ w = w' := by
  go_enter Tryz.func140, Tryz.ntmps140
  go_wp2
  go_ret
  refine ⟨ret_int ?_, rfl⟩
  unfold clipN
  split
  · omega
  · split <;> omega
theorem clip_eq (n : Int) (s : ByteArray) (w : World) (hn : Val.inr n) (hs : s.size ≤ 1048576) (f : Nat) (hf : Hid (clipN n s.size = f)) : Calls Tryz.prog 140 #[.int .i64 n, .string s] w fun e w' => e = .returned (.int .i64 (f : Int)) ∧ w = w' := by
  have := clip_is n s w hn hs
  rwa [hf.out] at this
theorem sum_eq (x y : Int) (w : World) (hx : Val.inr x) (hy : Val.inr y) (r : Int) (hr : Hid (clampI (x + y) = r)) : Calls Tryz.prog 139 #[.int .i64 x, .int .i64 y] w fun e w' => e = .returned (.int .i64 r) ∧ w = w' := by
  have := sum_is x y w hx hy
  rwa [hr.out] at this
theorem clipN_le (n : Int) (l : Nat) : clipN n l ≤ l := by
  unfold clipN
  split
  · omega
  · split <;> omega
/-- the bytes of a text from one place on and ahead of another one -/
def pieceT (s : List UInt8) (b e : Int) : List UInt8 := (s.drop (min (clipN b s.length) (clipN e s.length))).take (clipN e s.length - min (clipN b s.length) (clipN e s.length))

end Go.Proofs.YtmkgalcojoeniaaGreatDoor

