/- Walks: the reference's Fits, case by case: a set of GLOB. -/
import Derived.Test.YtmkgalcojoeniaaGreatDoorFitsK
import Derived.Test.YtmkgalcojoeniaaGreatDoorGlobT
import Derived.Deep.RegionHeld3
import Derived.BigQuiet
import Derived.Deep.QuietTactic
set_option maxRecDepth 100000
set_option linter.unusedVariables false
set_option linter.unusedSimpArgs false
namespace Go.Proofs.YtmkgalcojoeniaaGreatDoor
open Go.RowKit
set_option maxHeartbeats 2000000 in
theorem fits_set_none (s p : ByteArray) (gk N i j : Nat) (val : Nat → Nat → Bool) (w : World) (hs : s.size ≤ 1048576) (hp : p.size ≤ 1048576) (hN : N = (s.size + 1) * (p.size + 1)) (hi : i ≤ s.size) (hj : j ≤ p.size) (hM : Memo w gk s.size p.size val) (hc : w.cell? ⟨gk, i * (p.size + 1) + j, none⟩ = some (.int .i64 0)) (hjl : j < p.size) (jm : ((j : Int) == (p.size : Int)) = false) (q37 : ((p[j].toNat : Int) == 37) = false) (q42 : ((p[j].toNat : Int) == 42) = false) (q91 : ((p[j].toNat : Int) == 91) = true) (q95 : ((p[j].toNat : Int) == 95) = false) (q63 : ((p[j].toNat : Int) == 63) = false) (hE : Hid (endR (p.extract j p.size).data.toList = -1)) (hv : Hid (val i j = false)) :
    Calls Tryz.prog 49 #[.string s, .string p, .bool true, .slice (some ⟨gk, 0, none⟩) N N, .int .i64 (i : Int), .int .i64 (j : Int)] w (RetFits gk N s.size p.size val false w) := by
  obtain ⟨a, ha⟩ : ∃ a, i * (p.size + 1) = a := ⟨_, rfl⟩
  have hlt := place_lt hi hj
  have hset := hM.set hi hj (val := val)
  have hMij : ∀ W, Memo W gk s.size p.size val → ∃ v : Int, W.cell? ⟨gk, i * (p.size + 1) + j, none⟩ = some (.int .i64 v) ∧ W.frozen? ⟨gk, i * (p.size + 1) + j, none⟩ = false := fun W h => by
    obtain ⟨v, h1, h2, _⟩ := h.2 i j hi hj
    exact ⟨v, h1, h2⟩
  have hst1 : ∀ W, Memo W gk s.size p.size val → val i j = false → Memo (W.setCell ⟨gk, i * (p.size + 1) + j, none⟩ (.int .i64 1)) gk s.size p.size val := fun W h hv => h.set hi hj hv
  have hst2 : ∀ W, Memo W gk s.size p.size val → val i j = true → Memo ((W.setCell ⟨gk, i * (p.size + 1) + j, none⟩ (.int .i64 1)).setCell ⟨gk, i * (p.size + 1) + j, none⟩ (.int .i64 2)) gk s.size p.size val := fun W h hv => h.set2 hi hj hv
  clear hset
  rw [← hN, ha] at hlt
  rw [ha] at hc hMij hst1 hst2
  have h2 : (s.size + 1) * (p.size + 1) ≤ 1048577 * 1048577 := Nat.mul_le_mul (by omega) (by omega)
  rw [← hN] at h2
  have e1 : (i : Int) * ((p.size : Int) + 1) = (a : Int) := by rw [← ha]; simp
  have i0 : (0 : Int) ≤ (a : Int) + (j : Int) := by omega
  have i1 : (a : Int) + (j : Int) < (N : Int) := by omega
  have i2 : ((a : Int) + (j : Int)).toNat = a + j := by omega
  obtain ⟨_, hf⟩ := hMij w hM
  obtain ⟨_, hf⟩ := hf
  replace hM := Lib.hid hM
  replace hMij := Lib.hid hMij
  replace hst1 := Lib.hid hst1
  replace hst2 := Lib.hid hst2
  clear ha hN hi hj
  go_enter Tryz.func49, Tryz.ntmps49
  have j0 : (0 : Int) ≤ (j : Int) := by omega
  have j1 : (j : Int) < (p.size : Int) := by omega
  have sl0 : (j : Int) ≤ (p.size : Int) := by omega
  have sl1 : j ≤ p.size := by omega
  go_wp2_with (go_at_call 109; refine (rend_any _ _ (by simp; omega) (by simp; omega) _ hE).mono ?_; rintro e w1 ⟨rfl, rfl⟩)
  obtain ⟨W1, hW1⟩ : ∃ W, w.drew = W := ⟨_, rfl⟩
  have hB1 : Below gk w W1 := by rw [← hW1]; exact (Below.refl _ _).drew
  have hM1 : Memo W1 gk s.size p.size val := by rw [← hW1]; exact hM.out.drew
  obtain ⟨v1, c1, f1⟩ := hMij.out W1 hM1
  refine wp_region_held_drew (S := fun _ => True) (by kernel_rfl) trivial (fun hH => ?_)
  rw [hW1]
  clear hW1
  replace hM1 := Lib.hid hM1
  refine wpAnyH_take (i := 0) (v := ?_) rfl (by kernel_rfl) (by kernel_rfl) (by kernel_rfl) (fun _ _ _ h => h) (Or.inl ⟨by rfl, ?_⟩) hH ?_
  rotate_left
  · (intro W hSw; (try dsimp only at hSw); go_simp; try with_reducible rfl)
  try simp only [List.getElem_toArray, List.getElem_cons_zero, List.getElem_cons_succ, Act.put, List.setIfInBounds_toArray, List.set_cons_zero, List.set_cons_succ]
  refine wpAnyH_take (i := 1) (v := ?_) rfl (by kernel_rfl) (by kernel_rfl) (by kernel_rfl) (fun _ _ _ h => h) (Or.inl ⟨by rfl, ?_⟩) hH ?_
  rotate_left
  · (intro W hSw; (try dsimp only at hSw); go_simp; try with_reducible rfl)
  try simp only [List.getElem_toArray, List.getElem_cons_zero, List.getElem_cons_succ, Act.put, List.setIfInBounds_toArray, List.set_cons_zero, List.set_cons_succ]
  refine wpAnyH_take (i := 2) (v := ?_) rfl (by kernel_rfl) (by kernel_rfl) (by kernel_rfl) (fun _ _ _ h => h) (Or.inl ⟨by rfl, ?_⟩) hH ?_
  rotate_left
  · (intro W hSw; (try dsimp only at hSw); go_simp; try with_reducible rfl)
  try simp only [List.getElem_toArray, List.getElem_cons_zero, List.getElem_cons_succ, Act.put, List.setIfInBounds_toArray, List.set_cons_zero, List.set_cons_succ]
  refine wpAnyH_take (i := 3) (v := undef) rfl (by kernel_rfl) (by kernel_rfl) (by kernel_rfl) (fun _ _ _ h => h) (Or.inr ⟨by rfl, rfl⟩) hH ?_
  try simp only [List.getElem_toArray, List.getElem_cons_zero, List.getElem_cons_succ, Act.put, List.setIfInBounds_toArray, List.set_cons_zero, List.set_cons_succ]
  refine wpAnyH_take (i := 4) (v := undef) rfl (by kernel_rfl) (by kernel_rfl) (by kernel_rfl) (fun _ _ _ h => h) (Or.inr ⟨by rfl, rfl⟩) hH ?_
  try simp only [List.getElem_toArray, List.getElem_cons_zero, List.getElem_cons_succ, Act.put, List.setIfInBounds_toArray, List.set_cons_zero, List.set_cons_succ]
  refine wpAnyH_take (i := 5) (v := undef) rfl (by kernel_rfl) (by kernel_rfl) (by kernel_rfl) (fun _ _ _ h => h) (Or.inr ⟨by rfl, rfl⟩) hH ?_
  try simp only [List.getElem_toArray, List.getElem_cons_zero, List.getElem_cons_succ, Act.put, List.setIfInBounds_toArray, List.set_cons_zero, List.set_cons_succ]
  refine wpAnyH_take (i := 6) (v := undef) rfl (by kernel_rfl) (by kernel_rfl) (by kernel_rfl) (fun _ _ _ h => h) (Or.inr ⟨by rfl, rfl⟩) hH ?_
  try simp only [List.getElem_toArray, List.getElem_cons_zero, List.getElem_cons_succ, Act.put, List.setIfInBounds_toArray, List.set_cons_zero, List.set_cons_succ]
  refine wpAnyH_take (i := 7) (v := ?_) rfl (by kernel_rfl) (by kernel_rfl) (by kernel_rfl) (fun _ _ _ h => h) (Or.inl ⟨by rfl, ?_⟩) hH ?_
  rotate_left
  · (intro W hSw; (try dsimp only at hSw); go_simp; try with_reducible rfl)
  try simp only [List.getElem_toArray, List.getElem_cons_zero, List.getElem_cons_succ, Act.put, List.setIfInBounds_toArray, List.set_cons_zero, List.set_cons_succ]
  refine wpAnyH_take (i := 8) (v := ?_) rfl (by kernel_rfl) (by kernel_rfl) (by kernel_rfl) (fun _ _ _ h => h) (Or.inl ⟨by rfl, ?_⟩) hH ?_
  rotate_left
  · (intro W hSw; (try dsimp only at hSw); go_simp; try with_reducible rfl)
  try simp only [List.getElem_toArray, List.getElem_cons_zero, List.getElem_cons_succ, Act.put, List.setIfInBounds_toArray, List.set_cons_zero, List.set_cons_succ]
  refine wpAnyH_take (i := 9) (v := undef) rfl (by kernel_rfl) (by kernel_rfl) (by kernel_rfl) (fun _ _ _ h => h) (Or.inr ⟨by rfl, rfl⟩) hH ?_
  try simp only [List.getElem_toArray, List.getElem_cons_zero, List.getElem_cons_succ, Act.put, List.setIfInBounds_toArray, List.set_cons_zero, List.set_cons_succ]
  refine wpAnyH_take (i := 10) (v := undef) rfl (by kernel_rfl) (by kernel_rfl) (by kernel_rfl) (fun _ _ _ h => h) (Or.inr ⟨by rfl, rfl⟩) hH ?_
  try simp only [List.getElem_toArray, List.getElem_cons_zero, List.getElem_cons_succ, Act.put, List.setIfInBounds_toArray, List.set_cons_zero, List.set_cons_succ]
  refine wpAnyH_take (i := 11) (v := undef) rfl (by kernel_rfl) (by kernel_rfl) (by kernel_rfl) (fun _ _ _ h => h) (Or.inr ⟨by rfl, rfl⟩) hH ?_
  try simp only [List.getElem_toArray, List.getElem_cons_zero, List.getElem_cons_succ, Act.put, List.setIfInBounds_toArray, List.set_cons_zero, List.set_cons_succ]
  refine wpAnyH_take (i := 12) (v := undef) rfl (by kernel_rfl) (by kernel_rfl) (by kernel_rfl) (fun _ _ _ h => h) (Or.inr ⟨by rfl, rfl⟩) hH ?_
  try simp only [List.getElem_toArray, List.getElem_cons_zero, List.getElem_cons_succ, Act.put, List.setIfInBounds_toArray, List.set_cons_zero, List.set_cons_succ]
  refine wpAnyH_take (i := 13) (v := undef) rfl (by kernel_rfl) (by kernel_rfl) (by kernel_rfl) (fun _ _ _ h => h) (Or.inr ⟨by rfl, rfl⟩) hH ?_
  try simp only [List.getElem_toArray, List.getElem_cons_zero, List.getElem_cons_succ, Act.put, List.setIfInBounds_toArray, List.set_cons_zero, List.set_cons_succ]
  refine wpAnyH_take (i := 14) (v := undef) rfl (by kernel_rfl) (by kernel_rfl) (by kernel_rfl) (fun _ _ _ h => h) (Or.inr ⟨by rfl, rfl⟩) hH ?_
  try simp only [List.getElem_toArray, List.getElem_cons_zero, List.getElem_cons_succ, Act.put, List.setIfInBounds_toArray, List.set_cons_zero, List.set_cons_succ]
  refine wpAnyH_take (i := 15) (v := undef) rfl (by kernel_rfl) (by kernel_rfl) (by kernel_rfl) (fun _ _ _ h => h) (Or.inr ⟨by rfl, rfl⟩) hH ?_
  try simp only [List.getElem_toArray, List.getElem_cons_zero, List.getElem_cons_succ, Act.put, List.setIfInBounds_toArray, List.set_cons_zero, List.set_cons_succ]
  refine wpAnyH_take (i := 16) (v := undef) rfl (by kernel_rfl) (by kernel_rfl) (by kernel_rfl) (fun _ _ _ h => h) (Or.inr ⟨by rfl, rfl⟩) hH ?_
  try simp only [List.getElem_toArray, List.getElem_cons_zero, List.getElem_cons_succ, Act.put, List.setIfInBounds_toArray, List.set_cons_zero, List.set_cons_succ]
  refine wpAnyH_take (i := 17) (v := undef) rfl (by kernel_rfl) (by kernel_rfl) (by kernel_rfl) (fun _ _ _ h => h) (Or.inr ⟨by rfl, rfl⟩) hH ?_
  try simp only [List.getElem_toArray, List.getElem_cons_zero, List.getElem_cons_succ, Act.put, List.setIfInBounds_toArray, List.set_cons_zero, List.set_cons_succ]
  refine wpAnyH_take (i := 18) (v := undef) rfl (by kernel_rfl) (by kernel_rfl) (by kernel_rfl) (fun _ _ _ h => h) (Or.inr ⟨by rfl, rfl⟩) hH ?_
  try simp only [List.getElem_toArray, List.getElem_cons_zero, List.getElem_cons_succ, Act.put, List.setIfInBounds_toArray, List.set_cons_zero, List.set_cons_succ]
  refine wpAnyH_take (i := 19) (v := ?_) rfl (by kernel_rfl) (by kernel_rfl) (by kernel_rfl) (fun _ _ _ h => h) (Or.inl ⟨by rfl, ?_⟩) hH ?_
  rotate_left
  · (intro W hSw; (try dsimp only at hSw); go_simp; try with_reducible rfl)
  try simp only [List.getElem_toArray, List.getElem_cons_zero, List.getElem_cons_succ, Act.put, List.setIfInBounds_toArray, List.set_cons_zero, List.set_cons_succ]
  refine wpAnyH_done (by kernel_rfl) ?_ _
  go_wp2
  go_ret2
  exact ⟨rfl, hst1.out _ hM1.out hv.out, below_s1 (hB1)⟩

set_option maxHeartbeats 2000000 in
theorem fits_set_end (s p : ByteArray) (gk N i j : Nat) (val : Nat → Nat → Bool) (w : World) (hs : s.size ≤ 1048576) (hp : p.size ≤ 1048576) (hN : N = (s.size + 1) * (p.size + 1)) (hi : i ≤ s.size) (hj : j ≤ p.size) (hM : Memo w gk s.size p.size val) (hc : w.cell? ⟨gk, i * (p.size + 1) + j, none⟩ = some (.int .i64 0)) (hjl : j < p.size) (jm : ((j : Int) == (p.size : Int)) = false) (hin : ¬ i < s.size) (il : decide ((i : Int) < (s.size : Int)) = false) (q37 : ((p[j].toNat : Int) == 37) = false) (q42 : ((p[j].toNat : Int) == 42) = false) (q91 : ((p[j].toNat : Int) == 91) = true) (q95 : ((p[j].toNat : Int) == 95) = false) (q63 : ((p[j].toNat : Int) == 63) = false) (k : Nat) (hk : j + k < p.size) (hE : Hid (endR (p.extract j p.size).data.toList = (k : Int))) (hv : Hid (val i j = false)) :
    Calls Tryz.prog 49 #[.string s, .string p, .bool true, .slice (some ⟨gk, 0, none⟩) N N, .int .i64 (i : Int), .int .i64 (j : Int)] w (RetFits gk N s.size p.size val false w) := by
  obtain ⟨a, ha⟩ : ∃ a, i * (p.size + 1) = a := ⟨_, rfl⟩
  have hlt := place_lt hi hj
  have hset := hM.set hi hj (val := val)
  have hMij : ∀ W, Memo W gk s.size p.size val → ∃ v : Int, W.cell? ⟨gk, i * (p.size + 1) + j, none⟩ = some (.int .i64 v) ∧ W.frozen? ⟨gk, i * (p.size + 1) + j, none⟩ = false := fun W h => by
    obtain ⟨v, h1, h2, _⟩ := h.2 i j hi hj
    exact ⟨v, h1, h2⟩
  have hst1 : ∀ W, Memo W gk s.size p.size val → val i j = false → Memo (W.setCell ⟨gk, i * (p.size + 1) + j, none⟩ (.int .i64 1)) gk s.size p.size val := fun W h hv => h.set hi hj hv
  have hst2 : ∀ W, Memo W gk s.size p.size val → val i j = true → Memo ((W.setCell ⟨gk, i * (p.size + 1) + j, none⟩ (.int .i64 1)).setCell ⟨gk, i * (p.size + 1) + j, none⟩ (.int .i64 2)) gk s.size p.size val := fun W h hv => h.set2 hi hj hv
  clear hset
  rw [← hN, ha] at hlt
  rw [ha] at hc hMij hst1 hst2
  have h2 : (s.size + 1) * (p.size + 1) ≤ 1048577 * 1048577 := Nat.mul_le_mul (by omega) (by omega)
  rw [← hN] at h2
  have e1 : (i : Int) * ((p.size : Int) + 1) = (a : Int) := by rw [← ha]; simp
  have i0 : (0 : Int) ≤ (a : Int) + (j : Int) := by omega
  have i1 : (a : Int) + (j : Int) < (N : Int) := by omega
  have i2 : ((a : Int) + (j : Int)).toNat = a + j := by omega
  obtain ⟨_, hf⟩ := hMij w hM
  obtain ⟨_, hf⟩ := hf
  replace hM := Lib.hid hM
  replace hMij := Lib.hid hMij
  replace hst1 := Lib.hid hst1
  replace hst2 := Lib.hid hst2
  clear ha hN hi hj
  go_enter Tryz.func49, Tryz.ntmps49
  have j0 : (0 : Int) ≤ (j : Int) := by omega
  have j1 : (j : Int) < (p.size : Int) := by omega
  have sl0 : (j : Int) ≤ (p.size : Int) := by omega
  have sl1 : j ≤ p.size := by omega
  have kp : decide ((k : Int) ≥ 0) = true := decide_eq_true (by omega)
  have kp2 : (0 : Int) ≤ (k : Int) := by omega
  go_wp2_with (go_at_call 109; refine (rend_any _ _ (by simp; omega) (by simp; omega) _ hE).mono ?_; rintro e w1 ⟨rfl, rfl⟩)
  obtain ⟨W1, hW1⟩ : ∃ W, w.drew = W := ⟨_, rfl⟩
  have hB1 : Below gk w W1 := by rw [← hW1]; exact (Below.refl _ _).drew
  have hM1 : Memo W1 gk s.size p.size val := by rw [← hW1]; exact hM.out.drew
  obtain ⟨v1, c1, f1⟩ := hMij.out W1 hM1
  refine wp_region_held_drew (S := fun _ => True) (by kernel_rfl) trivial (fun hH => ?_)
  rw [hW1]
  clear hW1
  replace hM1 := Lib.hid hM1
  refine wpAnyH_take (i := 0) (v := ?_) rfl (by kernel_rfl) (by kernel_rfl) (by kernel_rfl) (fun _ _ _ h => h) (Or.inl ⟨by rfl, ?_⟩) hH ?_
  rotate_left
  · (intro W hSw; (try dsimp only at hSw); go_simp; try with_reducible rfl)
  try simp only [List.getElem_toArray, List.getElem_cons_zero, List.getElem_cons_succ, Act.put, List.setIfInBounds_toArray, List.set_cons_zero, List.set_cons_succ]
  refine wpAnyH_take (i := 1) (v := ?_) rfl (by kernel_rfl) (by kernel_rfl) (by kernel_rfl) (fun _ _ _ h => h) (Or.inl ⟨by rfl, ?_⟩) hH ?_
  rotate_left
  · (intro W hSw; (try dsimp only at hSw); go_simp; try with_reducible rfl)
  try simp only [List.getElem_toArray, List.getElem_cons_zero, List.getElem_cons_succ, Act.put, List.setIfInBounds_toArray, List.set_cons_zero, List.set_cons_succ]
  refine wpAnyH_take (i := 2) (v := ?_) rfl (by kernel_rfl) (by kernel_rfl) (by kernel_rfl) (fun _ _ _ h => h) (Or.inl ⟨by rfl, ?_⟩) hH ?_
  rotate_left
  · (intro W hSw; (try dsimp only at hSw); go_simp; try with_reducible rfl)
  try simp only [List.getElem_toArray, List.getElem_cons_zero, List.getElem_cons_succ, Act.put, List.setIfInBounds_toArray, List.set_cons_zero, List.set_cons_succ]
  refine wpAnyH_take (i := 3) (v := ?_) rfl (by kernel_rfl) (by kernel_rfl) (by kernel_rfl) (fun _ _ _ h => h) (Or.inl ⟨by rfl, ?_⟩) hH ?_
  rotate_left
  · (intro W hSw; (try dsimp only at hSw); go_simp; try with_reducible rfl)
  try simp only [List.getElem_toArray, List.getElem_cons_zero, List.getElem_cons_succ, Act.put, List.setIfInBounds_toArray, List.set_cons_zero, List.set_cons_succ]
  refine wpAnyH_take (i := 4) (v := ?_) rfl (by kernel_rfl) (by kernel_rfl) (by kernel_rfl) (fun _ _ _ h => h) (Or.inl ⟨by rfl, ?_⟩) hH ?_
  rotate_left
  · (intro W hSw; (try dsimp only at hSw); go_simp; try with_reducible rfl)
  try simp only [List.getElem_toArray, List.getElem_cons_zero, List.getElem_cons_succ, Act.put, List.setIfInBounds_toArray, List.set_cons_zero, List.set_cons_succ]
  refine wpAnyH_take (i := 5) (v := ?_) rfl (by kernel_rfl) (by kernel_rfl) (by kernel_rfl) (fun _ _ _ h => h) (Or.inl ⟨by rfl, ?_⟩) hH ?_
  rotate_left
  · (intro W hSw; (try dsimp only at hSw); go_simp; try with_reducible rfl)
  try simp only [List.getElem_toArray, List.getElem_cons_zero, List.getElem_cons_succ, Act.put, List.setIfInBounds_toArray, List.set_cons_zero, List.set_cons_succ]
  refine wpAnyH_take (i := 6) (v := ?_) rfl (by kernel_rfl) (by kernel_rfl) (by kernel_rfl) (fun _ _ _ h => h) (Or.inl ⟨by rfl, ?_⟩) hH ?_
  rotate_left
  · (intro W hSw; (try dsimp only at hSw); go_simp; try with_reducible rfl)
  try simp only [List.getElem_toArray, List.getElem_cons_zero, List.getElem_cons_succ, Act.put, List.setIfInBounds_toArray, List.set_cons_zero, List.set_cons_succ]
  refine wpAnyH_take (i := 7) (v := ?_) rfl (by kernel_rfl) (by kernel_rfl) (by kernel_rfl) (fun _ _ _ h => h) (Or.inl ⟨by rfl, ?_⟩) hH ?_
  rotate_left
  · (intro W hSw; (try dsimp only at hSw); go_simp; try with_reducible rfl)
  try simp only [List.getElem_toArray, List.getElem_cons_zero, List.getElem_cons_succ, Act.put, List.setIfInBounds_toArray, List.set_cons_zero, List.set_cons_succ]
  refine wpAnyH_take (i := 8) (v := ?_) rfl (by kernel_rfl) (by kernel_rfl) (by kernel_rfl) (fun _ _ _ h => h) (Or.inl ⟨by rfl, ?_⟩) hH ?_
  rotate_left
  · (intro W hSw; (try dsimp only at hSw); go_simp; try with_reducible rfl)
  try simp only [List.getElem_toArray, List.getElem_cons_zero, List.getElem_cons_succ, Act.put, List.setIfInBounds_toArray, List.set_cons_zero, List.set_cons_succ]
  refine wpAnyH_take (i := 9) (v := undef) rfl (by kernel_rfl) (by kernel_rfl) (by kernel_rfl) (fun _ _ _ h => h) (Or.inr ⟨by rfl, rfl⟩) hH ?_
  try simp only [List.getElem_toArray, List.getElem_cons_zero, List.getElem_cons_succ, Act.put, List.setIfInBounds_toArray, List.set_cons_zero, List.set_cons_succ]
  refine wpAnyH_take (i := 10) (v := undef) rfl (by kernel_rfl) (by kernel_rfl) (by kernel_rfl) (fun _ _ _ h => h) (Or.inr ⟨by rfl, rfl⟩) hH ?_
  try simp only [List.getElem_toArray, List.getElem_cons_zero, List.getElem_cons_succ, Act.put, List.setIfInBounds_toArray, List.set_cons_zero, List.set_cons_succ]
  refine wpAnyH_take (i := 11) (v := undef) rfl (by kernel_rfl) (by kernel_rfl) (by kernel_rfl) (fun _ _ _ h => h) (Or.inr ⟨by rfl, rfl⟩) hH ?_
  try simp only [List.getElem_toArray, List.getElem_cons_zero, List.getElem_cons_succ, Act.put, List.setIfInBounds_toArray, List.set_cons_zero, List.set_cons_succ]
  refine wpAnyH_take (i := 12) (v := undef) rfl (by kernel_rfl) (by kernel_rfl) (by kernel_rfl) (fun _ _ _ h => h) (Or.inr ⟨by rfl, rfl⟩) hH ?_
  try simp only [List.getElem_toArray, List.getElem_cons_zero, List.getElem_cons_succ, Act.put, List.setIfInBounds_toArray, List.set_cons_zero, List.set_cons_succ]
  refine wpAnyH_take (i := 13) (v := undef) rfl (by kernel_rfl) (by kernel_rfl) (by kernel_rfl) (fun _ _ _ h => h) (Or.inr ⟨by rfl, rfl⟩) hH ?_
  try simp only [List.getElem_toArray, List.getElem_cons_zero, List.getElem_cons_succ, Act.put, List.setIfInBounds_toArray, List.set_cons_zero, List.set_cons_succ]
  refine wpAnyH_take (i := 14) (v := undef) rfl (by kernel_rfl) (by kernel_rfl) (by kernel_rfl) (fun _ _ _ h => h) (Or.inr ⟨by rfl, rfl⟩) hH ?_
  try simp only [List.getElem_toArray, List.getElem_cons_zero, List.getElem_cons_succ, Act.put, List.setIfInBounds_toArray, List.set_cons_zero, List.set_cons_succ]
  refine wpAnyH_take (i := 15) (v := undef) rfl (by kernel_rfl) (by kernel_rfl) (by kernel_rfl) (fun _ _ _ h => h) (Or.inr ⟨by rfl, rfl⟩) hH ?_
  try simp only [List.getElem_toArray, List.getElem_cons_zero, List.getElem_cons_succ, Act.put, List.setIfInBounds_toArray, List.set_cons_zero, List.set_cons_succ]
  refine wpAnyH_take (i := 16) (v := undef) rfl (by kernel_rfl) (by kernel_rfl) (by kernel_rfl) (fun _ _ _ h => h) (Or.inr ⟨by rfl, rfl⟩) hH ?_
  try simp only [List.getElem_toArray, List.getElem_cons_zero, List.getElem_cons_succ, Act.put, List.setIfInBounds_toArray, List.set_cons_zero, List.set_cons_succ]
  refine wpAnyH_take (i := 17) (v := undef) rfl (by kernel_rfl) (by kernel_rfl) (by kernel_rfl) (fun _ _ _ h => h) (Or.inr ⟨by rfl, rfl⟩) hH ?_
  try simp only [List.getElem_toArray, List.getElem_cons_zero, List.getElem_cons_succ, Act.put, List.setIfInBounds_toArray, List.set_cons_zero, List.set_cons_succ]
  refine wpAnyH_take (i := 18) (v := undef) rfl (by kernel_rfl) (by kernel_rfl) (by kernel_rfl) (fun _ _ _ h => h) (Or.inr ⟨by rfl, rfl⟩) hH ?_
  try simp only [List.getElem_toArray, List.getElem_cons_zero, List.getElem_cons_succ, Act.put, List.setIfInBounds_toArray, List.set_cons_zero, List.set_cons_succ]
  refine wpAnyH_take (i := 19) (v := ?_) rfl (by kernel_rfl) (by kernel_rfl) (by kernel_rfl) (fun _ _ _ h => h) (Or.inl ⟨by rfl, ?_⟩) hH ?_
  rotate_left
  · (intro W hSw; (try dsimp only at hSw); go_simp; try with_reducible rfl)
  try simp only [List.getElem_toArray, List.getElem_cons_zero, List.getElem_cons_succ, Act.put, List.setIfInBounds_toArray, List.set_cons_zero, List.set_cons_succ]
  refine wpAnyH_done (by kernel_rfl) ?_ _
  go_wp2
  go_ret2
  exact ⟨rfl, hst1.out _ hM1.out hv.out, below_s1 (hB1)⟩

set_option maxHeartbeats 2000000 in
theorem fits_set_not (s p : ByteArray) (gk N i j : Nat) (val : Nat → Nat → Bool) (w : World) (hs : s.size ≤ 1048576) (hp : p.size ≤ 1048576) (hN : N = (s.size + 1) * (p.size + 1)) (hi : i ≤ s.size) (hj : j ≤ p.size) (hM : Memo w gk s.size p.size val) (hc : w.cell? ⟨gk, i * (p.size + 1) + j, none⟩ = some (.int .i64 0)) (hjl : j < p.size) (jm : ((j : Int) == (p.size : Int)) = false) (hil : i < s.size) (il : decide ((i : Int) < (s.size : Int)) = true) (q37 : ((p[j].toNat : Int) == 37) = false) (q42 : ((p[j].toNat : Int) == 42) = false) (q91 : ((p[j].toNat : Int) == 91) = true) (q95 : ((p[j].toNat : Int) == 95) = false) (q63 : ((p[j].toNat : Int) == 63) = false) (k : Nat) (hk : j + k < p.size) (hE : Hid (endR (p.extract j p.size).data.toList = (k : Int))) (k0 : 0 < k) (hT : Hid (Fit.takesR ((p.extract j (j + k)).data.toList.drop 1) s[i] = false)) (hv : Hid (val i j = false)) :
    Calls Tryz.prog 49 #[.string s, .string p, .bool true, .slice (some ⟨gk, 0, none⟩) N N, .int .i64 (i : Int), .int .i64 (j : Int)] w (RetFits gk N s.size p.size val false w) := by
  obtain ⟨a, ha⟩ : ∃ a, i * (p.size + 1) = a := ⟨_, rfl⟩
  have hlt := place_lt hi hj
  have hset := hM.set hi hj (val := val)
  have hMij : ∀ W, Memo W gk s.size p.size val → ∃ v : Int, W.cell? ⟨gk, i * (p.size + 1) + j, none⟩ = some (.int .i64 v) ∧ W.frozen? ⟨gk, i * (p.size + 1) + j, none⟩ = false := fun W h => by
    obtain ⟨v, h1, h2, _⟩ := h.2 i j hi hj
    exact ⟨v, h1, h2⟩
  have hst1 : ∀ W, Memo W gk s.size p.size val → val i j = false → Memo (W.setCell ⟨gk, i * (p.size + 1) + j, none⟩ (.int .i64 1)) gk s.size p.size val := fun W h hv => h.set hi hj hv
  have hst2 : ∀ W, Memo W gk s.size p.size val → val i j = true → Memo ((W.setCell ⟨gk, i * (p.size + 1) + j, none⟩ (.int .i64 1)).setCell ⟨gk, i * (p.size + 1) + j, none⟩ (.int .i64 2)) gk s.size p.size val := fun W h hv => h.set2 hi hj hv
  clear hset
  rw [← hN, ha] at hlt
  rw [ha] at hc hMij hst1 hst2
  have h2 : (s.size + 1) * (p.size + 1) ≤ 1048577 * 1048577 := Nat.mul_le_mul (by omega) (by omega)
  rw [← hN] at h2
  have e1 : (i : Int) * ((p.size : Int) + 1) = (a : Int) := by rw [← ha]; simp
  have i0 : (0 : Int) ≤ (a : Int) + (j : Int) := by omega
  have i1 : (a : Int) + (j : Int) < (N : Int) := by omega
  have i2 : ((a : Int) + (j : Int)).toNat = a + j := by omega
  obtain ⟨_, hf⟩ := hMij w hM
  obtain ⟨_, hf⟩ := hf
  replace hM := Lib.hid hM
  replace hMij := Lib.hid hMij
  replace hst1 := Lib.hid hst1
  replace hst2 := Lib.hid hst2
  clear ha hN hi hj
  go_enter Tryz.func49, Tryz.ntmps49
  have j0 : (0 : Int) ≤ (j : Int) := by omega
  have j1 : (j : Int) < (p.size : Int) := by omega
  have k0 : (0 : Int) ≤ (i : Int) := by omega
  have k1 : (i : Int) < (s.size : Int) := by omega
  have sl0 : (j : Int) ≤ (p.size : Int) := by omega
  have sl1 : j ≤ p.size := by omega
  have kp : decide ((k : Int) ≥ 0) = true := decide_eq_true (by omega)
  have kp2 : (0 : Int) ≤ (k : Int) := by omega
  have hwr : IntKind.i64.wrap ((j : Int) + (k : Int)) = (j : Int) + (k : Int) := by rw [IntKind.wrap_i64]; omega
  have kq : (j : Int) + (k : Int) ≤ (p.size : Int) := by omega
  have kq0 : (0 : Int) ≤ (j : Int) + (k : Int) := by omega
  have kq1 : (j : Int) ≤ (j : Int) + (k : Int) := by omega
  have kq2 : ((j : Int) + (k : Int)).toNat = j + k := by omega
  go_wp2_with (go_at_call 109; refine (rend_any _ _ (by simp; omega) (by simp; omega) _ hE).mono ?_; rintro e w1 ⟨rfl, rfl⟩)
  obtain ⟨W1, hW1⟩ : ∃ W, w.drew = W := ⟨_, rfl⟩
  have hB1 : Below gk w W1 := by rw [← hW1]; exact (Below.refl _ _).drew
  have hM1 : Memo W1 gk s.size p.size val := by rw [← hW1]; exact hM.out.drew
  obtain ⟨v1, c1, f1⟩ := hMij.out W1 hM1
  refine wp_region_held_drew (S := fun _ => True) (by kernel_rfl) trivial (fun hH => ?_)
  rw [hW1]
  clear hW1
  replace hM1 := Lib.hid hM1
  refine wpAnyH_take (i := 0) (v := ?_) rfl (by kernel_rfl) (by kernel_rfl) (by kernel_rfl) (fun _ _ _ h => h) (Or.inl ⟨by rfl, ?_⟩) hH ?_
  rotate_left
  · (intro W hSw; (try dsimp only at hSw); go_simp; try with_reducible rfl)
  try simp only [List.getElem_toArray, List.getElem_cons_zero, List.getElem_cons_succ, Act.put, List.setIfInBounds_toArray, List.set_cons_zero, List.set_cons_succ]
  refine wpAnyH_take (i := 1) (v := ?_) rfl (by kernel_rfl) (by kernel_rfl) (by kernel_rfl) (fun _ _ _ h => h) (Or.inl ⟨by rfl, ?_⟩) hH ?_
  rotate_left
  · (intro W hSw; (try dsimp only at hSw); go_simp; try with_reducible rfl)
  try simp only [List.getElem_toArray, List.getElem_cons_zero, List.getElem_cons_succ, Act.put, List.setIfInBounds_toArray, List.set_cons_zero, List.set_cons_succ]
  refine wpAnyH_take (i := 2) (v := ?_) rfl (by kernel_rfl) (by kernel_rfl) (by kernel_rfl) (fun _ _ _ h => h) (Or.inl ⟨by rfl, ?_⟩) hH ?_
  rotate_left
  · (intro W hSw; (try dsimp only at hSw); go_simp; try with_reducible rfl)
  try simp only [List.getElem_toArray, List.getElem_cons_zero, List.getElem_cons_succ, Act.put, List.setIfInBounds_toArray, List.set_cons_zero, List.set_cons_succ]
  refine wpAnyH_take (i := 3) (v := ?_) rfl (by kernel_rfl) (by kernel_rfl) (by kernel_rfl) (fun _ _ _ h => h) (Or.inl ⟨by rfl, ?_⟩) hH ?_
  rotate_left
  · (intro W hSw; (try dsimp only at hSw); go_simp; try with_reducible rfl)
  try simp only [List.getElem_toArray, List.getElem_cons_zero, List.getElem_cons_succ, Act.put, List.setIfInBounds_toArray, List.set_cons_zero, List.set_cons_succ]
  refine wpAnyH_take (i := 4) (v := ?_) rfl (by kernel_rfl) (by kernel_rfl) (by kernel_rfl) (fun _ _ _ h => h) (Or.inl ⟨by rfl, ?_⟩) hH ?_
  rotate_left
  · (intro W hSw; (try dsimp only at hSw); go_simp; try with_reducible rfl)
  try simp only [List.getElem_toArray, List.getElem_cons_zero, List.getElem_cons_succ, Act.put, List.setIfInBounds_toArray, List.set_cons_zero, List.set_cons_succ]
  refine wpAnyH_take (i := 5) (v := ?_) rfl (by kernel_rfl) (by kernel_rfl) (by kernel_rfl) (fun _ _ _ h => h) (Or.inl ⟨by rfl, ?_⟩) hH ?_
  rotate_left
  · (intro W hSw; (try dsimp only at hSw); go_simp; try with_reducible rfl)
  try simp only [List.getElem_toArray, List.getElem_cons_zero, List.getElem_cons_succ, Act.put, List.setIfInBounds_toArray, List.set_cons_zero, List.set_cons_succ]
  refine wpAnyH_take (i := 6) (v := ?_) rfl (by kernel_rfl) (by kernel_rfl) (by kernel_rfl) (fun _ _ _ h => h) (Or.inl ⟨by rfl, ?_⟩) hH ?_
  rotate_left
  · (intro W hSw; (try dsimp only at hSw); go_simp; try with_reducible rfl)
  try simp only [List.getElem_toArray, List.getElem_cons_zero, List.getElem_cons_succ, Act.put, List.setIfInBounds_toArray, List.set_cons_zero, List.set_cons_succ]
  refine wpAnyH_take (i := 7) (v := ?_) rfl (by kernel_rfl) (by kernel_rfl) (by kernel_rfl) (fun _ _ _ h => h) (Or.inl ⟨by rfl, ?_⟩) hH ?_
  rotate_left
  · (intro W hSw; (try dsimp only at hSw); go_simp; try with_reducible rfl)
  try simp only [List.getElem_toArray, List.getElem_cons_zero, List.getElem_cons_succ, Act.put, List.setIfInBounds_toArray, List.set_cons_zero, List.set_cons_succ]
  refine wpAnyH_take (i := 8) (v := ?_) rfl (by kernel_rfl) (by kernel_rfl) (by kernel_rfl) (fun _ _ _ h => h) (Or.inl ⟨by rfl, ?_⟩) hH ?_
  rotate_left
  · (intro W hSw; (try dsimp only at hSw); go_simp; try with_reducible rfl)
  try simp only [List.getElem_toArray, List.getElem_cons_zero, List.getElem_cons_succ, Act.put, List.setIfInBounds_toArray, List.set_cons_zero, List.set_cons_succ]
  refine wpAnyH_take (i := 9) (v := ?_) rfl (by kernel_rfl) (by kernel_rfl) (by kernel_rfl) (fun _ _ _ h => h) (Or.inl ⟨by rfl, ?_⟩) hH ?_
  rotate_left
  · (intro W hSw; (try dsimp only at hSw); go_simp; try with_reducible rfl)
  try simp only [List.getElem_toArray, List.getElem_cons_zero, List.getElem_cons_succ, Act.put, List.setIfInBounds_toArray, List.set_cons_zero, List.set_cons_succ]
  refine wpAnyH_take (i := 10) (v := ?_) rfl (by kernel_rfl) (by kernel_rfl) (by kernel_rfl) (fun _ _ _ h => h) (Or.inl ⟨by rfl, ?_⟩) hH ?_
  rotate_left
  · (intro W hSw; (try dsimp only at hSw); go_simp; try with_reducible rfl)
  try simp only [List.getElem_toArray, List.getElem_cons_zero, List.getElem_cons_succ, Act.put, List.setIfInBounds_toArray, List.set_cons_zero, List.set_cons_succ]
  refine wpAnyH_take (i := 11) (v := ?_) rfl (by kernel_rfl) (by kernel_rfl) (by kernel_rfl) (fun _ _ _ h => h) (Or.inl ⟨by rfl, ?_⟩) hH ?_
  rotate_left
  · (intro W hSw; (try dsimp only at hSw); go_simp; try with_reducible rfl)
  try simp only [List.getElem_toArray, List.getElem_cons_zero, List.getElem_cons_succ, Act.put, List.setIfInBounds_toArray, List.set_cons_zero, List.set_cons_succ]
  refine wpAnyH_take (i := 12) (v := ?_) rfl (by kernel_rfl) (by kernel_rfl) (by kernel_rfl) (fun _ _ _ h => h) (Or.inl ⟨by rfl, ?_⟩) hH ?_
  rotate_left
  · (intro W hSw; (try dsimp only at hSw); go_simp; try with_reducible rfl)
  try simp only [List.getElem_toArray, List.getElem_cons_zero, List.getElem_cons_succ, Act.put, List.setIfInBounds_toArray, List.set_cons_zero, List.set_cons_succ]
  refine wpAnyH_take (i := 13) (v := ?_) rfl (by kernel_rfl) (by kernel_rfl) (by kernel_rfl) (fun _ _ _ h => h) (Or.inl ⟨by rfl, ?_⟩) hH ?_
  rotate_left
  · (intro W hSw; (try dsimp only at hSw); go_simp; try with_reducible rfl)
  try simp only [List.getElem_toArray, List.getElem_cons_zero, List.getElem_cons_succ, Act.put, List.setIfInBounds_toArray, List.set_cons_zero, List.set_cons_succ]
  refine wpAnyH_take (i := 14) (v := ?_) rfl (by kernel_rfl) (by kernel_rfl) (by kernel_rfl) (fun _ _ _ h => h) (Or.inl ⟨by rfl, ?_⟩) hH ?_
  rotate_left
  · (intro W hSw; (try dsimp only at hSw); go_simp; try with_reducible rfl)
  try simp only [List.getElem_toArray, List.getElem_cons_zero, List.getElem_cons_succ, Act.put, List.setIfInBounds_toArray, List.set_cons_zero, List.set_cons_succ]
  refine wpAnyH_take (i := 15) (v := ?_) rfl (by kernel_rfl) (by kernel_rfl) (by kernel_rfl) (fun _ _ _ h => h) (Or.inl ⟨by rfl, ?_⟩) hH ?_
  rotate_left
  · (intro W hSw; (try dsimp only at hSw); go_simp; try with_reducible rfl)
  try simp only [List.getElem_toArray, List.getElem_cons_zero, List.getElem_cons_succ, Act.put, List.setIfInBounds_toArray, List.set_cons_zero, List.set_cons_succ]
  refine wpAnyH_take (i := 16) (v := ?_) rfl (by kernel_rfl) (by kernel_rfl) (by kernel_rfl) (fun _ _ _ h => h) (Or.inl ⟨by rfl, ?_⟩) hH ?_
  rotate_left
  · (intro W hSw; (try dsimp only at hSw); go_simp; try with_reducible rfl)
  try simp only [List.getElem_toArray, List.getElem_cons_zero, List.getElem_cons_succ, Act.put, List.setIfInBounds_toArray, List.set_cons_zero, List.set_cons_succ]
  refine wpAnyH_take (i := 17) (v := ?_) rfl (by kernel_rfl) (by kernel_rfl) (by kernel_rfl) (fun _ _ _ h => h) (Or.inl ⟨by rfl, ?_⟩) hH ?_
  rotate_left
  · (intro W hSw; (try dsimp only at hSw); go_simp; try with_reducible rfl)
  try simp only [List.getElem_toArray, List.getElem_cons_zero, List.getElem_cons_succ, Act.put, List.setIfInBounds_toArray, List.set_cons_zero, List.set_cons_succ]
  refine wpAnyH_ready (rs := [18]) (by kernel_rfl) (by simp) ?_
  refine AllReadyH.cons rfl (fun K hK => ?_) AllReadyH.nil
  go_simp
  go_at_call 110; refine (rtakes_any _ _ _ (by simp; omega) (by simp; omega) _ hT).mono ?_; rintro e w5 ⟨rfl, rfl⟩
  refine hK.out _ _ ?_ (fun _ => ?_)
  · exact trivial
  clear hK K
  try simp only [List.getElem_toArray, List.getElem_cons_zero, List.getElem_cons_succ, Act.put, List.setIfInBounds_toArray, List.set_cons_zero, List.set_cons_succ]
  refine wpAnyH_take (i := 19) (v := ?_) rfl (by kernel_rfl) (by kernel_rfl) (by kernel_rfl) (fun _ _ _ h => h) (Or.inl ⟨by rfl, ?_⟩) hH ?_
  rotate_left
  · (intro W hSw; (try dsimp only at hSw); go_simp; try with_reducible rfl)
  try simp only [List.getElem_toArray, List.getElem_cons_zero, List.getElem_cons_succ, Act.put, List.setIfInBounds_toArray, List.set_cons_zero, List.set_cons_succ]
  refine wpAnyH_done (by kernel_rfl) ?_ _
  go_wp2
  go_ret2
  exact ⟨rfl, hst1.out _ hM1.out hv.out, below_s1 (hB1)⟩

set_option maxHeartbeats 2000000 in
theorem fits_set_true (s p : ByteArray) (gk N i j : Nat) (val : Nat → Nat → Bool) (w : World) (hs : s.size ≤ 1048576) (hp : p.size ≤ 1048576) (hN : N = (s.size + 1) * (p.size + 1)) (hi : i ≤ s.size) (hj : j ≤ p.size) (hM : Memo w gk s.size p.size val) (hc : w.cell? ⟨gk, i * (p.size + 1) + j, none⟩ = some (.int .i64 0)) (hjl : j < p.size) (jm : ((j : Int) == (p.size : Int)) = false) (hil : i < s.size) (il : decide ((i : Int) < (s.size : Int)) = true) (q37 : ((p[j].toNat : Int) == 37) = false) (q42 : ((p[j].toNat : Int) == 42) = false) (q91 : ((p[j].toNat : Int) == 91) = true) (q95 : ((p[j].toNat : Int) == 95) = false) (q63 : ((p[j].toNat : Int) == 63) = false) (k : Nat) (hk : j + k < p.size) (hE : Hid (endR (p.extract j p.size).data.toList = (k : Int))) (k0 : 0 < k) (hT : Hid (Fit.takesR ((p.extract j (j + k)).data.toList.drop 1) s[i] = true)) (ih1 : ∀ W, Memo W gk s.size p.size val → Calls Tryz.prog 49 #[.string s, .string p, .bool true, .slice (some ⟨gk, 0, none⟩) N N, .int .i64 ((i : Int) + 1), .int .i64 ((j : Int) + (k : Int) + 1)] W (RetFits gk N s.size p.size val true W)) (hv : Hid (val i j = true)) :
    Calls Tryz.prog 49 #[.string s, .string p, .bool true, .slice (some ⟨gk, 0, none⟩) N N, .int .i64 (i : Int), .int .i64 (j : Int)] w (RetFits gk N s.size p.size val true w) := by
  obtain ⟨a, ha⟩ : ∃ a, i * (p.size + 1) = a := ⟨_, rfl⟩
  have hlt := place_lt hi hj
  have hset := hM.set hi hj (val := val)
  have hMij : ∀ W, Memo W gk s.size p.size val → ∃ v : Int, W.cell? ⟨gk, i * (p.size + 1) + j, none⟩ = some (.int .i64 v) ∧ W.frozen? ⟨gk, i * (p.size + 1) + j, none⟩ = false := fun W h => by
    obtain ⟨v, h1, h2, _⟩ := h.2 i j hi hj
    exact ⟨v, h1, h2⟩
  have hst1 : ∀ W, Memo W gk s.size p.size val → val i j = false → Memo (W.setCell ⟨gk, i * (p.size + 1) + j, none⟩ (.int .i64 1)) gk s.size p.size val := fun W h hv => h.set hi hj hv
  have hst2 : ∀ W, Memo W gk s.size p.size val → val i j = true → Memo ((W.setCell ⟨gk, i * (p.size + 1) + j, none⟩ (.int .i64 1)).setCell ⟨gk, i * (p.size + 1) + j, none⟩ (.int .i64 2)) gk s.size p.size val := fun W h hv => h.set2 hi hj hv
  clear hset
  rw [← hN, ha] at hlt
  rw [ha] at hc hMij hst1 hst2
  have h2 : (s.size + 1) * (p.size + 1) ≤ 1048577 * 1048577 := Nat.mul_le_mul (by omega) (by omega)
  rw [← hN] at h2
  have e1 : (i : Int) * ((p.size : Int) + 1) = (a : Int) := by rw [← ha]; simp
  have i0 : (0 : Int) ≤ (a : Int) + (j : Int) := by omega
  have i1 : (a : Int) + (j : Int) < (N : Int) := by omega
  have i2 : ((a : Int) + (j : Int)).toNat = a + j := by omega
  obtain ⟨_, hf⟩ := hMij w hM
  obtain ⟨_, hf⟩ := hf
  replace hM := Lib.hid hM
  replace hMij := Lib.hid hMij
  replace hst1 := Lib.hid hst1
  replace hst2 := Lib.hid hst2
  clear ha hN hi hj
  go_enter Tryz.func49, Tryz.ntmps49
  have j0 : (0 : Int) ≤ (j : Int) := by omega
  have j1 : (j : Int) < (p.size : Int) := by omega
  have k0 : (0 : Int) ≤ (i : Int) := by omega
  have k1 : (i : Int) < (s.size : Int) := by omega
  have sl0 : (j : Int) ≤ (p.size : Int) := by omega
  have sl1 : j ≤ p.size := by omega
  have kp : decide ((k : Int) ≥ 0) = true := decide_eq_true (by omega)
  have kp2 : (0 : Int) ≤ (k : Int) := by omega
  have hwr : IntKind.i64.wrap ((j : Int) + (k : Int)) = (j : Int) + (k : Int) := by rw [IntKind.wrap_i64]; omega
  have kq : (j : Int) + (k : Int) ≤ (p.size : Int) := by omega
  have kq0 : (0 : Int) ≤ (j : Int) + (k : Int) := by omega
  have kq1 : (j : Int) ≤ (j : Int) + (k : Int) := by omega
  have kq2 : ((j : Int) + (k : Int)).toNat = j + k := by omega
  go_wp2_with (go_at_call 109; refine (rend_any _ _ (by simp; omega) (by simp; omega) _ hE).mono ?_; rintro e w1 ⟨rfl, rfl⟩)
  obtain ⟨W1, hW1⟩ : ∃ W, w.drew = W := ⟨_, rfl⟩
  have hB1 : Below gk w W1 := by rw [← hW1]; exact (Below.refl _ _).drew
  have hM1 : Memo W1 gk s.size p.size val := by rw [← hW1]; exact hM.out.drew
  obtain ⟨v1, c1, f1⟩ := hMij.out W1 hM1
  refine wp_region_held_drew (S := fun _ => True) (by kernel_rfl) trivial (fun hH => ?_)
  rw [hW1]
  clear hW1
  replace hM1 := Lib.hid hM1
  refine wpAnyH_take (i := 0) (v := ?_) rfl (by kernel_rfl) (by kernel_rfl) (by kernel_rfl) (fun _ _ _ h => h) (Or.inl ⟨by rfl, ?_⟩) hH ?_
  rotate_left
  · (intro W hSw; (try dsimp only at hSw); go_simp; try with_reducible rfl)
  try simp only [List.getElem_toArray, List.getElem_cons_zero, List.getElem_cons_succ, Act.put, List.setIfInBounds_toArray, List.set_cons_zero, List.set_cons_succ]
  refine wpAnyH_take (i := 1) (v := ?_) rfl (by kernel_rfl) (by kernel_rfl) (by kernel_rfl) (fun _ _ _ h => h) (Or.inl ⟨by rfl, ?_⟩) hH ?_
  rotate_left
  · (intro W hSw; (try dsimp only at hSw); go_simp; try with_reducible rfl)
  try simp only [List.getElem_toArray, List.getElem_cons_zero, List.getElem_cons_succ, Act.put, List.setIfInBounds_toArray, List.set_cons_zero, List.set_cons_succ]
  refine wpAnyH_take (i := 2) (v := ?_) rfl (by kernel_rfl) (by kernel_rfl) (by kernel_rfl) (fun _ _ _ h => h) (Or.inl ⟨by rfl, ?_⟩) hH ?_
  rotate_left
  · (intro W hSw; (try dsimp only at hSw); go_simp; try with_reducible rfl)
  try simp only [List.getElem_toArray, List.getElem_cons_zero, List.getElem_cons_succ, Act.put, List.setIfInBounds_toArray, List.set_cons_zero, List.set_cons_succ]
  refine wpAnyH_take (i := 3) (v := ?_) rfl (by kernel_rfl) (by kernel_rfl) (by kernel_rfl) (fun _ _ _ h => h) (Or.inl ⟨by rfl, ?_⟩) hH ?_
  rotate_left
  · (intro W hSw; (try dsimp only at hSw); go_simp; try with_reducible rfl)
  try simp only [List.getElem_toArray, List.getElem_cons_zero, List.getElem_cons_succ, Act.put, List.setIfInBounds_toArray, List.set_cons_zero, List.set_cons_succ]
  refine wpAnyH_take (i := 4) (v := ?_) rfl (by kernel_rfl) (by kernel_rfl) (by kernel_rfl) (fun _ _ _ h => h) (Or.inl ⟨by rfl, ?_⟩) hH ?_
  rotate_left
  · (intro W hSw; (try dsimp only at hSw); go_simp; try with_reducible rfl)
  try simp only [List.getElem_toArray, List.getElem_cons_zero, List.getElem_cons_succ, Act.put, List.setIfInBounds_toArray, List.set_cons_zero, List.set_cons_succ]
  refine wpAnyH_take (i := 5) (v := ?_) rfl (by kernel_rfl) (by kernel_rfl) (by kernel_rfl) (fun _ _ _ h => h) (Or.inl ⟨by rfl, ?_⟩) hH ?_
  rotate_left
  · (intro W hSw; (try dsimp only at hSw); go_simp; try with_reducible rfl)
  try simp only [List.getElem_toArray, List.getElem_cons_zero, List.getElem_cons_succ, Act.put, List.setIfInBounds_toArray, List.set_cons_zero, List.set_cons_succ]
  refine wpAnyH_take (i := 6) (v := ?_) rfl (by kernel_rfl) (by kernel_rfl) (by kernel_rfl) (fun _ _ _ h => h) (Or.inl ⟨by rfl, ?_⟩) hH ?_
  rotate_left
  · (intro W hSw; (try dsimp only at hSw); go_simp; try with_reducible rfl)
  try simp only [List.getElem_toArray, List.getElem_cons_zero, List.getElem_cons_succ, Act.put, List.setIfInBounds_toArray, List.set_cons_zero, List.set_cons_succ]
  refine wpAnyH_take (i := 7) (v := ?_) rfl (by kernel_rfl) (by kernel_rfl) (by kernel_rfl) (fun _ _ _ h => h) (Or.inl ⟨by rfl, ?_⟩) hH ?_
  rotate_left
  · (intro W hSw; (try dsimp only at hSw); go_simp; try with_reducible rfl)
  try simp only [List.getElem_toArray, List.getElem_cons_zero, List.getElem_cons_succ, Act.put, List.setIfInBounds_toArray, List.set_cons_zero, List.set_cons_succ]
  refine wpAnyH_take (i := 8) (v := ?_) rfl (by kernel_rfl) (by kernel_rfl) (by kernel_rfl) (fun _ _ _ h => h) (Or.inl ⟨by rfl, ?_⟩) hH ?_
  rotate_left
  · (intro W hSw; (try dsimp only at hSw); go_simp; try with_reducible rfl)
  try simp only [List.getElem_toArray, List.getElem_cons_zero, List.getElem_cons_succ, Act.put, List.setIfInBounds_toArray, List.set_cons_zero, List.set_cons_succ]
  refine wpAnyH_take (i := 9) (v := ?_) rfl (by kernel_rfl) (by kernel_rfl) (by kernel_rfl) (fun _ _ _ h => h) (Or.inl ⟨by rfl, ?_⟩) hH ?_
  rotate_left
  · (intro W hSw; (try dsimp only at hSw); go_simp; try with_reducible rfl)
  try simp only [List.getElem_toArray, List.getElem_cons_zero, List.getElem_cons_succ, Act.put, List.setIfInBounds_toArray, List.set_cons_zero, List.set_cons_succ]
  refine wpAnyH_take (i := 10) (v := ?_) rfl (by kernel_rfl) (by kernel_rfl) (by kernel_rfl) (fun _ _ _ h => h) (Or.inl ⟨by rfl, ?_⟩) hH ?_
  rotate_left
  · (intro W hSw; (try dsimp only at hSw); go_simp; try with_reducible rfl)
  try simp only [List.getElem_toArray, List.getElem_cons_zero, List.getElem_cons_succ, Act.put, List.setIfInBounds_toArray, List.set_cons_zero, List.set_cons_succ]
  refine wpAnyH_take (i := 11) (v := ?_) rfl (by kernel_rfl) (by kernel_rfl) (by kernel_rfl) (fun _ _ _ h => h) (Or.inl ⟨by rfl, ?_⟩) hH ?_
  rotate_left
  · (intro W hSw; (try dsimp only at hSw); go_simp; try with_reducible rfl)
  try simp only [List.getElem_toArray, List.getElem_cons_zero, List.getElem_cons_succ, Act.put, List.setIfInBounds_toArray, List.set_cons_zero, List.set_cons_succ]
  refine wpAnyH_take (i := 12) (v := ?_) rfl (by kernel_rfl) (by kernel_rfl) (by kernel_rfl) (fun _ _ _ h => h) (Or.inl ⟨by rfl, ?_⟩) hH ?_
  rotate_left
  · (intro W hSw; (try dsimp only at hSw); go_simp; try with_reducible rfl)
  try simp only [List.getElem_toArray, List.getElem_cons_zero, List.getElem_cons_succ, Act.put, List.setIfInBounds_toArray, List.set_cons_zero, List.set_cons_succ]
  refine wpAnyH_take (i := 13) (v := ?_) rfl (by kernel_rfl) (by kernel_rfl) (by kernel_rfl) (fun _ _ _ h => h) (Or.inl ⟨by rfl, ?_⟩) hH ?_
  rotate_left
  · (intro W hSw; (try dsimp only at hSw); go_simp; try with_reducible rfl)
  try simp only [List.getElem_toArray, List.getElem_cons_zero, List.getElem_cons_succ, Act.put, List.setIfInBounds_toArray, List.set_cons_zero, List.set_cons_succ]
  refine wpAnyH_take (i := 14) (v := ?_) rfl (by kernel_rfl) (by kernel_rfl) (by kernel_rfl) (fun _ _ _ h => h) (Or.inl ⟨by rfl, ?_⟩) hH ?_
  rotate_left
  · (intro W hSw; (try dsimp only at hSw); go_simp; try with_reducible rfl)
  try simp only [List.getElem_toArray, List.getElem_cons_zero, List.getElem_cons_succ, Act.put, List.setIfInBounds_toArray, List.set_cons_zero, List.set_cons_succ]
  refine wpAnyH_take (i := 15) (v := ?_) rfl (by kernel_rfl) (by kernel_rfl) (by kernel_rfl) (fun _ _ _ h => h) (Or.inl ⟨by rfl, ?_⟩) hH ?_
  rotate_left
  · (intro W hSw; (try dsimp only at hSw); go_simp; try with_reducible rfl)
  try simp only [List.getElem_toArray, List.getElem_cons_zero, List.getElem_cons_succ, Act.put, List.setIfInBounds_toArray, List.set_cons_zero, List.set_cons_succ]
  refine wpAnyH_take (i := 16) (v := ?_) rfl (by kernel_rfl) (by kernel_rfl) (by kernel_rfl) (fun _ _ _ h => h) (Or.inl ⟨by rfl, ?_⟩) hH ?_
  rotate_left
  · (intro W hSw; (try dsimp only at hSw); go_simp; try with_reducible rfl)
  try simp only [List.getElem_toArray, List.getElem_cons_zero, List.getElem_cons_succ, Act.put, List.setIfInBounds_toArray, List.set_cons_zero, List.set_cons_succ]
  refine wpAnyH_take (i := 17) (v := ?_) rfl (by kernel_rfl) (by kernel_rfl) (by kernel_rfl) (fun _ _ _ h => h) (Or.inl ⟨by rfl, ?_⟩) hH ?_
  rotate_left
  · (intro W hSw; (try dsimp only at hSw); go_simp; try with_reducible rfl)
  try simp only [List.getElem_toArray, List.getElem_cons_zero, List.getElem_cons_succ, Act.put, List.setIfInBounds_toArray, List.set_cons_zero, List.set_cons_succ]
  refine wpAnyH_ready (rs := [18]) (by kernel_rfl) (by simp) ?_
  refine AllReadyH.cons rfl (fun K hK => ?_) AllReadyH.nil
  go_simp
  go_at_call 110; refine (rtakes_any _ _ _ (by simp; omega) (by simp; omega) _ hT).mono ?_; rintro e w5 ⟨rfl, rfl⟩
  refine hK.out _ _ ?_ (fun _ => ?_)
  · exact trivial
  clear hK K
  try simp only [List.getElem_toArray, List.getElem_cons_zero, List.getElem_cons_succ, Act.put, List.setIfInBounds_toArray, List.set_cons_zero, List.set_cons_succ]
  refine wpAnyH_take (i := 19) (v := ?_) rfl (by kernel_rfl) (by kernel_rfl) (by kernel_rfl) (fun _ _ _ h => h) (Or.inl ⟨by rfl, ?_⟩) hH ?_
  rotate_left
  · (intro W hSw; (try dsimp only at hSw); go_simp; try with_reducible rfl)
  try simp only [List.getElem_toArray, List.getElem_cons_zero, List.getElem_cons_succ, Act.put, List.setIfInBounds_toArray, List.set_cons_zero, List.set_cons_succ]
  refine wpAnyH_done (by kernel_rfl) ?_ _
  go_wp2_with (go_at_call 49; refine (ih1 _ hM1.out).mono ?_; rintro e w2 ⟨rfl, hM2, hB2⟩; obtain ⟨v2, c2, f2⟩ := hMij.out w2 hM2; replace hM2 := Lib.hid hM2)
  go_ret2
  exact ⟨rfl, hst2.out _ hM2.out hv.out, below_s2 (hB1.trans hB2)⟩

set_option maxHeartbeats 2000000 in
theorem fits_set_false (s p : ByteArray) (gk N i j : Nat) (val : Nat → Nat → Bool) (w : World) (hs : s.size ≤ 1048576) (hp : p.size ≤ 1048576) (hN : N = (s.size + 1) * (p.size + 1)) (hi : i ≤ s.size) (hj : j ≤ p.size) (hM : Memo w gk s.size p.size val) (hc : w.cell? ⟨gk, i * (p.size + 1) + j, none⟩ = some (.int .i64 0)) (hjl : j < p.size) (jm : ((j : Int) == (p.size : Int)) = false) (hil : i < s.size) (il : decide ((i : Int) < (s.size : Int)) = true) (q37 : ((p[j].toNat : Int) == 37) = false) (q42 : ((p[j].toNat : Int) == 42) = false) (q91 : ((p[j].toNat : Int) == 91) = true) (q95 : ((p[j].toNat : Int) == 95) = false) (q63 : ((p[j].toNat : Int) == 63) = false) (k : Nat) (hk : j + k < p.size) (hE : Hid (endR (p.extract j p.size).data.toList = (k : Int))) (k0 : 0 < k) (hT : Hid (Fit.takesR ((p.extract j (j + k)).data.toList.drop 1) s[i] = true)) (ih1 : ∀ W, Memo W gk s.size p.size val → Calls Tryz.prog 49 #[.string s, .string p, .bool true, .slice (some ⟨gk, 0, none⟩) N N, .int .i64 ((i : Int) + 1), .int .i64 ((j : Int) + (k : Int) + 1)] W (RetFits gk N s.size p.size val false W)) (hv : Hid (val i j = false)) :
    Calls Tryz.prog 49 #[.string s, .string p, .bool true, .slice (some ⟨gk, 0, none⟩) N N, .int .i64 (i : Int), .int .i64 (j : Int)] w (RetFits gk N s.size p.size val false w) := by
  obtain ⟨a, ha⟩ : ∃ a, i * (p.size + 1) = a := ⟨_, rfl⟩
  have hlt := place_lt hi hj
  have hset := hM.set hi hj (val := val)
  have hMij : ∀ W, Memo W gk s.size p.size val → ∃ v : Int, W.cell? ⟨gk, i * (p.size + 1) + j, none⟩ = some (.int .i64 v) ∧ W.frozen? ⟨gk, i * (p.size + 1) + j, none⟩ = false := fun W h => by
    obtain ⟨v, h1, h2, _⟩ := h.2 i j hi hj
    exact ⟨v, h1, h2⟩
  have hst1 : ∀ W, Memo W gk s.size p.size val → val i j = false → Memo (W.setCell ⟨gk, i * (p.size + 1) + j, none⟩ (.int .i64 1)) gk s.size p.size val := fun W h hv => h.set hi hj hv
  have hst2 : ∀ W, Memo W gk s.size p.size val → val i j = true → Memo ((W.setCell ⟨gk, i * (p.size + 1) + j, none⟩ (.int .i64 1)).setCell ⟨gk, i * (p.size + 1) + j, none⟩ (.int .i64 2)) gk s.size p.size val := fun W h hv => h.set2 hi hj hv
  clear hset
  rw [← hN, ha] at hlt
  rw [ha] at hc hMij hst1 hst2
  have h2 : (s.size + 1) * (p.size + 1) ≤ 1048577 * 1048577 := Nat.mul_le_mul (by omega) (by omega)
  rw [← hN] at h2
  have e1 : (i : Int) * ((p.size : Int) + 1) = (a : Int) := by rw [← ha]; simp
  have i0 : (0 : Int) ≤ (a : Int) + (j : Int) := by omega
  have i1 : (a : Int) + (j : Int) < (N : Int) := by omega
  have i2 : ((a : Int) + (j : Int)).toNat = a + j := by omega
  obtain ⟨_, hf⟩ := hMij w hM
  obtain ⟨_, hf⟩ := hf
  replace hM := Lib.hid hM
  replace hMij := Lib.hid hMij
  replace hst1 := Lib.hid hst1
  replace hst2 := Lib.hid hst2
  clear ha hN hi hj
  go_enter Tryz.func49, Tryz.ntmps49
  have j0 : (0 : Int) ≤ (j : Int) := by omega
  have j1 : (j : Int) < (p.size : Int) := by omega
  have k0 : (0 : Int) ≤ (i : Int) := by omega
  have k1 : (i : Int) < (s.size : Int) := by omega
  have sl0 : (j : Int) ≤ (p.size : Int) := by omega
  have sl1 : j ≤ p.size := by omega
  have kp : decide ((k : Int) ≥ 0) = true := decide_eq_true (by omega)
  have kp2 : (0 : Int) ≤ (k : Int) := by omega
  have hwr : IntKind.i64.wrap ((j : Int) + (k : Int)) = (j : Int) + (k : Int) := by rw [IntKind.wrap_i64]; omega
  have kq : (j : Int) + (k : Int) ≤ (p.size : Int) := by omega
  have kq0 : (0 : Int) ≤ (j : Int) + (k : Int) := by omega
  have kq1 : (j : Int) ≤ (j : Int) + (k : Int) := by omega
  have kq2 : ((j : Int) + (k : Int)).toNat = j + k := by omega
  go_wp2_with (go_at_call 109; refine (rend_any _ _ (by simp; omega) (by simp; omega) _ hE).mono ?_; rintro e w1 ⟨rfl, rfl⟩)
  obtain ⟨W1, hW1⟩ : ∃ W, w.drew = W := ⟨_, rfl⟩
  have hB1 : Below gk w W1 := by rw [← hW1]; exact (Below.refl _ _).drew
  have hM1 : Memo W1 gk s.size p.size val := by rw [← hW1]; exact hM.out.drew
  obtain ⟨v1, c1, f1⟩ := hMij.out W1 hM1
  refine wp_region_held_drew (S := fun _ => True) (by kernel_rfl) trivial (fun hH => ?_)
  rw [hW1]
  clear hW1
  replace hM1 := Lib.hid hM1
  refine wpAnyH_take (i := 0) (v := ?_) rfl (by kernel_rfl) (by kernel_rfl) (by kernel_rfl) (fun _ _ _ h => h) (Or.inl ⟨by rfl, ?_⟩) hH ?_
  rotate_left
  · (intro W hSw; (try dsimp only at hSw); go_simp; try with_reducible rfl)
  try simp only [List.getElem_toArray, List.getElem_cons_zero, List.getElem_cons_succ, Act.put, List.setIfInBounds_toArray, List.set_cons_zero, List.set_cons_succ]
  refine wpAnyH_take (i := 1) (v := ?_) rfl (by kernel_rfl) (by kernel_rfl) (by kernel_rfl) (fun _ _ _ h => h) (Or.inl ⟨by rfl, ?_⟩) hH ?_
  rotate_left
  · (intro W hSw; (try dsimp only at hSw); go_simp; try with_reducible rfl)
  try simp only [List.getElem_toArray, List.getElem_cons_zero, List.getElem_cons_succ, Act.put, List.setIfInBounds_toArray, List.set_cons_zero, List.set_cons_succ]
  refine wpAnyH_take (i := 2) (v := ?_) rfl (by kernel_rfl) (by kernel_rfl) (by kernel_rfl) (fun _ _ _ h => h) (Or.inl ⟨by rfl, ?_⟩) hH ?_
  rotate_left
  · (intro W hSw; (try dsimp only at hSw); go_simp; try with_reducible rfl)
  try simp only [List.getElem_toArray, List.getElem_cons_zero, List.getElem_cons_succ, Act.put, List.setIfInBounds_toArray, List.set_cons_zero, List.set_cons_succ]
  refine wpAnyH_take (i := 3) (v := ?_) rfl (by kernel_rfl) (by kernel_rfl) (by kernel_rfl) (fun _ _ _ h => h) (Or.inl ⟨by rfl, ?_⟩) hH ?_
  rotate_left
  · (intro W hSw; (try dsimp only at hSw); go_simp; try with_reducible rfl)
  try simp only [List.getElem_toArray, List.getElem_cons_zero, List.getElem_cons_succ, Act.put, List.setIfInBounds_toArray, List.set_cons_zero, List.set_cons_succ]
  refine wpAnyH_take (i := 4) (v := ?_) rfl (by kernel_rfl) (by kernel_rfl) (by kernel_rfl) (fun _ _ _ h => h) (Or.inl ⟨by rfl, ?_⟩) hH ?_
  rotate_left
  · (intro W hSw; (try dsimp only at hSw); go_simp; try with_reducible rfl)
  try simp only [List.getElem_toArray, List.getElem_cons_zero, List.getElem_cons_succ, Act.put, List.setIfInBounds_toArray, List.set_cons_zero, List.set_cons_succ]
  refine wpAnyH_take (i := 5) (v := ?_) rfl (by kernel_rfl) (by kernel_rfl) (by kernel_rfl) (fun _ _ _ h => h) (Or.inl ⟨by rfl, ?_⟩) hH ?_
  rotate_left
  · (intro W hSw; (try dsimp only at hSw); go_simp; try with_reducible rfl)
  try simp only [List.getElem_toArray, List.getElem_cons_zero, List.getElem_cons_succ, Act.put, List.setIfInBounds_toArray, List.set_cons_zero, List.set_cons_succ]
  refine wpAnyH_take (i := 6) (v := ?_) rfl (by kernel_rfl) (by kernel_rfl) (by kernel_rfl) (fun _ _ _ h => h) (Or.inl ⟨by rfl, ?_⟩) hH ?_
  rotate_left
  · (intro W hSw; (try dsimp only at hSw); go_simp; try with_reducible rfl)
  try simp only [List.getElem_toArray, List.getElem_cons_zero, List.getElem_cons_succ, Act.put, List.setIfInBounds_toArray, List.set_cons_zero, List.set_cons_succ]
  refine wpAnyH_take (i := 7) (v := ?_) rfl (by kernel_rfl) (by kernel_rfl) (by kernel_rfl) (fun _ _ _ h => h) (Or.inl ⟨by rfl, ?_⟩) hH ?_
  rotate_left
  · (intro W hSw; (try dsimp only at hSw); go_simp; try with_reducible rfl)
  try simp only [List.getElem_toArray, List.getElem_cons_zero, List.getElem_cons_succ, Act.put, List.setIfInBounds_toArray, List.set_cons_zero, List.set_cons_succ]
  refine wpAnyH_take (i := 8) (v := ?_) rfl (by kernel_rfl) (by kernel_rfl) (by kernel_rfl) (fun _ _ _ h => h) (Or.inl ⟨by rfl, ?_⟩) hH ?_
  rotate_left
  · (intro W hSw; (try dsimp only at hSw); go_simp; try with_reducible rfl)
  try simp only [List.getElem_toArray, List.getElem_cons_zero, List.getElem_cons_succ, Act.put, List.setIfInBounds_toArray, List.set_cons_zero, List.set_cons_succ]
  refine wpAnyH_take (i := 9) (v := ?_) rfl (by kernel_rfl) (by kernel_rfl) (by kernel_rfl) (fun _ _ _ h => h) (Or.inl ⟨by rfl, ?_⟩) hH ?_
  rotate_left
  · (intro W hSw; (try dsimp only at hSw); go_simp; try with_reducible rfl)
  try simp only [List.getElem_toArray, List.getElem_cons_zero, List.getElem_cons_succ, Act.put, List.setIfInBounds_toArray, List.set_cons_zero, List.set_cons_succ]
  refine wpAnyH_take (i := 10) (v := ?_) rfl (by kernel_rfl) (by kernel_rfl) (by kernel_rfl) (fun _ _ _ h => h) (Or.inl ⟨by rfl, ?_⟩) hH ?_
  rotate_left
  · (intro W hSw; (try dsimp only at hSw); go_simp; try with_reducible rfl)
  try simp only [List.getElem_toArray, List.getElem_cons_zero, List.getElem_cons_succ, Act.put, List.setIfInBounds_toArray, List.set_cons_zero, List.set_cons_succ]
  refine wpAnyH_take (i := 11) (v := ?_) rfl (by kernel_rfl) (by kernel_rfl) (by kernel_rfl) (fun _ _ _ h => h) (Or.inl ⟨by rfl, ?_⟩) hH ?_
  rotate_left
  · (intro W hSw; (try dsimp only at hSw); go_simp; try with_reducible rfl)
  try simp only [List.getElem_toArray, List.getElem_cons_zero, List.getElem_cons_succ, Act.put, List.setIfInBounds_toArray, List.set_cons_zero, List.set_cons_succ]
  refine wpAnyH_take (i := 12) (v := ?_) rfl (by kernel_rfl) (by kernel_rfl) (by kernel_rfl) (fun _ _ _ h => h) (Or.inl ⟨by rfl, ?_⟩) hH ?_
  rotate_left
  · (intro W hSw; (try dsimp only at hSw); go_simp; try with_reducible rfl)
  try simp only [List.getElem_toArray, List.getElem_cons_zero, List.getElem_cons_succ, Act.put, List.setIfInBounds_toArray, List.set_cons_zero, List.set_cons_succ]
  refine wpAnyH_take (i := 13) (v := ?_) rfl (by kernel_rfl) (by kernel_rfl) (by kernel_rfl) (fun _ _ _ h => h) (Or.inl ⟨by rfl, ?_⟩) hH ?_
  rotate_left
  · (intro W hSw; (try dsimp only at hSw); go_simp; try with_reducible rfl)
  try simp only [List.getElem_toArray, List.getElem_cons_zero, List.getElem_cons_succ, Act.put, List.setIfInBounds_toArray, List.set_cons_zero, List.set_cons_succ]
  refine wpAnyH_take (i := 14) (v := ?_) rfl (by kernel_rfl) (by kernel_rfl) (by kernel_rfl) (fun _ _ _ h => h) (Or.inl ⟨by rfl, ?_⟩) hH ?_
  rotate_left
  · (intro W hSw; (try dsimp only at hSw); go_simp; try with_reducible rfl)
  try simp only [List.getElem_toArray, List.getElem_cons_zero, List.getElem_cons_succ, Act.put, List.setIfInBounds_toArray, List.set_cons_zero, List.set_cons_succ]
  refine wpAnyH_take (i := 15) (v := ?_) rfl (by kernel_rfl) (by kernel_rfl) (by kernel_rfl) (fun _ _ _ h => h) (Or.inl ⟨by rfl, ?_⟩) hH ?_
  rotate_left
  · (intro W hSw; (try dsimp only at hSw); go_simp; try with_reducible rfl)
  try simp only [List.getElem_toArray, List.getElem_cons_zero, List.getElem_cons_succ, Act.put, List.setIfInBounds_toArray, List.set_cons_zero, List.set_cons_succ]
  refine wpAnyH_take (i := 16) (v := ?_) rfl (by kernel_rfl) (by kernel_rfl) (by kernel_rfl) (fun _ _ _ h => h) (Or.inl ⟨by rfl, ?_⟩) hH ?_
  rotate_left
  · (intro W hSw; (try dsimp only at hSw); go_simp; try with_reducible rfl)
  try simp only [List.getElem_toArray, List.getElem_cons_zero, List.getElem_cons_succ, Act.put, List.setIfInBounds_toArray, List.set_cons_zero, List.set_cons_succ]
  refine wpAnyH_take (i := 17) (v := ?_) rfl (by kernel_rfl) (by kernel_rfl) (by kernel_rfl) (fun _ _ _ h => h) (Or.inl ⟨by rfl, ?_⟩) hH ?_
  rotate_left
  · (intro W hSw; (try dsimp only at hSw); go_simp; try with_reducible rfl)
  try simp only [List.getElem_toArray, List.getElem_cons_zero, List.getElem_cons_succ, Act.put, List.setIfInBounds_toArray, List.set_cons_zero, List.set_cons_succ]
  refine wpAnyH_ready (rs := [18]) (by kernel_rfl) (by simp) ?_
  refine AllReadyH.cons rfl (fun K hK => ?_) AllReadyH.nil
  go_simp
  go_at_call 110; refine (rtakes_any _ _ _ (by simp; omega) (by simp; omega) _ hT).mono ?_; rintro e w5 ⟨rfl, rfl⟩
  refine hK.out _ _ ?_ (fun _ => ?_)
  · exact trivial
  clear hK K
  try simp only [List.getElem_toArray, List.getElem_cons_zero, List.getElem_cons_succ, Act.put, List.setIfInBounds_toArray, List.set_cons_zero, List.set_cons_succ]
  refine wpAnyH_take (i := 19) (v := ?_) rfl (by kernel_rfl) (by kernel_rfl) (by kernel_rfl) (fun _ _ _ h => h) (Or.inl ⟨by rfl, ?_⟩) hH ?_
  rotate_left
  · (intro W hSw; (try dsimp only at hSw); go_simp; try with_reducible rfl)
  try simp only [List.getElem_toArray, List.getElem_cons_zero, List.getElem_cons_succ, Act.put, List.setIfInBounds_toArray, List.set_cons_zero, List.set_cons_succ]
  refine wpAnyH_done (by kernel_rfl) ?_ _
  go_wp2_with (go_at_call 49; refine (ih1 _ hM1.out).mono ?_; rintro e w2 ⟨rfl, hM2, hB2⟩; obtain ⟨v2, c2, f2⟩ := hMij.out w2 hM2; replace hM2 := Lib.hid hM2)
  go_ret2
  exact ⟨rfl, hst1.out _ hM2.out hv.out, below_s1 (hB1.trans hB2)⟩


end Go.Proofs.YtmkgalcojoeniaaGreatDoor
