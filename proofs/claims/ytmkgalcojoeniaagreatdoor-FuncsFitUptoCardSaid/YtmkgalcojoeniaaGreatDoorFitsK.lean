/- Walks: the reference's Fits: what has been found so far, in memory; what is known is answered. Walks: the reference's Fits, case by case: LIKE. Walks: the reference's Fits at LIKE: its cases joined. -/
import Derived.Test.YtmkgalcojoeniaaGreatDoorBlk
import Derived.Test.YtmkgalcojoeniaaGreatDoorFitP
import Derived.Test.YtmkgalcojoeniaaGreatDoorBelow
import Derived.Laws.MakeOwn
import Derived.BigQuiet
import Derived.Deep.QuietTactic
set_option maxRecDepth 100000
set_option linter.unusedVariables false
set_option linter.unusedSimpArgs false
namespace Go.Proofs.YtmkgalcojoeniaaGreatDoor
open Go.RowKit

def codeB (b : Bool) : Int := if b = true then 2 else 1
/-- what has been found so far: 0 nothing, 1 no, 2 yes -/
def Memo (W : World) (gk n m : Nat) (val : Nat → Nat → Bool) : Prop := gk < W.heap.size ∧ ∀ i j, i ≤ n → j ≤ m → ∃ v : Int, W.cell? ⟨gk, i * (m + 1) + j, none⟩ = some (.int .i64 v) ∧ W.frozen? ⟨gk, i * (m + 1) + j, none⟩ = false ∧ (v = 0 ∨ v = codeB (val i j))
theorem place_inj {m i j i' j' : Nat} (hj : j ≤ m) (hj' : j' ≤ m) (h : i * (m + 1) + j = i' * (m + 1) + j') : i = i' ∧ j = j' := by
  have e1 : (i * (m + 1) + j) / (m + 1) = i := by
    rw [Nat.mul_comm, Nat.mul_add_div (by omega), Nat.div_eq_of_lt (by omega), Nat.add_zero]
  have e2 : (i' * (m + 1) + j') / (m + 1) = i' := by
    rw [Nat.mul_comm, Nat.mul_add_div (by omega), Nat.div_eq_of_lt (by omega), Nat.add_zero]
  have : i = i' := by rw [← e1, ← e2, h]
  subst this
  exact ⟨rfl, by omega⟩
theorem place_lt {n m i j : Nat} (hi : i ≤ n) (hj : j ≤ m) : i * (m + 1) + j < (n + 1) * (m + 1) := by
  have := Nat.mul_le_mul_right (m + 1) hi
  rw [Nat.succ_mul]
  omega
theorem Memo.on {W W' : World} {gk n m : Nat} {val : Nat → Nat → Bool} (h : Memo W gk n m val) (hb : Below W.heap.size W W') : Memo W' gk n m val :=
  ⟨Nat.lt_of_lt_of_le h.1 hb.size, fun i j hi hj => by
    obtain ⟨v, h1, h2, h3⟩ := h.2 i j hi hj
    exact ⟨v, (hb.cell (p := ⟨gk, _, none⟩) h.1).trans h1, (hb.frozen (p := ⟨gk, _, none⟩) h.1).trans h2, h3⟩⟩
theorem Memo.drew {W : World} {gk n m : Nat} {val : Nat → Nat → Bool} (h : Memo W gk n m val) : Memo W.drew gk n m val := h.on (Below.refl _ _).drew
theorem Memo.set {W : World} {gk n m : Nat} {val : Nat → Nat → Bool} (h : Memo W gk n m val) {i j : Nat} (hi : i ≤ n) (hj : j ≤ m) (hv : val i j = false) : Memo (W.setCell ⟨gk, i * (m + 1) + j, none⟩ (.int .i64 1)) gk n m val := by
  refine ⟨by simp [World.setCell]; exact h.1, fun i' j' hi' hj' => ?_⟩
  obtain ⟨v, h1, h2, h3⟩ := h.2 i' j' hi' hj'
  by_cases e : i * (m + 1) + j = i' * (m + 1) + j'
  · obtain ⟨rfl, rfl⟩ := place_inj hj hj' e
    exact ⟨1, cs h1, by rw [World.frozen?_setCell]; exact h2, .inr (by rw [hv]; rfl)⟩
  · exact ⟨v, (co (fun h => e (congrArg Addr.off h))).trans h1, by rw [World.frozen?_setCell]; exact h2, h3⟩
theorem Memo.set2 {W : World} {gk n m : Nat} {val : Nat → Nat → Bool} (h : Memo W gk n m val) {i j : Nat} (hi : i ≤ n) (hj : j ≤ m) (hv : val i j = true) : Memo ((W.setCell ⟨gk, i * (m + 1) + j, none⟩ (.int .i64 1)).setCell ⟨gk, i * (m + 1) + j, none⟩ (.int .i64 2)) gk n m val := by
  refine ⟨by simp [World.setCell]; exact h.1, fun i' j' hi' hj' => ?_⟩
  obtain ⟨v, h1, h2, h3⟩ := h.2 i' j' hi' hj'
  by_cases e : i * (m + 1) + j = i' * (m + 1) + j'
  · obtain ⟨rfl, rfl⟩ := place_inj hj hj' e
    exact ⟨2, cs (cs h1), by rw [World.frozen?_setCell, World.frozen?_setCell]; exact h2, .inr (by rw [hv]; rfl)⟩
  · exact ⟨v, ((co (fun h => e (congrArg Addr.off h))).trans (co (fun h => e (congrArg Addr.off h)))).trans h1, by rw [World.frozen?_setCell, World.frozen?_setCell]; exact h2, h3⟩

/-- what Fits answers -/
def RetFits (gk N n m : Nat) (val : Nat → Nat → Bool) (b : Bool) (w : World) (e : Ending) (w' : World) : Prop := e = .returned (.tuple #[.slice (some ⟨gk, 0, none⟩) N N, .bool b]) ∧ Memo w' gk n m val ∧ Below gk w w'

set_option maxHeartbeats 2000000 in
theorem fits_known (s p : ByteArray) (g : Bool) (gk N i j : Nat) (val : Nat → Nat → Bool) (w : World) (hs : s.size ≤ 1048576) (hp : p.size ≤ 1048576) (hN : N = (s.size + 1) * (p.size + 1)) (hi : i ≤ s.size) (hj : j ≤ p.size) (hM : Memo w gk s.size p.size val) (v : Int) (hc : w.cell? ⟨gk, i * (p.size + 1) + j, none⟩ = some (.int .i64 v)) (hv : 0 < v) (b : Bool) (hb : Hid ((v == 2) = b)) :
    Calls Tryz.prog 49 #[.string s, .string p, .bool g, .slice (some ⟨gk, 0, none⟩) N N, .int .i64 (i : Int), .int .i64 (j : Int)] w (RetFits gk N s.size p.size val b w) := by
  obtain ⟨a, ha⟩ : ∃ a, i * (p.size + 1) = a := ⟨_, rfl⟩
  have hlt := place_lt hi hj
  rw [← hN, ha] at hlt
  rw [ha] at hc
  have h1 := Nat.mul_le_mul hi (Nat.le_refl (p.size + 1))
  have h2 : (s.size + 1) * (p.size + 1) ≤ 1048577 * 1048577 := Nat.mul_le_mul (by omega) (by omega)
  rw [← hN] at h2
  have e1 : (i : Int) * ((p.size : Int) + 1) = (a : Int) := by rw [← ha]; simp
  have b1 : decide (v > 0) = true := decide_eq_true hv
  have i0 : (0 : Int) ≤ (a : Int) + (j : Int) := by omega
  have i1 : (a : Int) + (j : Int) < (N : Int) := by omega
  have i2 : ((a : Int) + (j : Int)).toNat = a + j := by omega
  replace hM := Lib.hid hM
  have hb' := hb.out
  clear hN h1 hi hj ha hv
  go_enter Tryz.func49, Tryz.ntmps49
  go_wp2
  go_quiet (fail)
  go_wp2
  go_ret2
  exact ⟨rfl, Memo.on hM.out (below_drewN (Below.refl _ w) _), below_drewN (Below.refl _ w) _⟩

end Go.Proofs.YtmkgalcojoeniaaGreatDoor

namespace Go.Proofs.YtmkgalcojoeniaaGreatDoor
open Go.RowKit
theorem below_s1 {gk k : Nat} {w W : World} {v : Value} (h : Below gk w W) : Below gk w (W.setCell ⟨gk, k, none⟩ v) := h.setCell (Nat.le_refl _) _
theorem below_s2 {gk k : Nat} {w W : World} {v u : Value} (h : Below gk w W) : Below gk w ((W.setCell ⟨gk, k, none⟩ v).setCell ⟨gk, k, none⟩ u) := below_s1 (below_s1 h)

set_option maxHeartbeats 2000000 in
theorem fits_end_true (s p : ByteArray) (g : Bool) (gk N i j : Nat) (val : Nat → Nat → Bool) (w : World) (hs : s.size ≤ 1048576) (hp : p.size ≤ 1048576) (hN : N = (s.size + 1) * (p.size + 1)) (hi : i ≤ s.size) (hj : j ≤ p.size) (hM : Memo w gk s.size p.size val) (hc : w.cell? ⟨gk, i * (p.size + 1) + j, none⟩ = some (.int .i64 0)) (jm : ((j : Int) == (p.size : Int)) = true) (im : ((i : Int) == (s.size : Int)) = true) (hv : Hid (val i j = true)) :
    Calls Tryz.prog 49 #[.string s, .string p, .bool g, .slice (some ⟨gk, 0, none⟩) N N, .int .i64 (i : Int), .int .i64 (j : Int)] w (RetFits gk N s.size p.size val true w) := by
  obtain ⟨a, ha⟩ : ∃ a, i * (p.size + 1) = a := ⟨_, rfl⟩
  have hlt := place_lt hi hj
  have hset := hM.set hi hj (val := val)
  have hMij : ∀ W, Memo W gk s.size p.size val → ∃ v : Int, W.cell? ⟨gk, i * (p.size + 1) + j, none⟩ = some (.int .i64 v) ∧ W.frozen? ⟨gk, i * (p.size + 1) + j, none⟩ = false := fun W h => by
    obtain ⟨v, h1, h2, _⟩ := h.2 i j hi hj
    exact ⟨v, h1, h2⟩
  have hst1 : ∀ W, Memo W gk s.size p.size val → val i j = false → Memo (W.setCell ⟨gk, i * (p.size + 1) + j, none⟩ (.int .i64 1)) gk s.size p.size val := fun W h hv => h.set hi hj hv
  have hst2 : ∀ W, Memo W gk s.size p.size val → val i j = true → Memo ((W.setCell ⟨gk, i * (p.size + 1) + j, none⟩ (.int .i64 1)).setCell ⟨gk, i * (p.size + 1) + j, none⟩ (.int .i64 2)) gk s.size p.size val := fun W h hv => h.set2 hi hj hv
  clear hset
  rw [← hN, ha] at hlt
  rw [ha] at hc hMij hst1 hst2
  have h2 : (s.size + 1) * (p.size + 1) ≤ 1048577 * 1048577 := Nat.mul_le_mul (by omega) (by omega)
  rw [← hN] at h2
  have e1 : (i : Int) * ((p.size : Int) + 1) = (a : Int) := by rw [← ha]; simp
  have i0 : (0 : Int) ≤ (a : Int) + (j : Int) := by omega
  have i1 : (a : Int) + (j : Int) < (N : Int) := by omega
  have i2 : ((a : Int) + (j : Int)).toNat = a + j := by omega
  obtain ⟨_, hf⟩ := hMij w hM
  obtain ⟨_, hf⟩ := hf
  replace hM := Lib.hid hM
  replace hMij := Lib.hid hMij
  replace hst1 := Lib.hid hst1
  replace hst2 := Lib.hid hst2
  clear ha hN hi hj
  go_enter Tryz.func49, Tryz.ntmps49
  go_wp2
  go_ret2
  exact ⟨rfl, hst2.out _ hM.out hv.out, below_s2 (Below.refl _ _)⟩

set_option maxHeartbeats 2000000 in
theorem fits_end_false (s p : ByteArray) (g : Bool) (gk N i j : Nat) (val : Nat → Nat → Bool) (w : World) (hs : s.size ≤ 1048576) (hp : p.size ≤ 1048576) (hN : N = (s.size + 1) * (p.size + 1)) (hi : i ≤ s.size) (hj : j ≤ p.size) (hM : Memo w gk s.size p.size val) (hc : w.cell? ⟨gk, i * (p.size + 1) + j, none⟩ = some (.int .i64 0)) (jm : ((j : Int) == (p.size : Int)) = true) (im : ((i : Int) == (s.size : Int)) = false) (hv : Hid (val i j = false)) :
    Calls Tryz.prog 49 #[.string s, .string p, .bool g, .slice (some ⟨gk, 0, none⟩) N N, .int .i64 (i : Int), .int .i64 (j : Int)] w (RetFits gk N s.size p.size val false w) := by
  obtain ⟨a, ha⟩ : ∃ a, i * (p.size + 1) = a := ⟨_, rfl⟩
  have hlt := place_lt hi hj
  have hset := hM.set hi hj (val := val)
  have hMij : ∀ W, Memo W gk s.size p.size val → ∃ v : Int, W.cell? ⟨gk, i * (p.size + 1) + j, none⟩ = some (.int .i64 v) ∧ W.frozen? ⟨gk, i * (p.size + 1) + j, none⟩ = false := fun W h => by
    obtain ⟨v, h1, h2, _⟩ := h.2 i j hi hj
    exact ⟨v, h1, h2⟩
  have hst1 : ∀ W, Memo W gk s.size p.size val → val i j = false → Memo (W.setCell ⟨gk, i * (p.size + 1) + j, none⟩ (.int .i64 1)) gk s.size p.size val := fun W h hv => h.set hi hj hv
  have hst2 : ∀ W, Memo W gk s.size p.size val → val i j = true → Memo ((W.setCell ⟨gk, i * (p.size + 1) + j, none⟩ (.int .i64 1)).setCell ⟨gk, i * (p.size + 1) + j, none⟩ (.int .i64 2)) gk s.size p.size val := fun W h hv => h.set2 hi hj hv
  clear hset
  rw [← hN, ha] at hlt
  rw [ha] at hc hMij hst1 hst2
  have h2 : (s.size + 1) * (p.size + 1) ≤ 1048577 * 1048577 := Nat.mul_le_mul (by omega) (by omega)
  rw [← hN] at h2
  have e1 : (i : Int) * ((p.size : Int) + 1) = (a : Int) := by rw [← ha]; simp
  have i0 : (0 : Int) ≤ (a : Int) + (j : Int) := by omega
  have i1 : (a : Int) + (j : Int) < (N : Int) := by omega
  have i2 : ((a : Int) + (j : Int)).toNat = a + j := by omega
  obtain ⟨_, hf⟩ := hMij w hM
  obtain ⟨_, hf⟩ := hf
  replace hM := Lib.hid hM
  replace hMij := Lib.hid hMij
  replace hst1 := Lib.hid hst1
  replace hst2 := Lib.hid hst2
  clear ha hN hi hj
  go_enter Tryz.func49, Tryz.ntmps49
  go_wp2
  go_ret2
  exact ⟨rfl, hst1.out _ hM.out hv.out, below_s1 (Below.refl _ _)⟩

set_option maxHeartbeats 2000000 in
theorem fits_anyL1 (s p : ByteArray) (gk N i j : Nat) (val : Nat → Nat → Bool) (w : World) (hs : s.size ≤ 1048576) (hp : p.size ≤ 1048576) (hN : N = (s.size + 1) * (p.size + 1)) (hi : i ≤ s.size) (hj : j ≤ p.size) (hM : Memo w gk s.size p.size val) (hc : w.cell? ⟨gk, i * (p.size + 1) + j, none⟩ = some (.int .i64 0)) (hjl : j < p.size) (jm : ((j : Int) == (p.size : Int)) = false) (q37 : ((p[j].toNat : Int) == 37) = true) (q42 : ((p[j].toNat : Int) == 42) = false) (q91 : ((p[j].toNat : Int) == 91) = false) (q95 : ((p[j].toNat : Int) == 95) = false) (q63 : ((p[j].toNat : Int) == 63) = false) (ih1 : ∀ W, Memo W gk s.size p.size val → Calls Tryz.prog 49 #[.string s, .string p, .bool false, .slice (some ⟨gk, 0, none⟩) N N, .int .i64 (i : Int), .int .i64 ((j : Int) + 1)] W (RetFits gk N s.size p.size val true W)) (hv : Hid (val i j = true)) :
    Calls Tryz.prog 49 #[.string s, .string p, .bool false, .slice (some ⟨gk, 0, none⟩) N N, .int .i64 (i : Int), .int .i64 (j : Int)] w (RetFits gk N s.size p.size val true w) := by
  obtain ⟨a, ha⟩ : ∃ a, i * (p.size + 1) = a := ⟨_, rfl⟩
  have hlt := place_lt hi hj
  have hset := hM.set hi hj (val := val)
  have hMij : ∀ W, Memo W gk s.size p.size val → ∃ v : Int, W.cell? ⟨gk, i * (p.size + 1) + j, none⟩ = some (.int .i64 v) ∧ W.frozen? ⟨gk, i * (p.size + 1) + j, none⟩ = false := fun W h => by
    obtain ⟨v, h1, h2, _⟩ := h.2 i j hi hj
    exact ⟨v, h1, h2⟩
  have hst1 : ∀ W, Memo W gk s.size p.size val → val i j = false → Memo (W.setCell ⟨gk, i * (p.size + 1) + j, none⟩ (.int .i64 1)) gk s.size p.size val := fun W h hv => h.set hi hj hv
  have hst2 : ∀ W, Memo W gk s.size p.size val → val i j = true → Memo ((W.setCell ⟨gk, i * (p.size + 1) + j, none⟩ (.int .i64 1)).setCell ⟨gk, i * (p.size + 1) + j, none⟩ (.int .i64 2)) gk s.size p.size val := fun W h hv => h.set2 hi hj hv
  clear hset
  rw [← hN, ha] at hlt
  rw [ha] at hc hMij hst1 hst2
  have h2 : (s.size + 1) * (p.size + 1) ≤ 1048577 * 1048577 := Nat.mul_le_mul (by omega) (by omega)
  rw [← hN] at h2
  have e1 : (i : Int) * ((p.size : Int) + 1) = (a : Int) := by rw [← ha]; simp
  have i0 : (0 : Int) ≤ (a : Int) + (j : Int) := by omega
  have i1 : (a : Int) + (j : Int) < (N : Int) := by omega
  have i2 : ((a : Int) + (j : Int)).toNat = a + j := by omega
  obtain ⟨_, hf⟩ := hMij w hM
  obtain ⟨_, hf⟩ := hf
  replace hM := Lib.hid hM
  replace hMij := Lib.hid hMij
  replace hst1 := Lib.hid hst1
  replace hst2 := Lib.hid hst2
  clear ha hN hi hj
  go_enter Tryz.func49, Tryz.ntmps49
  have j0 : (0 : Int) ≤ (j : Int) := by omega
  have j1 : (j : Int) < (p.size : Int) := by omega
  go_wp2_with (go_at_call 49; refine (ih1 _ hM.out).mono ?_; rintro e w1 ⟨rfl, hM1, hB1⟩; obtain ⟨v1, c1, f1⟩ := hMij.out w1 hM1; replace hM1 := Lib.hid hM1)
  go_ret2
  exact ⟨rfl, hst2.out _ hM1.out hv.out, below_s2 (hB1)⟩

set_option maxHeartbeats 2000000 in
theorem fits_anyL2true (s p : ByteArray) (gk N i j : Nat) (val : Nat → Nat → Bool) (w : World) (hs : s.size ≤ 1048576) (hp : p.size ≤ 1048576) (hN : N = (s.size + 1) * (p.size + 1)) (hi : i ≤ s.size) (hj : j ≤ p.size) (hM : Memo w gk s.size p.size val) (hc : w.cell? ⟨gk, i * (p.size + 1) + j, none⟩ = some (.int .i64 0)) (hjl : j < p.size) (jm : ((j : Int) == (p.size : Int)) = false) (hil : i < s.size) (il : decide ((i : Int) < (s.size : Int)) = true) (q37 : ((p[j].toNat : Int) == 37) = true) (q42 : ((p[j].toNat : Int) == 42) = false) (q91 : ((p[j].toNat : Int) == 91) = false) (q95 : ((p[j].toNat : Int) == 95) = false) (q63 : ((p[j].toNat : Int) == 63) = false) (ih1 : ∀ W, Memo W gk s.size p.size val → Calls Tryz.prog 49 #[.string s, .string p, .bool false, .slice (some ⟨gk, 0, none⟩) N N, .int .i64 (i : Int), .int .i64 ((j : Int) + 1)] W (RetFits gk N s.size p.size val false W)) (ih2 : ∀ W, Memo W gk s.size p.size val → Calls Tryz.prog 49 #[.string s, .string p, .bool false, .slice (some ⟨gk, 0, none⟩) N N, .int .i64 ((i : Int) + 1), .int .i64 (j : Int)] W (RetFits gk N s.size p.size val true W)) (hv : Hid (val i j = true)) :
    Calls Tryz.prog 49 #[.string s, .string p, .bool false, .slice (some ⟨gk, 0, none⟩) N N, .int .i64 (i : Int), .int .i64 (j : Int)] w (RetFits gk N s.size p.size val true w) := by
  obtain ⟨a, ha⟩ : ∃ a, i * (p.size + 1) = a := ⟨_, rfl⟩
  have hlt := place_lt hi hj
  have hset := hM.set hi hj (val := val)
  have hMij : ∀ W, Memo W gk s.size p.size val → ∃ v : Int, W.cell? ⟨gk, i * (p.size + 1) + j, none⟩ = some (.int .i64 v) ∧ W.frozen? ⟨gk, i * (p.size + 1) + j, none⟩ = false := fun W h => by
    obtain ⟨v, h1, h2, _⟩ := h.2 i j hi hj
    exact ⟨v, h1, h2⟩
  have hst1 : ∀ W, Memo W gk s.size p.size val → val i j = false → Memo (W.setCell ⟨gk, i * (p.size + 1) + j, none⟩ (.int .i64 1)) gk s.size p.size val := fun W h hv => h.set hi hj hv
  have hst2 : ∀ W, Memo W gk s.size p.size val → val i j = true → Memo ((W.setCell ⟨gk, i * (p.size + 1) + j, none⟩ (.int .i64 1)).setCell ⟨gk, i * (p.size + 1) + j, none⟩ (.int .i64 2)) gk s.size p.size val := fun W h hv => h.set2 hi hj hv
  clear hset
  rw [← hN, ha] at hlt
  rw [ha] at hc hMij hst1 hst2
  have h2 : (s.size + 1) * (p.size + 1) ≤ 1048577 * 1048577 := Nat.mul_le_mul (by omega) (by omega)
  rw [← hN] at h2
  have e1 : (i : Int) * ((p.size : Int) + 1) = (a : Int) := by rw [← ha]; simp
  have i0 : (0 : Int) ≤ (a : Int) + (j : Int) := by omega
  have i1 : (a : Int) + (j : Int) < (N : Int) := by omega
  have i2 : ((a : Int) + (j : Int)).toNat = a + j := by omega
  obtain ⟨_, hf⟩ := hMij w hM
  obtain ⟨_, hf⟩ := hf
  replace hM := Lib.hid hM
  replace hMij := Lib.hid hMij
  replace hst1 := Lib.hid hst1
  replace hst2 := Lib.hid hst2
  clear ha hN hi hj
  go_enter Tryz.func49, Tryz.ntmps49
  have j0 : (0 : Int) ≤ (j : Int) := by omega
  have j1 : (j : Int) < (p.size : Int) := by omega
  have k0 : (0 : Int) ≤ (i : Int) := by omega
  have k1 : (i : Int) < (s.size : Int) := by omega
  go_wp2_with (go_at_call 49; first | (have hq := hM1; refine (ih2 _ hM1.out).mono ?_; rintro e w2 ⟨rfl, hM2, hB2⟩; obtain ⟨v2, c2, f2⟩ := hMij.out w2 hM2; replace hM2 := Lib.hid hM2) | (refine (ih1 _ hM.out).mono ?_; rintro e w1 ⟨rfl, hM1, hB1⟩; obtain ⟨v1, c1, f1⟩ := hMij.out w1 hM1; replace hM1 := Lib.hid hM1))
  go_ret2
  exact ⟨rfl, hst2.out _ hM2.out hv.out, below_s2 (hB1.trans hB2)⟩

set_option maxHeartbeats 2000000 in
theorem fits_anyL2false (s p : ByteArray) (gk N i j : Nat) (val : Nat → Nat → Bool) (w : World) (hs : s.size ≤ 1048576) (hp : p.size ≤ 1048576) (hN : N = (s.size + 1) * (p.size + 1)) (hi : i ≤ s.size) (hj : j ≤ p.size) (hM : Memo w gk s.size p.size val) (hc : w.cell? ⟨gk, i * (p.size + 1) + j, none⟩ = some (.int .i64 0)) (hjl : j < p.size) (jm : ((j : Int) == (p.size : Int)) = false) (hil : i < s.size) (il : decide ((i : Int) < (s.size : Int)) = true) (q37 : ((p[j].toNat : Int) == 37) = true) (q42 : ((p[j].toNat : Int) == 42) = false) (q91 : ((p[j].toNat : Int) == 91) = false) (q95 : ((p[j].toNat : Int) == 95) = false) (q63 : ((p[j].toNat : Int) == 63) = false) (ih1 : ∀ W, Memo W gk s.size p.size val → Calls Tryz.prog 49 #[.string s, .string p, .bool false, .slice (some ⟨gk, 0, none⟩) N N, .int .i64 (i : Int), .int .i64 ((j : Int) + 1)] W (RetFits gk N s.size p.size val false W)) (ih2 : ∀ W, Memo W gk s.size p.size val → Calls Tryz.prog 49 #[.string s, .string p, .bool false, .slice (some ⟨gk, 0, none⟩) N N, .int .i64 ((i : Int) + 1), .int .i64 (j : Int)] W (RetFits gk N s.size p.size val false W)) (hv : Hid (val i j = false)) :
    Calls Tryz.prog 49 #[.string s, .string p, .bool false, .slice (some ⟨gk, 0, none⟩) N N, .int .i64 (i : Int), .int .i64 (j : Int)] w (RetFits gk N s.size p.size val false w) := by
  obtain ⟨a, ha⟩ : ∃ a, i * (p.size + 1) = a := ⟨_, rfl⟩
  have hlt := place_lt hi hj
  have hset := hM.set hi hj (val := val)
  have hMij : ∀ W, Memo W gk s.size p.size val → ∃ v : Int, W.cell? ⟨gk, i * (p.size + 1) + j, none⟩ = some (.int .i64 v) ∧ W.frozen? ⟨gk, i * (p.size + 1) + j, none⟩ = false := fun W h => by
    obtain ⟨v, h1, h2, _⟩ := h.2 i j hi hj
    exact ⟨v, h1, h2⟩
  have hst1 : ∀ W, Memo W gk s.size p.size val → val i j = false → Memo (W.setCell ⟨gk, i * (p.size + 1) + j, none⟩ (.int .i64 1)) gk s.size p.size val := fun W h hv => h.set hi hj hv
  have hst2 : ∀ W, Memo W gk s.size p.size val → val i j = true → Memo ((W.setCell ⟨gk, i * (p.size + 1) + j, none⟩ (.int .i64 1)).setCell ⟨gk, i * (p.size + 1) + j, none⟩ (.int .i64 2)) gk s.size p.size val := fun W h hv => h.set2 hi hj hv
  clear hset
  rw [← hN, ha] at hlt
  rw [ha] at hc hMij hst1 hst2
  have h2 : (s.size + 1) * (p.size + 1) ≤ 1048577 * 1048577 := Nat.mul_le_mul (by omega) (by omega)
  rw [← hN] at h2
  have e1 : (i : Int) * ((p.size : Int) + 1) = (a : Int) := by rw [← ha]; simp
  have i0 : (0 : Int) ≤ (a : Int) + (j : Int) := by omega
  have i1 : (a : Int) + (j : Int) < (N : Int) := by omega
  have i2 : ((a : Int) + (j : Int)).toNat = a + j := by omega
  obtain ⟨_, hf⟩ := hMij w hM
  obtain ⟨_, hf⟩ := hf
  replace hM := Lib.hid hM
  replace hMij := Lib.hid hMij
  replace hst1 := Lib.hid hst1
  replace hst2 := Lib.hid hst2
  clear ha hN hi hj
  go_enter Tryz.func49, Tryz.ntmps49
  have j0 : (0 : Int) ≤ (j : Int) := by omega
  have j1 : (j : Int) < (p.size : Int) := by omega
  have k0 : (0 : Int) ≤ (i : Int) := by omega
  have k1 : (i : Int) < (s.size : Int) := by omega
  go_wp2_with (go_at_call 49; first | (have hq := hM1; refine (ih2 _ hM1.out).mono ?_; rintro e w2 ⟨rfl, hM2, hB2⟩; obtain ⟨v2, c2, f2⟩ := hMij.out w2 hM2; replace hM2 := Lib.hid hM2) | (refine (ih1 _ hM.out).mono ?_; rintro e w1 ⟨rfl, hM1, hB1⟩; obtain ⟨v1, c1, f1⟩ := hMij.out w1 hM1; replace hM1 := Lib.hid hM1))
  go_ret2
  exact ⟨rfl, hst1.out _ hM2.out hv.out, below_s1 (hB1.trans hB2)⟩

set_option maxHeartbeats 2000000 in
theorem fits_anyL3 (s p : ByteArray) (gk N i j : Nat) (val : Nat → Nat → Bool) (w : World) (hs : s.size ≤ 1048576) (hp : p.size ≤ 1048576) (hN : N = (s.size + 1) * (p.size + 1)) (hi : i ≤ s.size) (hj : j ≤ p.size) (hM : Memo w gk s.size p.size val) (hc : w.cell? ⟨gk, i * (p.size + 1) + j, none⟩ = some (.int .i64 0)) (hjl : j < p.size) (jm : ((j : Int) == (p.size : Int)) = false) (hin : ¬ i < s.size) (il : decide ((i : Int) < (s.size : Int)) = false) (q37 : ((p[j].toNat : Int) == 37) = true) (q42 : ((p[j].toNat : Int) == 42) = false) (q91 : ((p[j].toNat : Int) == 91) = false) (q95 : ((p[j].toNat : Int) == 95) = false) (q63 : ((p[j].toNat : Int) == 63) = false) (ih1 : ∀ W, Memo W gk s.size p.size val → Calls Tryz.prog 49 #[.string s, .string p, .bool false, .slice (some ⟨gk, 0, none⟩) N N, .int .i64 (i : Int), .int .i64 ((j : Int) + 1)] W (RetFits gk N s.size p.size val false W)) (hv : Hid (val i j = false)) :
    Calls Tryz.prog 49 #[.string s, .string p, .bool false, .slice (some ⟨gk, 0, none⟩) N N, .int .i64 (i : Int), .int .i64 (j : Int)] w (RetFits gk N s.size p.size val false w) := by
  obtain ⟨a, ha⟩ : ∃ a, i * (p.size + 1) = a := ⟨_, rfl⟩
  have hlt := place_lt hi hj
  have hset := hM.set hi hj (val := val)
  have hMij : ∀ W, Memo W gk s.size p.size val → ∃ v : Int, W.cell? ⟨gk, i * (p.size + 1) + j, none⟩ = some (.int .i64 v) ∧ W.frozen? ⟨gk, i * (p.size + 1) + j, none⟩ = false := fun W h => by
    obtain ⟨v, h1, h2, _⟩ := h.2 i j hi hj
    exact ⟨v, h1, h2⟩
  have hst1 : ∀ W, Memo W gk s.size p.size val → val i j = false → Memo (W.setCell ⟨gk, i * (p.size + 1) + j, none⟩ (.int .i64 1)) gk s.size p.size val := fun W h hv => h.set hi hj hv
  have hst2 : ∀ W, Memo W gk s.size p.size val → val i j = true → Memo ((W.setCell ⟨gk, i * (p.size + 1) + j, none⟩ (.int .i64 1)).setCell ⟨gk, i * (p.size + 1) + j, none⟩ (.int .i64 2)) gk s.size p.size val := fun W h hv => h.set2 hi hj hv
  clear hset
  rw [← hN, ha] at hlt
  rw [ha] at hc hMij hst1 hst2
  have h2 : (s.size + 1) * (p.size + 1) ≤ 1048577 * 1048577 := Nat.mul_le_mul (by omega) (by omega)
  rw [← hN] at h2
  have e1 : (i : Int) * ((p.size : Int) + 1) = (a : Int) := by rw [← ha]; simp
  have i0 : (0 : Int) ≤ (a : Int) + (j : Int) := by omega
  have i1 : (a : Int) + (j : Int) < (N : Int) := by omega
  have i2 : ((a : Int) + (j : Int)).toNat = a + j := by omega
  obtain ⟨_, hf⟩ := hMij w hM
  obtain ⟨_, hf⟩ := hf
  replace hM := Lib.hid hM
  replace hMij := Lib.hid hMij
  replace hst1 := Lib.hid hst1
  replace hst2 := Lib.hid hst2
  clear ha hN hi hj
  go_enter Tryz.func49, Tryz.ntmps49
  have j0 : (0 : Int) ≤ (j : Int) := by omega
  have j1 : (j : Int) < (p.size : Int) := by omega
  go_wp2_with (go_at_call 49; refine (ih1 _ hM.out).mono ?_; rintro e w1 ⟨rfl, hM1, hB1⟩; obtain ⟨v1, c1, f1⟩ := hMij.out w1 hM1; replace hM1 := Lib.hid hM1)
  go_ret2
  exact ⟨rfl, hst1.out _ hM1.out hv.out, below_s1 (hB1)⟩

set_option maxHeartbeats 2000000 in
theorem fits_byteL42e (s p : ByteArray) (gk N i j : Nat) (val : Nat → Nat → Bool) (w : World) (hs : s.size ≤ 1048576) (hp : p.size ≤ 1048576) (hN : N = (s.size + 1) * (p.size + 1)) (hi : i ≤ s.size) (hj : j ≤ p.size) (hM : Memo w gk s.size p.size val) (hc : w.cell? ⟨gk, i * (p.size + 1) + j, none⟩ = some (.int .i64 0)) (hjl : j < p.size) (jm : ((j : Int) == (p.size : Int)) = false) (hin : ¬ i < s.size) (il : decide ((i : Int) < (s.size : Int)) = false) (q37 : ((p[j].toNat : Int) == 37) = false) (q42 : ((p[j].toNat : Int) == 42) = true) (q91 : ((p[j].toNat : Int) == 91) = false) (q95 : ((p[j].toNat : Int) == 95) = false) (q63 : ((p[j].toNat : Int) == 63) = false) (hv : Hid (val i j = false)) :
    Calls Tryz.prog 49 #[.string s, .string p, .bool false, .slice (some ⟨gk, 0, none⟩) N N, .int .i64 (i : Int), .int .i64 (j : Int)] w (RetFits gk N s.size p.size val false w) := by
  obtain ⟨a, ha⟩ : ∃ a, i * (p.size + 1) = a := ⟨_, rfl⟩
  have hlt := place_lt hi hj
  have hset := hM.set hi hj (val := val)
  have hMij : ∀ W, Memo W gk s.size p.size val → ∃ v : Int, W.cell? ⟨gk, i * (p.size + 1) + j, none⟩ = some (.int .i64 v) ∧ W.frozen? ⟨gk, i * (p.size + 1) + j, none⟩ = false := fun W h => by
    obtain ⟨v, h1, h2, _⟩ := h.2 i j hi hj
    exact ⟨v, h1, h2⟩
  have hst1 : ∀ W, Memo W gk s.size p.size val → val i j = false → Memo (W.setCell ⟨gk, i * (p.size + 1) + j, none⟩ (.int .i64 1)) gk s.size p.size val := fun W h hv => h.set hi hj hv
  have hst2 : ∀ W, Memo W gk s.size p.size val → val i j = true → Memo ((W.setCell ⟨gk, i * (p.size + 1) + j, none⟩ (.int .i64 1)).setCell ⟨gk, i * (p.size + 1) + j, none⟩ (.int .i64 2)) gk s.size p.size val := fun W h hv => h.set2 hi hj hv
  clear hset
  rw [← hN, ha] at hlt
  rw [ha] at hc hMij hst1 hst2
  have h2 : (s.size + 1) * (p.size + 1) ≤ 1048577 * 1048577 := Nat.mul_le_mul (by omega) (by omega)
  rw [← hN] at h2
  have e1 : (i : Int) * ((p.size : Int) + 1) = (a : Int) := by rw [← ha]; simp
  have i0 : (0 : Int) ≤ (a : Int) + (j : Int) := by omega
  have i1 : (a : Int) + (j : Int) < (N : Int) := by omega
  have i2 : ((a : Int) + (j : Int)).toNat = a + j := by omega
  obtain ⟨_, hf⟩ := hMij w hM
  obtain ⟨_, hf⟩ := hf
  replace hM := Lib.hid hM
  replace hMij := Lib.hid hMij
  replace hst1 := Lib.hid hst1
  replace hst2 := Lib.hid hst2
  clear ha hN hi hj
  go_enter Tryz.func49, Tryz.ntmps49
  have j0 : (0 : Int) ≤ (j : Int) := by omega
  have j1 : (j : Int) < (p.size : Int) := by omega
  go_wp2
  obtain ⟨W1, hW1⟩ : ∃ W, w.drew = W := ⟨_, rfl⟩
  have hB1 : Below gk w W1 := by rw [← hW1]; exact (Below.refl _ _).drew
  have hM1 : Memo W1 gk s.size p.size val := by rw [← hW1]; exact hM.out.drew
  obtain ⟨v1, c1, f1⟩ := hMij.out W1 hM1
  refine wp_region_held_drew (S := fun _ => True) (by kernel_rfl) trivial (fun hH => ?_)
  rw [hW1]
  clear hW1
  replace hM1 := Lib.hid hM1
  refine wpAnyH_take (i := 0) (v := ?_) rfl (by kernel_rfl) (by kernel_rfl) (by kernel_rfl) (fun _ _ _ h => h) (Or.inl ⟨by rfl, ?_⟩) hH ?_
  rotate_left
  · (intro W hSw; (try dsimp only at hSw); go_simp; try with_reducible rfl)
  try simp only [List.getElem_toArray, List.getElem_cons_zero, List.getElem_cons_succ, Act.put, List.setIfInBounds_toArray, List.set_cons_zero, List.set_cons_succ]
  refine wpAnyH_take (i := 1) (v := ?_) rfl (by kernel_rfl) (by kernel_rfl) (by kernel_rfl) (fun _ _ _ h => h) (Or.inl ⟨by rfl, ?_⟩) hH ?_
  rotate_left
  · (intro W hSw; (try dsimp only at hSw); go_simp; try with_reducible rfl)
  try simp only [List.getElem_toArray, List.getElem_cons_zero, List.getElem_cons_succ, Act.put, List.setIfInBounds_toArray, List.set_cons_zero, List.set_cons_succ]
  refine wpAnyH_take (i := 2) (v := ?_) rfl (by kernel_rfl) (by kernel_rfl) (by kernel_rfl) (fun _ _ _ h => h) (Or.inl ⟨by rfl, ?_⟩) hH ?_
  rotate_left
  · (intro W hSw; (try dsimp only at hSw); go_simp; try with_reducible rfl)
  try simp only [List.getElem_toArray, List.getElem_cons_zero, List.getElem_cons_succ, Act.put, List.setIfInBounds_toArray, List.set_cons_zero, List.set_cons_succ]
  refine wpAnyH_take (i := 3) (v := ?_) rfl (by kernel_rfl) (by kernel_rfl) (by kernel_rfl) (fun _ _ _ h => h) (Or.inl ⟨by rfl, ?_⟩) hH ?_
  rotate_left
  · (intro W hSw; (try dsimp only at hSw); go_simp; try with_reducible rfl)
  try simp only [List.getElem_toArray, List.getElem_cons_zero, List.getElem_cons_succ, Act.put, List.setIfInBounds_toArray, List.set_cons_zero, List.set_cons_succ]
  refine wpAnyH_take (i := 4) (v := ?_) rfl (by kernel_rfl) (by kernel_rfl) (by kernel_rfl) (fun _ _ _ h => h) (Or.inl ⟨by rfl, ?_⟩) hH ?_
  rotate_left
  · (intro W hSw; (try dsimp only at hSw); go_simp; try with_reducible rfl)
  try simp only [List.getElem_toArray, List.getElem_cons_zero, List.getElem_cons_succ, Act.put, List.setIfInBounds_toArray, List.set_cons_zero, List.set_cons_succ]
  refine wpAnyH_take (i := 5) (v := undef) rfl (by kernel_rfl) (by kernel_rfl) (by kernel_rfl) (fun _ _ _ h => h) (Or.inr ⟨by rfl, rfl⟩) hH ?_
  try simp only [List.getElem_toArray, List.getElem_cons_zero, List.getElem_cons_succ, Act.put, List.setIfInBounds_toArray, List.set_cons_zero, List.set_cons_succ]
  refine wpAnyH_take (i := 6) (v := undef) rfl (by kernel_rfl) (by kernel_rfl) (by kernel_rfl) (fun _ _ _ h => h) (Or.inr ⟨by rfl, rfl⟩) hH ?_
  try simp only [List.getElem_toArray, List.getElem_cons_zero, List.getElem_cons_succ, Act.put, List.setIfInBounds_toArray, List.set_cons_zero, List.set_cons_succ]
  refine wpAnyH_take (i := 7) (v := undef) rfl (by kernel_rfl) (by kernel_rfl) (by kernel_rfl) (fun _ _ _ h => h) (Or.inr ⟨by rfl, rfl⟩) hH ?_
  try simp only [List.getElem_toArray, List.getElem_cons_zero, List.getElem_cons_succ, Act.put, List.setIfInBounds_toArray, List.set_cons_zero, List.set_cons_succ]
  refine wpAnyH_take (i := 8) (v := undef) rfl (by kernel_rfl) (by kernel_rfl) (by kernel_rfl) (fun _ _ _ h => h) (Or.inr ⟨by rfl, rfl⟩) hH ?_
  try simp only [List.getElem_toArray, List.getElem_cons_zero, List.getElem_cons_succ, Act.put, List.setIfInBounds_toArray, List.set_cons_zero, List.set_cons_succ]
  refine wpAnyH_take (i := 9) (v := undef) rfl (by kernel_rfl) (by kernel_rfl) (by kernel_rfl) (fun _ _ _ h => h) (Or.inr ⟨by rfl, rfl⟩) hH ?_
  try simp only [List.getElem_toArray, List.getElem_cons_zero, List.getElem_cons_succ, Act.put, List.setIfInBounds_toArray, List.set_cons_zero, List.set_cons_succ]
  refine wpAnyH_take (i := 10) (v := undef) rfl (by kernel_rfl) (by kernel_rfl) (by kernel_rfl) (fun _ _ _ h => h) (Or.inr ⟨by rfl, rfl⟩) hH ?_
  try simp only [List.getElem_toArray, List.getElem_cons_zero, List.getElem_cons_succ, Act.put, List.setIfInBounds_toArray, List.set_cons_zero, List.set_cons_succ]
  refine wpAnyH_take (i := 11) (v := undef) rfl (by kernel_rfl) (by kernel_rfl) (by kernel_rfl) (fun _ _ _ h => h) (Or.inr ⟨by rfl, rfl⟩) hH ?_
  try simp only [List.getElem_toArray, List.getElem_cons_zero, List.getElem_cons_succ, Act.put, List.setIfInBounds_toArray, List.set_cons_zero, List.set_cons_succ]
  refine wpAnyH_take (i := 12) (v := undef) rfl (by kernel_rfl) (by kernel_rfl) (by kernel_rfl) (fun _ _ _ h => h) (Or.inr ⟨by rfl, rfl⟩) hH ?_
  try simp only [List.getElem_toArray, List.getElem_cons_zero, List.getElem_cons_succ, Act.put, List.setIfInBounds_toArray, List.set_cons_zero, List.set_cons_succ]
  refine wpAnyH_take (i := 13) (v := undef) rfl (by kernel_rfl) (by kernel_rfl) (by kernel_rfl) (fun _ _ _ h => h) (Or.inr ⟨by rfl, rfl⟩) hH ?_
  try simp only [List.getElem_toArray, List.getElem_cons_zero, List.getElem_cons_succ, Act.put, List.setIfInBounds_toArray, List.set_cons_zero, List.set_cons_succ]
  refine wpAnyH_take (i := 14) (v := undef) rfl (by kernel_rfl) (by kernel_rfl) (by kernel_rfl) (fun _ _ _ h => h) (Or.inr ⟨by rfl, rfl⟩) hH ?_
  try simp only [List.getElem_toArray, List.getElem_cons_zero, List.getElem_cons_succ, Act.put, List.setIfInBounds_toArray, List.set_cons_zero, List.set_cons_succ]
  refine wpAnyH_take (i := 15) (v := undef) rfl (by kernel_rfl) (by kernel_rfl) (by kernel_rfl) (fun _ _ _ h => h) (Or.inr ⟨by rfl, rfl⟩) hH ?_
  try simp only [List.getElem_toArray, List.getElem_cons_zero, List.getElem_cons_succ, Act.put, List.setIfInBounds_toArray, List.set_cons_zero, List.set_cons_succ]
  refine wpAnyH_take (i := 16) (v := undef) rfl (by kernel_rfl) (by kernel_rfl) (by kernel_rfl) (fun _ _ _ h => h) (Or.inr ⟨by rfl, rfl⟩) hH ?_
  try simp only [List.getElem_toArray, List.getElem_cons_zero, List.getElem_cons_succ, Act.put, List.setIfInBounds_toArray, List.set_cons_zero, List.set_cons_succ]
  refine wpAnyH_take (i := 17) (v := undef) rfl (by kernel_rfl) (by kernel_rfl) (by kernel_rfl) (fun _ _ _ h => h) (Or.inr ⟨by rfl, rfl⟩) hH ?_
  try simp only [List.getElem_toArray, List.getElem_cons_zero, List.getElem_cons_succ, Act.put, List.setIfInBounds_toArray, List.set_cons_zero, List.set_cons_succ]
  refine wpAnyH_take (i := 18) (v := undef) rfl (by kernel_rfl) (by kernel_rfl) (by kernel_rfl) (fun _ _ _ h => h) (Or.inr ⟨by rfl, rfl⟩) hH ?_
  try simp only [List.getElem_toArray, List.getElem_cons_zero, List.getElem_cons_succ, Act.put, List.setIfInBounds_toArray, List.set_cons_zero, List.set_cons_succ]
  refine wpAnyH_take (i := 19) (v := undef) rfl (by kernel_rfl) (by kernel_rfl) (by kernel_rfl) (fun _ _ _ h => h) (Or.inr ⟨by rfl, rfl⟩) hH ?_
  try simp only [List.getElem_toArray, List.getElem_cons_zero, List.getElem_cons_succ, Act.put, List.setIfInBounds_toArray, List.set_cons_zero, List.set_cons_succ]
  refine wpAnyH_take (i := 20) (v := undef) rfl (by kernel_rfl) (by kernel_rfl) (by kernel_rfl) (fun _ _ _ h => h) (Or.inr ⟨by rfl, rfl⟩) hH ?_
  try simp only [List.getElem_toArray, List.getElem_cons_zero, List.getElem_cons_succ, Act.put, List.setIfInBounds_toArray, List.set_cons_zero, List.set_cons_succ]
  refine wpAnyH_take (i := 21) (v := undef) rfl (by kernel_rfl) (by kernel_rfl) (by kernel_rfl) (fun _ _ _ h => h) (Or.inr ⟨by rfl, rfl⟩) hH ?_
  try simp only [List.getElem_toArray, List.getElem_cons_zero, List.getElem_cons_succ, Act.put, List.setIfInBounds_toArray, List.set_cons_zero, List.set_cons_succ]
  refine wpAnyH_take (i := 22) (v := undef) rfl (by kernel_rfl) (by kernel_rfl) (by kernel_rfl) (fun _ _ _ h => h) (Or.inr ⟨by rfl, rfl⟩) hH ?_
  try simp only [List.getElem_toArray, List.getElem_cons_zero, List.getElem_cons_succ, Act.put, List.setIfInBounds_toArray, List.set_cons_zero, List.set_cons_succ]
  refine wpAnyH_take (i := 23) (v := undef) rfl (by kernel_rfl) (by kernel_rfl) (by kernel_rfl) (fun _ _ _ h => h) (Or.inr ⟨by rfl, rfl⟩) hH ?_
  try simp only [List.getElem_toArray, List.getElem_cons_zero, List.getElem_cons_succ, Act.put, List.setIfInBounds_toArray, List.set_cons_zero, List.set_cons_succ]
  refine wpAnyH_take (i := 24) (v := undef) rfl (by kernel_rfl) (by kernel_rfl) (by kernel_rfl) (fun _ _ _ h => h) (Or.inr ⟨by rfl, rfl⟩) hH ?_
  try simp only [List.getElem_toArray, List.getElem_cons_zero, List.getElem_cons_succ, Act.put, List.setIfInBounds_toArray, List.set_cons_zero, List.set_cons_succ]
  refine wpAnyH_take (i := 25) (v := undef) rfl (by kernel_rfl) (by kernel_rfl) (by kernel_rfl) (fun _ _ _ h => h) (Or.inr ⟨by rfl, rfl⟩) hH ?_
  try simp only [List.getElem_toArray, List.getElem_cons_zero, List.getElem_cons_succ, Act.put, List.setIfInBounds_toArray, List.set_cons_zero, List.set_cons_succ]
  refine wpAnyH_take (i := 26) (v := undef) rfl (by kernel_rfl) (by kernel_rfl) (by kernel_rfl) (fun _ _ _ h => h) (Or.inr ⟨by rfl, rfl⟩) hH ?_
  try simp only [List.getElem_toArray, List.getElem_cons_zero, List.getElem_cons_succ, Act.put, List.setIfInBounds_toArray, List.set_cons_zero, List.set_cons_succ]
  refine wpAnyH_take (i := 27) (v := undef) rfl (by kernel_rfl) (by kernel_rfl) (by kernel_rfl) (fun _ _ _ h => h) (Or.inr ⟨by rfl, rfl⟩) hH ?_
  try simp only [List.getElem_toArray, List.getElem_cons_zero, List.getElem_cons_succ, Act.put, List.setIfInBounds_toArray, List.set_cons_zero, List.set_cons_succ]
  refine wpAnyH_take (i := 28) (v := undef) rfl (by kernel_rfl) (by kernel_rfl) (by kernel_rfl) (fun _ _ _ h => h) (Or.inr ⟨by rfl, rfl⟩) hH ?_
  try simp only [List.getElem_toArray, List.getElem_cons_zero, List.getElem_cons_succ, Act.put, List.setIfInBounds_toArray, List.set_cons_zero, List.set_cons_succ]
  refine wpAnyH_take (i := 29) (v := undef) rfl (by kernel_rfl) (by kernel_rfl) (by kernel_rfl) (fun _ _ _ h => h) (Or.inr ⟨by rfl, rfl⟩) hH ?_
  try simp only [List.getElem_toArray, List.getElem_cons_zero, List.getElem_cons_succ, Act.put, List.setIfInBounds_toArray, List.set_cons_zero, List.set_cons_succ]
  refine wpAnyH_take (i := 30) (v := undef) rfl (by kernel_rfl) (by kernel_rfl) (by kernel_rfl) (fun _ _ _ h => h) (Or.inr ⟨by rfl, rfl⟩) hH ?_
  try simp only [List.getElem_toArray, List.getElem_cons_zero, List.getElem_cons_succ, Act.put, List.setIfInBounds_toArray, List.set_cons_zero, List.set_cons_succ]
  refine wpAnyH_take (i := 31) (v := ?_) rfl (by kernel_rfl) (by kernel_rfl) (by kernel_rfl) (fun _ _ _ h => h) (Or.inl ⟨by rfl, ?_⟩) hH ?_
  rotate_left
  · (intro W hSw; (try dsimp only at hSw); go_simp; try with_reducible rfl)
  try simp only [List.getElem_toArray, List.getElem_cons_zero, List.getElem_cons_succ, Act.put, List.setIfInBounds_toArray, List.set_cons_zero, List.set_cons_succ]
  refine wpAnyH_done (by kernel_rfl) ?_ _
  go_wp2
  go_ret2
  exact ⟨rfl, hst1.out _ hM1.out hv.out, below_s1 (hB1)⟩

set_option maxHeartbeats 2000000 in
theorem fits_byteL42n (s p : ByteArray) (gk N i j : Nat) (val : Nat → Nat → Bool) (w : World) (hs : s.size ≤ 1048576) (hp : p.size ≤ 1048576) (hN : N = (s.size + 1) * (p.size + 1)) (hi : i ≤ s.size) (hj : j ≤ p.size) (hM : Memo w gk s.size p.size val) (hc : w.cell? ⟨gk, i * (p.size + 1) + j, none⟩ = some (.int .i64 0)) (hjl : j < p.size) (jm : ((j : Int) == (p.size : Int)) = false) (hil : i < s.size) (il : decide ((i : Int) < (s.size : Int)) = true) (q37 : ((p[j].toNat : Int) == 37) = false) (q42 : ((p[j].toNat : Int) == 42) = true) (q91 : ((p[j].toNat : Int) == 91) = false) (q95 : ((p[j].toNat : Int) == 95) = false) (q63 : ((p[j].toNat : Int) == 63) = false) (eq : ((s[i].toNat : Int) == (p[j].toNat : Int)) = false) (hv : Hid (val i j = false)) :
    Calls Tryz.prog 49 #[.string s, .string p, .bool false, .slice (some ⟨gk, 0, none⟩) N N, .int .i64 (i : Int), .int .i64 (j : Int)] w (RetFits gk N s.size p.size val false w) := by
  obtain ⟨a, ha⟩ : ∃ a, i * (p.size + 1) = a := ⟨_, rfl⟩
  have hlt := place_lt hi hj
  have hset := hM.set hi hj (val := val)
  have hMij : ∀ W, Memo W gk s.size p.size val → ∃ v : Int, W.cell? ⟨gk, i * (p.size + 1) + j, none⟩ = some (.int .i64 v) ∧ W.frozen? ⟨gk, i * (p.size + 1) + j, none⟩ = false := fun W h => by
    obtain ⟨v, h1, h2, _⟩ := h.2 i j hi hj
    exact ⟨v, h1, h2⟩
  have hst1 : ∀ W, Memo W gk s.size p.size val → val i j = false → Memo (W.setCell ⟨gk, i * (p.size + 1) + j, none⟩ (.int .i64 1)) gk s.size p.size val := fun W h hv => h.set hi hj hv
  have hst2 : ∀ W, Memo W gk s.size p.size val → val i j = true → Memo ((W.setCell ⟨gk, i * (p.size + 1) + j, none⟩ (.int .i64 1)).setCell ⟨gk, i * (p.size + 1) + j, none⟩ (.int .i64 2)) gk s.size p.size val := fun W h hv => h.set2 hi hj hv
  clear hset
  rw [← hN, ha] at hlt
  rw [ha] at hc hMij hst1 hst2
  have h2 : (s.size + 1) * (p.size + 1) ≤ 1048577 * 1048577 := Nat.mul_le_mul (by omega) (by omega)
  rw [← hN] at h2
  have e1 : (i : Int) * ((p.size : Int) + 1) = (a : Int) := by rw [← ha]; simp
  have i0 : (0 : Int) ≤ (a : Int) + (j : Int) := by omega
  have i1 : (a : Int) + (j : Int) < (N : Int) := by omega
  have i2 : ((a : Int) + (j : Int)).toNat = a + j := by omega
  obtain ⟨_, hf⟩ := hMij w hM
  obtain ⟨_, hf⟩ := hf
  replace hM := Lib.hid hM
  replace hMij := Lib.hid hMij
  replace hst1 := Lib.hid hst1
  replace hst2 := Lib.hid hst2
  clear ha hN hi hj
  go_enter Tryz.func49, Tryz.ntmps49
  have j0 : (0 : Int) ≤ (j : Int) := by omega
  have j1 : (j : Int) < (p.size : Int) := by omega
  have k0 : (0 : Int) ≤ (i : Int) := by omega
  have k1 : (i : Int) < (s.size : Int) := by omega
  go_wp2
  go_quiet (fail)
  go_wp2
  go_ret2
  exact ⟨rfl, hst1.out _ (hM.out.on (below_drewN (Below.refl _ w) _)) hv.out, below_s1 (below_drewN (Below.refl _ w) _)⟩

set_option maxHeartbeats 2000000 in
theorem fits_byteL42ytrue (s p : ByteArray) (gk N i j : Nat) (val : Nat → Nat → Bool) (w : World) (hs : s.size ≤ 1048576) (hp : p.size ≤ 1048576) (hN : N = (s.size + 1) * (p.size + 1)) (hi : i ≤ s.size) (hj : j ≤ p.size) (hM : Memo w gk s.size p.size val) (hc : w.cell? ⟨gk, i * (p.size + 1) + j, none⟩ = some (.int .i64 0)) (hjl : j < p.size) (jm : ((j : Int) == (p.size : Int)) = false) (hil : i < s.size) (il : decide ((i : Int) < (s.size : Int)) = true) (q37 : ((p[j].toNat : Int) == 37) = false) (q42 : ((p[j].toNat : Int) == 42) = true) (q91 : ((p[j].toNat : Int) == 91) = false) (q95 : ((p[j].toNat : Int) == 95) = false) (q63 : ((p[j].toNat : Int) == 63) = false) (eq : ((s[i].toNat : Int) == (p[j].toNat : Int)) = true) (ih1 : ∀ W, Memo W gk s.size p.size val → Calls Tryz.prog 49 #[.string s, .string p, .bool false, .slice (some ⟨gk, 0, none⟩) N N, .int .i64 ((i : Int) + 1), .int .i64 ((j : Int) + 1)] W (RetFits gk N s.size p.size val true W)) (hv : Hid (val i j = true)) :
    Calls Tryz.prog 49 #[.string s, .string p, .bool false, .slice (some ⟨gk, 0, none⟩) N N, .int .i64 (i : Int), .int .i64 (j : Int)] w (RetFits gk N s.size p.size val true w) := by
  obtain ⟨a, ha⟩ : ∃ a, i * (p.size + 1) = a := ⟨_, rfl⟩
  have hlt := place_lt hi hj
  have hset := hM.set hi hj (val := val)
  have hMij : ∀ W, Memo W gk s.size p.size val → ∃ v : Int, W.cell? ⟨gk, i * (p.size + 1) + j, none⟩ = some (.int .i64 v) ∧ W.frozen? ⟨gk, i * (p.size + 1) + j, none⟩ = false := fun W h => by
    obtain ⟨v, h1, h2, _⟩ := h.2 i j hi hj
    exact ⟨v, h1, h2⟩
  have hst1 : ∀ W, Memo W gk s.size p.size val → val i j = false → Memo (W.setCell ⟨gk, i * (p.size + 1) + j, none⟩ (.int .i64 1)) gk s.size p.size val := fun W h hv => h.set hi hj hv
  have hst2 : ∀ W, Memo W gk s.size p.size val → val i j = true → Memo ((W.setCell ⟨gk, i * (p.size + 1) + j, none⟩ (.int .i64 1)).setCell ⟨gk, i * (p.size + 1) + j, none⟩ (.int .i64 2)) gk s.size p.size val := fun W h hv => h.set2 hi hj hv
  clear hset
  rw [← hN, ha] at hlt
  rw [ha] at hc hMij hst1 hst2
  have h2 : (s.size + 1) * (p.size + 1) ≤ 1048577 * 1048577 := Nat.mul_le_mul (by omega) (by omega)
  rw [← hN] at h2
  have e1 : (i : Int) * ((p.size : Int) + 1) = (a : Int) := by rw [← ha]; simp
  have i0 : (0 : Int) ≤ (a : Int) + (j : Int) := by omega
  have i1 : (a : Int) + (j : Int) < (N : Int) := by omega
  have i2 : ((a : Int) + (j : Int)).toNat = a + j := by omega
  obtain ⟨_, hf⟩ := hMij w hM
  obtain ⟨_, hf⟩ := hf
  replace hM := Lib.hid hM
  replace hMij := Lib.hid hMij
  replace hst1 := Lib.hid hst1
  replace hst2 := Lib.hid hst2
  clear ha hN hi hj
  go_enter Tryz.func49, Tryz.ntmps49
  have j0 : (0 : Int) ≤ (j : Int) := by omega
  have j1 : (j : Int) < (p.size : Int) := by omega
  have k0 : (0 : Int) ≤ (i : Int) := by omega
  have k1 : (i : Int) < (s.size : Int) := by omega
  go_wp2
  go_quiet (fail)
  go_wp2_with (go_at_call 49; refine (ih1 _ (hM.out.on (below_drewN (Below.refl _ w) _))).mono ?_; rintro e w1 ⟨rfl, hM1, hB1⟩; obtain ⟨v1, c1, f1⟩ := hMij.out w1 hM1; replace hM1 := Lib.hid hM1)
  go_ret2
  exact ⟨rfl, hst2.out _ hM1.out hv.out, below_s2 ((below_drewN (Below.refl _ w) _).trans hB1)⟩

set_option maxHeartbeats 2000000 in
theorem fits_byteL42yfalse (s p : ByteArray) (gk N i j : Nat) (val : Nat → Nat → Bool) (w : World) (hs : s.size ≤ 1048576) (hp : p.size ≤ 1048576) (hN : N = (s.size + 1) * (p.size + 1)) (hi : i ≤ s.size) (hj : j ≤ p.size) (hM : Memo w gk s.size p.size val) (hc : w.cell? ⟨gk, i * (p.size + 1) + j, none⟩ = some (.int .i64 0)) (hjl : j < p.size) (jm : ((j : Int) == (p.size : Int)) = false) (hil : i < s.size) (il : decide ((i : Int) < (s.size : Int)) = true) (q37 : ((p[j].toNat : Int) == 37) = false) (q42 : ((p[j].toNat : Int) == 42) = true) (q91 : ((p[j].toNat : Int) == 91) = false) (q95 : ((p[j].toNat : Int) == 95) = false) (q63 : ((p[j].toNat : Int) == 63) = false) (eq : ((s[i].toNat : Int) == (p[j].toNat : Int)) = true) (ih1 : ∀ W, Memo W gk s.size p.size val → Calls Tryz.prog 49 #[.string s, .string p, .bool false, .slice (some ⟨gk, 0, none⟩) N N, .int .i64 ((i : Int) + 1), .int .i64 ((j : Int) + 1)] W (RetFits gk N s.size p.size val false W)) (hv : Hid (val i j = false)) :
    Calls Tryz.prog 49 #[.string s, .string p, .bool false, .slice (some ⟨gk, 0, none⟩) N N, .int .i64 (i : Int), .int .i64 (j : Int)] w (RetFits gk N s.size p.size val false w) := by
  obtain ⟨a, ha⟩ : ∃ a, i * (p.size + 1) = a := ⟨_, rfl⟩
  have hlt := place_lt hi hj
  have hset := hM.set hi hj (val := val)
  have hMij : ∀ W, Memo W gk s.size p.size val → ∃ v : Int, W.cell? ⟨gk, i * (p.size + 1) + j, none⟩ = some (.int .i64 v) ∧ W.frozen? ⟨gk, i * (p.size + 1) + j, none⟩ = false := fun W h => by
    obtain ⟨v, h1, h2, _⟩ := h.2 i j hi hj
    exact ⟨v, h1, h2⟩
  have hst1 : ∀ W, Memo W gk s.size p.size val → val i j = false → Memo (W.setCell ⟨gk, i * (p.size + 1) + j, none⟩ (.int .i64 1)) gk s.size p.size val := fun W h hv => h.set hi hj hv
  have hst2 : ∀ W, Memo W gk s.size p.size val → val i j = true → Memo ((W.setCell ⟨gk, i * (p.size + 1) + j, none⟩ (.int .i64 1)).setCell ⟨gk, i * (p.size + 1) + j, none⟩ (.int .i64 2)) gk s.size p.size val := fun W h hv => h.set2 hi hj hv
  clear hset
  rw [← hN, ha] at hlt
  rw [ha] at hc hMij hst1 hst2
  have h2 : (s.size + 1) * (p.size + 1) ≤ 1048577 * 1048577 := Nat.mul_le_mul (by omega) (by omega)
  rw [← hN] at h2
  have e1 : (i : Int) * ((p.size : Int) + 1) = (a : Int) := by rw [← ha]; simp
  have i0 : (0 : Int) ≤ (a : Int) + (j : Int) := by omega
  have i1 : (a : Int) + (j : Int) < (N : Int) := by omega
  have i2 : ((a : Int) + (j : Int)).toNat = a + j := by omega
  obtain ⟨_, hf⟩ := hMij w hM
  obtain ⟨_, hf⟩ := hf
  replace hM := Lib.hid hM
  replace hMij := Lib.hid hMij
  replace hst1 := Lib.hid hst1
  replace hst2 := Lib.hid hst2
  clear ha hN hi hj
  go_enter Tryz.func49, Tryz.ntmps49
  have j0 : (0 : Int) ≤ (j : Int) := by omega
  have j1 : (j : Int) < (p.size : Int) := by omega
  have k0 : (0 : Int) ≤ (i : Int) := by omega
  have k1 : (i : Int) < (s.size : Int) := by omega
  go_wp2
  go_quiet (fail)
  go_wp2_with (go_at_call 49; refine (ih1 _ (hM.out.on (below_drewN (Below.refl _ w) _))).mono ?_; rintro e w1 ⟨rfl, hM1, hB1⟩; obtain ⟨v1, c1, f1⟩ := hMij.out w1 hM1; replace hM1 := Lib.hid hM1)
  go_ret2
  exact ⟨rfl, hst1.out _ hM1.out hv.out, below_s1 ((below_drewN (Below.refl _ w) _).trans hB1)⟩

set_option maxHeartbeats 2000000 in
theorem fits_byteL91e (s p : ByteArray) (gk N i j : Nat) (val : Nat → Nat → Bool) (w : World) (hs : s.size ≤ 1048576) (hp : p.size ≤ 1048576) (hN : N = (s.size + 1) * (p.size + 1)) (hi : i ≤ s.size) (hj : j ≤ p.size) (hM : Memo w gk s.size p.size val) (hc : w.cell? ⟨gk, i * (p.size + 1) + j, none⟩ = some (.int .i64 0)) (hjl : j < p.size) (jm : ((j : Int) == (p.size : Int)) = false) (hin : ¬ i < s.size) (il : decide ((i : Int) < (s.size : Int)) = false) (q37 : ((p[j].toNat : Int) == 37) = false) (q42 : ((p[j].toNat : Int) == 42) = false) (q91 : ((p[j].toNat : Int) == 91) = true) (q95 : ((p[j].toNat : Int) == 95) = false) (q63 : ((p[j].toNat : Int) == 63) = false) (hv : Hid (val i j = false)) :
    Calls Tryz.prog 49 #[.string s, .string p, .bool false, .slice (some ⟨gk, 0, none⟩) N N, .int .i64 (i : Int), .int .i64 (j : Int)] w (RetFits gk N s.size p.size val false w) := by
  obtain ⟨a, ha⟩ : ∃ a, i * (p.size + 1) = a := ⟨_, rfl⟩
  have hlt := place_lt hi hj
  have hset := hM.set hi hj (val := val)
  have hMij : ∀ W, Memo W gk s.size p.size val → ∃ v : Int, W.cell? ⟨gk, i * (p.size + 1) + j, none⟩ = some (.int .i64 v) ∧ W.frozen? ⟨gk, i * (p.size + 1) + j, none⟩ = false := fun W h => by
    obtain ⟨v, h1, h2, _⟩ := h.2 i j hi hj
    exact ⟨v, h1, h2⟩
  have hst1 : ∀ W, Memo W gk s.size p.size val → val i j = false → Memo (W.setCell ⟨gk, i * (p.size + 1) + j, none⟩ (.int .i64 1)) gk s.size p.size val := fun W h hv => h.set hi hj hv
  have hst2 : ∀ W, Memo W gk s.size p.size val → val i j = true → Memo ((W.setCell ⟨gk, i * (p.size + 1) + j, none⟩ (.int .i64 1)).setCell ⟨gk, i * (p.size + 1) + j, none⟩ (.int .i64 2)) gk s.size p.size val := fun W h hv => h.set2 hi hj hv
  clear hset
  rw [← hN, ha] at hlt
  rw [ha] at hc hMij hst1 hst2
  have h2 : (s.size + 1) * (p.size + 1) ≤ 1048577 * 1048577 := Nat.mul_le_mul (by omega) (by omega)
  rw [← hN] at h2
  have e1 : (i : Int) * ((p.size : Int) + 1) = (a : Int) := by rw [← ha]; simp
  have i0 : (0 : Int) ≤ (a : Int) + (j : Int) := by omega
  have i1 : (a : Int) + (j : Int) < (N : Int) := by omega
  have i2 : ((a : Int) + (j : Int)).toNat = a + j := by omega
  obtain ⟨_, hf⟩ := hMij w hM
  obtain ⟨_, hf⟩ := hf
  replace hM := Lib.hid hM
  replace hMij := Lib.hid hMij
  replace hst1 := Lib.hid hst1
  replace hst2 := Lib.hid hst2
  clear ha hN hi hj
  go_enter Tryz.func49, Tryz.ntmps49
  have j0 : (0 : Int) ≤ (j : Int) := by omega
  have j1 : (j : Int) < (p.size : Int) := by omega
  go_wp2
  obtain ⟨W1, hW1⟩ : ∃ W, w.drew = W := ⟨_, rfl⟩
  have hB1 : Below gk w W1 := by rw [← hW1]; exact (Below.refl _ _).drew
  have hM1 : Memo W1 gk s.size p.size val := by rw [← hW1]; exact hM.out.drew
  obtain ⟨v1, c1, f1⟩ := hMij.out W1 hM1
  refine wp_region_held_drew (S := fun _ => True) (by kernel_rfl) trivial (fun hH => ?_)
  rw [hW1]
  clear hW1
  replace hM1 := Lib.hid hM1
  refine wpAnyH_take (i := 0) (v := ?_) rfl (by kernel_rfl) (by kernel_rfl) (by kernel_rfl) (fun _ _ _ h => h) (Or.inl ⟨by rfl, ?_⟩) hH ?_
  rotate_left
  · (intro W hSw; (try dsimp only at hSw); go_simp; try with_reducible rfl)
  try simp only [List.getElem_toArray, List.getElem_cons_zero, List.getElem_cons_succ, Act.put, List.setIfInBounds_toArray, List.set_cons_zero, List.set_cons_succ]
  refine wpAnyH_take (i := 1) (v := ?_) rfl (by kernel_rfl) (by kernel_rfl) (by kernel_rfl) (fun _ _ _ h => h) (Or.inl ⟨by rfl, ?_⟩) hH ?_
  rotate_left
  · (intro W hSw; (try dsimp only at hSw); go_simp; try with_reducible rfl)
  try simp only [List.getElem_toArray, List.getElem_cons_zero, List.getElem_cons_succ, Act.put, List.setIfInBounds_toArray, List.set_cons_zero, List.set_cons_succ]
  refine wpAnyH_take (i := 2) (v := ?_) rfl (by kernel_rfl) (by kernel_rfl) (by kernel_rfl) (fun _ _ _ h => h) (Or.inl ⟨by rfl, ?_⟩) hH ?_
  rotate_left
  · (intro W hSw; (try dsimp only at hSw); go_simp; try with_reducible rfl)
  try simp only [List.getElem_toArray, List.getElem_cons_zero, List.getElem_cons_succ, Act.put, List.setIfInBounds_toArray, List.set_cons_zero, List.set_cons_succ]
  refine wpAnyH_take (i := 3) (v := ?_) rfl (by kernel_rfl) (by kernel_rfl) (by kernel_rfl) (fun _ _ _ h => h) (Or.inl ⟨by rfl, ?_⟩) hH ?_
  rotate_left
  · (intro W hSw; (try dsimp only at hSw); go_simp; try with_reducible rfl)
  try simp only [List.getElem_toArray, List.getElem_cons_zero, List.getElem_cons_succ, Act.put, List.setIfInBounds_toArray, List.set_cons_zero, List.set_cons_succ]
  refine wpAnyH_take (i := 4) (v := ?_) rfl (by kernel_rfl) (by kernel_rfl) (by kernel_rfl) (fun _ _ _ h => h) (Or.inl ⟨by rfl, ?_⟩) hH ?_
  rotate_left
  · (intro W hSw; (try dsimp only at hSw); go_simp; try with_reducible rfl)
  try simp only [List.getElem_toArray, List.getElem_cons_zero, List.getElem_cons_succ, Act.put, List.setIfInBounds_toArray, List.set_cons_zero, List.set_cons_succ]
  refine wpAnyH_take (i := 5) (v := undef) rfl (by kernel_rfl) (by kernel_rfl) (by kernel_rfl) (fun _ _ _ h => h) (Or.inr ⟨by rfl, rfl⟩) hH ?_
  try simp only [List.getElem_toArray, List.getElem_cons_zero, List.getElem_cons_succ, Act.put, List.setIfInBounds_toArray, List.set_cons_zero, List.set_cons_succ]
  refine wpAnyH_take (i := 6) (v := undef) rfl (by kernel_rfl) (by kernel_rfl) (by kernel_rfl) (fun _ _ _ h => h) (Or.inr ⟨by rfl, rfl⟩) hH ?_
  try simp only [List.getElem_toArray, List.getElem_cons_zero, List.getElem_cons_succ, Act.put, List.setIfInBounds_toArray, List.set_cons_zero, List.set_cons_succ]
  refine wpAnyH_take (i := 7) (v := undef) rfl (by kernel_rfl) (by kernel_rfl) (by kernel_rfl) (fun _ _ _ h => h) (Or.inr ⟨by rfl, rfl⟩) hH ?_
  try simp only [List.getElem_toArray, List.getElem_cons_zero, List.getElem_cons_succ, Act.put, List.setIfInBounds_toArray, List.set_cons_zero, List.set_cons_succ]
  refine wpAnyH_take (i := 8) (v := undef) rfl (by kernel_rfl) (by kernel_rfl) (by kernel_rfl) (fun _ _ _ h => h) (Or.inr ⟨by rfl, rfl⟩) hH ?_
  try simp only [List.getElem_toArray, List.getElem_cons_zero, List.getElem_cons_succ, Act.put, List.setIfInBounds_toArray, List.set_cons_zero, List.set_cons_succ]
  refine wpAnyH_take (i := 9) (v := undef) rfl (by kernel_rfl) (by kernel_rfl) (by kernel_rfl) (fun _ _ _ h => h) (Or.inr ⟨by rfl, rfl⟩) hH ?_
  try simp only [List.getElem_toArray, List.getElem_cons_zero, List.getElem_cons_succ, Act.put, List.setIfInBounds_toArray, List.set_cons_zero, List.set_cons_succ]
  refine wpAnyH_take (i := 10) (v := undef) rfl (by kernel_rfl) (by kernel_rfl) (by kernel_rfl) (fun _ _ _ h => h) (Or.inr ⟨by rfl, rfl⟩) hH ?_
  try simp only [List.getElem_toArray, List.getElem_cons_zero, List.getElem_cons_succ, Act.put, List.setIfInBounds_toArray, List.set_cons_zero, List.set_cons_succ]
  refine wpAnyH_take (i := 11) (v := undef) rfl (by kernel_rfl) (by kernel_rfl) (by kernel_rfl) (fun _ _ _ h => h) (Or.inr ⟨by rfl, rfl⟩) hH ?_
  try simp only [List.getElem_toArray, List.getElem_cons_zero, List.getElem_cons_succ, Act.put, List.setIfInBounds_toArray, List.set_cons_zero, List.set_cons_succ]
  refine wpAnyH_take (i := 12) (v := undef) rfl (by kernel_rfl) (by kernel_rfl) (by kernel_rfl) (fun _ _ _ h => h) (Or.inr ⟨by rfl, rfl⟩) hH ?_
  try simp only [List.getElem_toArray, List.getElem_cons_zero, List.getElem_cons_succ, Act.put, List.setIfInBounds_toArray, List.set_cons_zero, List.set_cons_succ]
  refine wpAnyH_take (i := 13) (v := undef) rfl (by kernel_rfl) (by kernel_rfl) (by kernel_rfl) (fun _ _ _ h => h) (Or.inr ⟨by rfl, rfl⟩) hH ?_
  try simp only [List.getElem_toArray, List.getElem_cons_zero, List.getElem_cons_succ, Act.put, List.setIfInBounds_toArray, List.set_cons_zero, List.set_cons_succ]
  refine wpAnyH_take (i := 14) (v := undef) rfl (by kernel_rfl) (by kernel_rfl) (by kernel_rfl) (fun _ _ _ h => h) (Or.inr ⟨by rfl, rfl⟩) hH ?_
  try simp only [List.getElem_toArray, List.getElem_cons_zero, List.getElem_cons_succ, Act.put, List.setIfInBounds_toArray, List.set_cons_zero, List.set_cons_succ]
  refine wpAnyH_take (i := 15) (v := undef) rfl (by kernel_rfl) (by kernel_rfl) (by kernel_rfl) (fun _ _ _ h => h) (Or.inr ⟨by rfl, rfl⟩) hH ?_
  try simp only [List.getElem_toArray, List.getElem_cons_zero, List.getElem_cons_succ, Act.put, List.setIfInBounds_toArray, List.set_cons_zero, List.set_cons_succ]
  refine wpAnyH_take (i := 16) (v := undef) rfl (by kernel_rfl) (by kernel_rfl) (by kernel_rfl) (fun _ _ _ h => h) (Or.inr ⟨by rfl, rfl⟩) hH ?_
  try simp only [List.getElem_toArray, List.getElem_cons_zero, List.getElem_cons_succ, Act.put, List.setIfInBounds_toArray, List.set_cons_zero, List.set_cons_succ]
  refine wpAnyH_take (i := 17) (v := undef) rfl (by kernel_rfl) (by kernel_rfl) (by kernel_rfl) (fun _ _ _ h => h) (Or.inr ⟨by rfl, rfl⟩) hH ?_
  try simp only [List.getElem_toArray, List.getElem_cons_zero, List.getElem_cons_succ, Act.put, List.setIfInBounds_toArray, List.set_cons_zero, List.set_cons_succ]
  refine wpAnyH_take (i := 18) (v := undef) rfl (by kernel_rfl) (by kernel_rfl) (by kernel_rfl) (fun _ _ _ h => h) (Or.inr ⟨by rfl, rfl⟩) hH ?_
  try simp only [List.getElem_toArray, List.getElem_cons_zero, List.getElem_cons_succ, Act.put, List.setIfInBounds_toArray, List.set_cons_zero, List.set_cons_succ]
  refine wpAnyH_take (i := 19) (v := undef) rfl (by kernel_rfl) (by kernel_rfl) (by kernel_rfl) (fun _ _ _ h => h) (Or.inr ⟨by rfl, rfl⟩) hH ?_
  try simp only [List.getElem_toArray, List.getElem_cons_zero, List.getElem_cons_succ, Act.put, List.setIfInBounds_toArray, List.set_cons_zero, List.set_cons_succ]
  refine wpAnyH_take (i := 20) (v := undef) rfl (by kernel_rfl) (by kernel_rfl) (by kernel_rfl) (fun _ _ _ h => h) (Or.inr ⟨by rfl, rfl⟩) hH ?_
  try simp only [List.getElem_toArray, List.getElem_cons_zero, List.getElem_cons_succ, Act.put, List.setIfInBounds_toArray, List.set_cons_zero, List.set_cons_succ]
  refine wpAnyH_take (i := 21) (v := undef) rfl (by kernel_rfl) (by kernel_rfl) (by kernel_rfl) (fun _ _ _ h => h) (Or.inr ⟨by rfl, rfl⟩) hH ?_
  try simp only [List.getElem_toArray, List.getElem_cons_zero, List.getElem_cons_succ, Act.put, List.setIfInBounds_toArray, List.set_cons_zero, List.set_cons_succ]
  refine wpAnyH_take (i := 22) (v := undef) rfl (by kernel_rfl) (by kernel_rfl) (by kernel_rfl) (fun _ _ _ h => h) (Or.inr ⟨by rfl, rfl⟩) hH ?_
  try simp only [List.getElem_toArray, List.getElem_cons_zero, List.getElem_cons_succ, Act.put, List.setIfInBounds_toArray, List.set_cons_zero, List.set_cons_succ]
  refine wpAnyH_take (i := 23) (v := undef) rfl (by kernel_rfl) (by kernel_rfl) (by kernel_rfl) (fun _ _ _ h => h) (Or.inr ⟨by rfl, rfl⟩) hH ?_
  try simp only [List.getElem_toArray, List.getElem_cons_zero, List.getElem_cons_succ, Act.put, List.setIfInBounds_toArray, List.set_cons_zero, List.set_cons_succ]
  refine wpAnyH_take (i := 24) (v := undef) rfl (by kernel_rfl) (by kernel_rfl) (by kernel_rfl) (fun _ _ _ h => h) (Or.inr ⟨by rfl, rfl⟩) hH ?_
  try simp only [List.getElem_toArray, List.getElem_cons_zero, List.getElem_cons_succ, Act.put, List.setIfInBounds_toArray, List.set_cons_zero, List.set_cons_succ]
  refine wpAnyH_take (i := 25) (v := undef) rfl (by kernel_rfl) (by kernel_rfl) (by kernel_rfl) (fun _ _ _ h => h) (Or.inr ⟨by rfl, rfl⟩) hH ?_
  try simp only [List.getElem_toArray, List.getElem_cons_zero, List.getElem_cons_succ, Act.put, List.setIfInBounds_toArray, List.set_cons_zero, List.set_cons_succ]
  refine wpAnyH_take (i := 26) (v := undef) rfl (by kernel_rfl) (by kernel_rfl) (by kernel_rfl) (fun _ _ _ h => h) (Or.inr ⟨by rfl, rfl⟩) hH ?_
  try simp only [List.getElem_toArray, List.getElem_cons_zero, List.getElem_cons_succ, Act.put, List.setIfInBounds_toArray, List.set_cons_zero, List.set_cons_succ]
  refine wpAnyH_take (i := 27) (v := undef) rfl (by kernel_rfl) (by kernel_rfl) (by kernel_rfl) (fun _ _ _ h => h) (Or.inr ⟨by rfl, rfl⟩) hH ?_
  try simp only [List.getElem_toArray, List.getElem_cons_zero, List.getElem_cons_succ, Act.put, List.setIfInBounds_toArray, List.set_cons_zero, List.set_cons_succ]
  refine wpAnyH_take (i := 28) (v := undef) rfl (by kernel_rfl) (by kernel_rfl) (by kernel_rfl) (fun _ _ _ h => h) (Or.inr ⟨by rfl, rfl⟩) hH ?_
  try simp only [List.getElem_toArray, List.getElem_cons_zero, List.getElem_cons_succ, Act.put, List.setIfInBounds_toArray, List.set_cons_zero, List.set_cons_succ]
  refine wpAnyH_take (i := 29) (v := undef) rfl (by kernel_rfl) (by kernel_rfl) (by kernel_rfl) (fun _ _ _ h => h) (Or.inr ⟨by rfl, rfl⟩) hH ?_
  try simp only [List.getElem_toArray, List.getElem_cons_zero, List.getElem_cons_succ, Act.put, List.setIfInBounds_toArray, List.set_cons_zero, List.set_cons_succ]
  refine wpAnyH_take (i := 30) (v := undef) rfl (by kernel_rfl) (by kernel_rfl) (by kernel_rfl) (fun _ _ _ h => h) (Or.inr ⟨by rfl, rfl⟩) hH ?_
  try simp only [List.getElem_toArray, List.getElem_cons_zero, List.getElem_cons_succ, Act.put, List.setIfInBounds_toArray, List.set_cons_zero, List.set_cons_succ]
  refine wpAnyH_take (i := 31) (v := ?_) rfl (by kernel_rfl) (by kernel_rfl) (by kernel_rfl) (fun _ _ _ h => h) (Or.inl ⟨by rfl, ?_⟩) hH ?_
  rotate_left
  · (intro W hSw; (try dsimp only at hSw); go_simp; try with_reducible rfl)
  try simp only [List.getElem_toArray, List.getElem_cons_zero, List.getElem_cons_succ, Act.put, List.setIfInBounds_toArray, List.set_cons_zero, List.set_cons_succ]
  refine wpAnyH_done (by kernel_rfl) ?_ _
  go_wp2
  go_ret2
  exact ⟨rfl, hst1.out _ hM1.out hv.out, below_s1 (hB1)⟩

set_option maxHeartbeats 2000000 in
theorem fits_byteL91n (s p : ByteArray) (gk N i j : Nat) (val : Nat → Nat → Bool) (w : World) (hs : s.size ≤ 1048576) (hp : p.size ≤ 1048576) (hN : N = (s.size + 1) * (p.size + 1)) (hi : i ≤ s.size) (hj : j ≤ p.size) (hM : Memo w gk s.size p.size val) (hc : w.cell? ⟨gk, i * (p.size + 1) + j, none⟩ = some (.int .i64 0)) (hjl : j < p.size) (jm : ((j : Int) == (p.size : Int)) = false) (hil : i < s.size) (il : decide ((i : Int) < (s.size : Int)) = true) (q37 : ((p[j].toNat : Int) == 37) = false) (q42 : ((p[j].toNat : Int) == 42) = false) (q91 : ((p[j].toNat : Int) == 91) = true) (q95 : ((p[j].toNat : Int) == 95) = false) (q63 : ((p[j].toNat : Int) == 63) = false) (eq : ((s[i].toNat : Int) == (p[j].toNat : Int)) = false) (hv : Hid (val i j = false)) :
    Calls Tryz.prog 49 #[.string s, .string p, .bool false, .slice (some ⟨gk, 0, none⟩) N N, .int .i64 (i : Int), .int .i64 (j : Int)] w (RetFits gk N s.size p.size val false w) := by
  obtain ⟨a, ha⟩ : ∃ a, i * (p.size + 1) = a := ⟨_, rfl⟩
  have hlt := place_lt hi hj
  have hset := hM.set hi hj (val := val)
  have hMij : ∀ W, Memo W gk s.size p.size val → ∃ v : Int, W.cell? ⟨gk, i * (p.size + 1) + j, none⟩ = some (.int .i64 v) ∧ W.frozen? ⟨gk, i * (p.size + 1) + j, none⟩ = false := fun W h => by
    obtain ⟨v, h1, h2, _⟩ := h.2 i j hi hj
    exact ⟨v, h1, h2⟩
  have hst1 : ∀ W, Memo W gk s.size p.size val → val i j = false → Memo (W.setCell ⟨gk, i * (p.size + 1) + j, none⟩ (.int .i64 1)) gk s.size p.size val := fun W h hv => h.set hi hj hv
  have hst2 : ∀ W, Memo W gk s.size p.size val → val i j = true → Memo ((W.setCell ⟨gk, i * (p.size + 1) + j, none⟩ (.int .i64 1)).setCell ⟨gk, i * (p.size + 1) + j, none⟩ (.int .i64 2)) gk s.size p.size val := fun W h hv => h.set2 hi hj hv
  clear hset
  rw [← hN, ha] at hlt
  rw [ha] at hc hMij hst1 hst2
  have h2 : (s.size + 1) * (p.size + 1) ≤ 1048577 * 1048577 := Nat.mul_le_mul (by omega) (by omega)
  rw [← hN] at h2
  have e1 : (i : Int) * ((p.size : Int) + 1) = (a : Int) := by rw [← ha]; simp
  have i0 : (0 : Int) ≤ (a : Int) + (j : Int) := by omega
  have i1 : (a : Int) + (j : Int) < (N : Int) := by omega
  have i2 : ((a : Int) + (j : Int)).toNat = a + j := by omega
  obtain ⟨_, hf⟩ := hMij w hM
  obtain ⟨_, hf⟩ := hf
  replace hM := Lib.hid hM
  replace hMij := Lib.hid hMij
  replace hst1 := Lib.hid hst1
  replace hst2 := Lib.hid hst2
  clear ha hN hi hj
  go_enter Tryz.func49, Tryz.ntmps49
  have j0 : (0 : Int) ≤ (j : Int) := by omega
  have j1 : (j : Int) < (p.size : Int) := by omega
  have k0 : (0 : Int) ≤ (i : Int) := by omega
  have k1 : (i : Int) < (s.size : Int) := by omega
  go_wp2
  go_quiet (fail)
  go_wp2
  go_ret2
  exact ⟨rfl, hst1.out _ (hM.out.on (below_drewN (Below.refl _ w) _)) hv.out, below_s1 (below_drewN (Below.refl _ w) _)⟩

set_option maxHeartbeats 2000000 in
theorem fits_byteL91ytrue (s p : ByteArray) (gk N i j : Nat) (val : Nat → Nat → Bool) (w : World) (hs : s.size ≤ 1048576) (hp : p.size ≤ 1048576) (hN : N = (s.size + 1) * (p.size + 1)) (hi : i ≤ s.size) (hj : j ≤ p.size) (hM : Memo w gk s.size p.size val) (hc : w.cell? ⟨gk, i * (p.size + 1) + j, none⟩ = some (.int .i64 0)) (hjl : j < p.size) (jm : ((j : Int) == (p.size : Int)) = false) (hil : i < s.size) (il : decide ((i : Int) < (s.size : Int)) = true) (q37 : ((p[j].toNat : Int) == 37) = false) (q42 : ((p[j].toNat : Int) == 42) = false) (q91 : ((p[j].toNat : Int) == 91) = true) (q95 : ((p[j].toNat : Int) == 95) = false) (q63 : ((p[j].toNat : Int) == 63) = false) (eq : ((s[i].toNat : Int) == (p[j].toNat : Int)) = true) (ih1 : ∀ W, Memo W gk s.size p.size val → Calls Tryz.prog 49 #[.string s, .string p, .bool false, .slice (some ⟨gk, 0, none⟩) N N, .int .i64 ((i : Int) + 1), .int .i64 ((j : Int) + 1)] W (RetFits gk N s.size p.size val true W)) (hv : Hid (val i j = true)) :
    Calls Tryz.prog 49 #[.string s, .string p, .bool false, .slice (some ⟨gk, 0, none⟩) N N, .int .i64 (i : Int), .int .i64 (j : Int)] w (RetFits gk N s.size p.size val true w) := by
  obtain ⟨a, ha⟩ : ∃ a, i * (p.size + 1) = a := ⟨_, rfl⟩
  have hlt := place_lt hi hj
  have hset := hM.set hi hj (val := val)
  have hMij : ∀ W, Memo W gk s.size p.size val → ∃ v : Int, W.cell? ⟨gk, i * (p.size + 1) + j, none⟩ = some (.int .i64 v) ∧ W.frozen? ⟨gk, i * (p.size + 1) + j, none⟩ = false := fun W h => by
    obtain ⟨v, h1, h2, _⟩ := h.2 i j hi hj
    exact ⟨v, h1, h2⟩
  have hst1 : ∀ W, Memo W gk s.size p.size val → val i j = false → Memo (W.setCell ⟨gk, i * (p.size + 1) + j, none⟩ (.int .i64 1)) gk s.size p.size val := fun W h hv => h.set hi hj hv
  have hst2 : ∀ W, Memo W gk s.size p.size val → val i j = true → Memo ((W.setCell ⟨gk, i * (p.size + 1) + j, none⟩ (.int .i64 1)).setCell ⟨gk, i * (p.size + 1) + j, none⟩ (.int .i64 2)) gk s.size p.size val := fun W h hv => h.set2 hi hj hv
  clear hset
  rw [← hN, ha] at hlt
  rw [ha] at hc hMij hst1 hst2
  have h2 : (s.size + 1) * (p.size + 1) ≤ 1048577 * 1048577 := Nat.mul_le_mul (by omega) (by omega)
  rw [← hN] at h2
  have e1 : (i : Int) * ((p.size : Int) + 1) = (a : Int) := by rw [← ha]; simp
  have i0 : (0 : Int) ≤ (a : Int) + (j : Int) := by omega
  have i1 : (a : Int) + (j : Int) < (N : Int) := by omega
  have i2 : ((a : Int) + (j : Int)).toNat = a + j := by omega
  obtain ⟨_, hf⟩ := hMij w hM
  obtain ⟨_, hf⟩ := hf
  replace hM := Lib.hid hM
  replace hMij := Lib.hid hMij
  replace hst1 := Lib.hid hst1
  replace hst2 := Lib.hid hst2
  clear ha hN hi hj
  go_enter Tryz.func49, Tryz.ntmps49
  have j0 : (0 : Int) ≤ (j : Int) := by omega
  have j1 : (j : Int) < (p.size : Int) := by omega
  have k0 : (0 : Int) ≤ (i : Int) := by omega
  have k1 : (i : Int) < (s.size : Int) := by omega
  go_wp2
  go_quiet (fail)
  go_wp2_with (go_at_call 49; refine (ih1 _ (hM.out.on (below_drewN (Below.refl _ w) _))).mono ?_; rintro e w1 ⟨rfl, hM1, hB1⟩; obtain ⟨v1, c1, f1⟩ := hMij.out w1 hM1; replace hM1 := Lib.hid hM1)
  go_ret2
  exact ⟨rfl, hst2.out _ hM1.out hv.out, below_s2 ((below_drewN (Below.refl _ w) _).trans hB1)⟩

set_option maxHeartbeats 2000000 in
theorem fits_byteL91yfalse (s p : ByteArray) (gk N i j : Nat) (val : Nat → Nat → Bool) (w : World) (hs : s.size ≤ 1048576) (hp : p.size ≤ 1048576) (hN : N = (s.size + 1) * (p.size + 1)) (hi : i ≤ s.size) (hj : j ≤ p.size) (hM : Memo w gk s.size p.size val) (hc : w.cell? ⟨gk, i * (p.size + 1) + j, none⟩ = some (.int .i64 0)) (hjl : j < p.size) (jm : ((j : Int) == (p.size : Int)) = false) (hil : i < s.size) (il : decide ((i : Int) < (s.size : Int)) = true) (q37 : ((p[j].toNat : Int) == 37) = false) (q42 : ((p[j].toNat : Int) == 42) = false) (q91 : ((p[j].toNat : Int) == 91) = true) (q95 : ((p[j].toNat : Int) == 95) = false) (q63 : ((p[j].toNat : Int) == 63) = false) (eq : ((s[i].toNat : Int) == (p[j].toNat : Int)) = true) (ih1 : ∀ W, Memo W gk s.size p.size val → Calls Tryz.prog 49 #[.string s, .string p, .bool false, .slice (some ⟨gk, 0, none⟩) N N, .int .i64 ((i : Int) + 1), .int .i64 ((j : Int) + 1)] W (RetFits gk N s.size p.size val false W)) (hv : Hid (val i j = false)) :
    Calls Tryz.prog 49 #[.string s, .string p, .bool false, .slice (some ⟨gk, 0, none⟩) N N, .int .i64 (i : Int), .int .i64 (j : Int)] w (RetFits gk N s.size p.size val false w) := by
  obtain ⟨a, ha⟩ : ∃ a, i * (p.size + 1) = a := ⟨_, rfl⟩
  have hlt := place_lt hi hj
  have hset := hM.set hi hj (val := val)
  have hMij : ∀ W, Memo W gk s.size p.size val → ∃ v : Int, W.cell? ⟨gk, i * (p.size + 1) + j, none⟩ = some (.int .i64 v) ∧ W.frozen? ⟨gk, i * (p.size + 1) + j, none⟩ = false := fun W h => by
    obtain ⟨v, h1, h2, _⟩ := h.2 i j hi hj
    exact ⟨v, h1, h2⟩
  have hst1 : ∀ W, Memo W gk s.size p.size val → val i j = false → Memo (W.setCell ⟨gk, i * (p.size + 1) + j, none⟩ (.int .i64 1)) gk s.size p.size val := fun W h hv => h.set hi hj hv
  have hst2 : ∀ W, Memo W gk s.size p.size val → val i j = true → Memo ((W.setCell ⟨gk, i * (p.size + 1) + j, none⟩ (.int .i64 1)).setCell ⟨gk, i * (p.size + 1) + j, none⟩ (.int .i64 2)) gk s.size p.size val := fun W h hv => h.set2 hi hj hv
  clear hset
  rw [← hN, ha] at hlt
  rw [ha] at hc hMij hst1 hst2
  have h2 : (s.size + 1) * (p.size + 1) ≤ 1048577 * 1048577 := Nat.mul_le_mul (by omega) (by omega)
  rw [← hN] at h2
  have e1 : (i : Int) * ((p.size : Int) + 1) = (a : Int) := by rw [← ha]; simp
  have i0 : (0 : Int) ≤ (a : Int) + (j : Int) := by omega
  have i1 : (a : Int) + (j : Int) < (N : Int) := by omega
  have i2 : ((a : Int) + (j : Int)).toNat = a + j := by omega
  obtain ⟨_, hf⟩ := hMij w hM
  obtain ⟨_, hf⟩ := hf
  replace hM := Lib.hid hM
  replace hMij := Lib.hid hMij
  replace hst1 := Lib.hid hst1
  replace hst2 := Lib.hid hst2
  clear ha hN hi hj
  go_enter Tryz.func49, Tryz.ntmps49
  have j0 : (0 : Int) ≤ (j : Int) := by omega
  have j1 : (j : Int) < (p.size : Int) := by omega
  have k0 : (0 : Int) ≤ (i : Int) := by omega
  have k1 : (i : Int) < (s.size : Int) := by omega
  go_wp2
  go_quiet (fail)
  go_wp2_with (go_at_call 49; refine (ih1 _ (hM.out.on (below_drewN (Below.refl _ w) _))).mono ?_; rintro e w1 ⟨rfl, hM1, hB1⟩; obtain ⟨v1, c1, f1⟩ := hMij.out w1 hM1; replace hM1 := Lib.hid hM1)
  go_ret2
  exact ⟨rfl, hst1.out _ hM1.out hv.out, below_s1 ((below_drewN (Below.refl _ w) _).trans hB1)⟩

set_option maxHeartbeats 2000000 in
theorem fits_byteL95e (s p : ByteArray) (gk N i j : Nat) (val : Nat → Nat → Bool) (w : World) (hs : s.size ≤ 1048576) (hp : p.size ≤ 1048576) (hN : N = (s.size + 1) * (p.size + 1)) (hi : i ≤ s.size) (hj : j ≤ p.size) (hM : Memo w gk s.size p.size val) (hc : w.cell? ⟨gk, i * (p.size + 1) + j, none⟩ = some (.int .i64 0)) (hjl : j < p.size) (jm : ((j : Int) == (p.size : Int)) = false) (hin : ¬ i < s.size) (il : decide ((i : Int) < (s.size : Int)) = false) (q37 : ((p[j].toNat : Int) == 37) = false) (q42 : ((p[j].toNat : Int) == 42) = false) (q91 : ((p[j].toNat : Int) == 91) = false) (q95 : ((p[j].toNat : Int) == 95) = true) (q63 : ((p[j].toNat : Int) == 63) = false) (hv : Hid (val i j = false)) :
    Calls Tryz.prog 49 #[.string s, .string p, .bool false, .slice (some ⟨gk, 0, none⟩) N N, .int .i64 (i : Int), .int .i64 (j : Int)] w (RetFits gk N s.size p.size val false w) := by
  obtain ⟨a, ha⟩ : ∃ a, i * (p.size + 1) = a := ⟨_, rfl⟩
  have hlt := place_lt hi hj
  have hset := hM.set hi hj (val := val)
  have hMij : ∀ W, Memo W gk s.size p.size val → ∃ v : Int, W.cell? ⟨gk, i * (p.size + 1) + j, none⟩ = some (.int .i64 v) ∧ W.frozen? ⟨gk, i * (p.size + 1) + j, none⟩ = false := fun W h => by
    obtain ⟨v, h1, h2, _⟩ := h.2 i j hi hj
    exact ⟨v, h1, h2⟩
  have hst1 : ∀ W, Memo W gk s.size p.size val → val i j = false → Memo (W.setCell ⟨gk, i * (p.size + 1) + j, none⟩ (.int .i64 1)) gk s.size p.size val := fun W h hv => h.set hi hj hv
  have hst2 : ∀ W, Memo W gk s.size p.size val → val i j = true → Memo ((W.setCell ⟨gk, i * (p.size + 1) + j, none⟩ (.int .i64 1)).setCell ⟨gk, i * (p.size + 1) + j, none⟩ (.int .i64 2)) gk s.size p.size val := fun W h hv => h.set2 hi hj hv
  clear hset
  rw [← hN, ha] at hlt
  rw [ha] at hc hMij hst1 hst2
  have h2 : (s.size + 1) * (p.size + 1) ≤ 1048577 * 1048577 := Nat.mul_le_mul (by omega) (by omega)
  rw [← hN] at h2
  have e1 : (i : Int) * ((p.size : Int) + 1) = (a : Int) := by rw [← ha]; simp
  have i0 : (0 : Int) ≤ (a : Int) + (j : Int) := by omega
  have i1 : (a : Int) + (j : Int) < (N : Int) := by omega
  have i2 : ((a : Int) + (j : Int)).toNat = a + j := by omega
  obtain ⟨_, hf⟩ := hMij w hM
  obtain ⟨_, hf⟩ := hf
  replace hM := Lib.hid hM
  replace hMij := Lib.hid hMij
  replace hst1 := Lib.hid hst1
  replace hst2 := Lib.hid hst2
  clear ha hN hi hj
  go_enter Tryz.func49, Tryz.ntmps49
  have j0 : (0 : Int) ≤ (j : Int) := by omega
  have j1 : (j : Int) < (p.size : Int) := by omega
  go_wp2
  obtain ⟨W1, hW1⟩ : ∃ W, w.drew = W := ⟨_, rfl⟩
  have hB1 : Below gk w W1 := by rw [← hW1]; exact (Below.refl _ _).drew
  have hM1 : Memo W1 gk s.size p.size val := by rw [← hW1]; exact hM.out.drew
  obtain ⟨v1, c1, f1⟩ := hMij.out W1 hM1
  refine wp_region_held_drew (S := fun _ => True) (by kernel_rfl) trivial (fun hH => ?_)
  rw [hW1]
  clear hW1
  replace hM1 := Lib.hid hM1
  refine wpAnyH_take (i := 0) (v := ?_) rfl (by kernel_rfl) (by kernel_rfl) (by kernel_rfl) (fun _ _ _ h => h) (Or.inl ⟨by rfl, ?_⟩) hH ?_
  rotate_left
  · (intro W hSw; (try dsimp only at hSw); go_simp; try with_reducible rfl)
  try simp only [List.getElem_toArray, List.getElem_cons_zero, List.getElem_cons_succ, Act.put, List.setIfInBounds_toArray, List.set_cons_zero, List.set_cons_succ]
  refine wpAnyH_take (i := 1) (v := ?_) rfl (by kernel_rfl) (by kernel_rfl) (by kernel_rfl) (fun _ _ _ h => h) (Or.inl ⟨by rfl, ?_⟩) hH ?_
  rotate_left
  · (intro W hSw; (try dsimp only at hSw); go_simp; try with_reducible rfl)
  try simp only [List.getElem_toArray, List.getElem_cons_zero, List.getElem_cons_succ, Act.put, List.setIfInBounds_toArray, List.set_cons_zero, List.set_cons_succ]
  refine wpAnyH_take (i := 2) (v := ?_) rfl (by kernel_rfl) (by kernel_rfl) (by kernel_rfl) (fun _ _ _ h => h) (Or.inl ⟨by rfl, ?_⟩) hH ?_
  rotate_left
  · (intro W hSw; (try dsimp only at hSw); go_simp; try with_reducible rfl)
  try simp only [List.getElem_toArray, List.getElem_cons_zero, List.getElem_cons_succ, Act.put, List.setIfInBounds_toArray, List.set_cons_zero, List.set_cons_succ]
  refine wpAnyH_take (i := 3) (v := ?_) rfl (by kernel_rfl) (by kernel_rfl) (by kernel_rfl) (fun _ _ _ h => h) (Or.inl ⟨by rfl, ?_⟩) hH ?_
  rotate_left
  · (intro W hSw; (try dsimp only at hSw); go_simp; try with_reducible rfl)
  try simp only [List.getElem_toArray, List.getElem_cons_zero, List.getElem_cons_succ, Act.put, List.setIfInBounds_toArray, List.set_cons_zero, List.set_cons_succ]
  refine wpAnyH_take (i := 4) (v := ?_) rfl (by kernel_rfl) (by kernel_rfl) (by kernel_rfl) (fun _ _ _ h => h) (Or.inl ⟨by rfl, ?_⟩) hH ?_
  rotate_left
  · (intro W hSw; (try dsimp only at hSw); go_simp; try with_reducible rfl)
  try simp only [List.getElem_toArray, List.getElem_cons_zero, List.getElem_cons_succ, Act.put, List.setIfInBounds_toArray, List.set_cons_zero, List.set_cons_succ]
  refine wpAnyH_take (i := 5) (v := undef) rfl (by kernel_rfl) (by kernel_rfl) (by kernel_rfl) (fun _ _ _ h => h) (Or.inr ⟨by rfl, rfl⟩) hH ?_
  try simp only [List.getElem_toArray, List.getElem_cons_zero, List.getElem_cons_succ, Act.put, List.setIfInBounds_toArray, List.set_cons_zero, List.set_cons_succ]
  refine wpAnyH_take (i := 6) (v := undef) rfl (by kernel_rfl) (by kernel_rfl) (by kernel_rfl) (fun _ _ _ h => h) (Or.inr ⟨by rfl, rfl⟩) hH ?_
  try simp only [List.getElem_toArray, List.getElem_cons_zero, List.getElem_cons_succ, Act.put, List.setIfInBounds_toArray, List.set_cons_zero, List.set_cons_succ]
  refine wpAnyH_take (i := 7) (v := undef) rfl (by kernel_rfl) (by kernel_rfl) (by kernel_rfl) (fun _ _ _ h => h) (Or.inr ⟨by rfl, rfl⟩) hH ?_
  try simp only [List.getElem_toArray, List.getElem_cons_zero, List.getElem_cons_succ, Act.put, List.setIfInBounds_toArray, List.set_cons_zero, List.set_cons_succ]
  refine wpAnyH_take (i := 8) (v := undef) rfl (by kernel_rfl) (by kernel_rfl) (by kernel_rfl) (fun _ _ _ h => h) (Or.inr ⟨by rfl, rfl⟩) hH ?_
  try simp only [List.getElem_toArray, List.getElem_cons_zero, List.getElem_cons_succ, Act.put, List.setIfInBounds_toArray, List.set_cons_zero, List.set_cons_succ]
  refine wpAnyH_take (i := 9) (v := undef) rfl (by kernel_rfl) (by kernel_rfl) (by kernel_rfl) (fun _ _ _ h => h) (Or.inr ⟨by rfl, rfl⟩) hH ?_
  try simp only [List.getElem_toArray, List.getElem_cons_zero, List.getElem_cons_succ, Act.put, List.setIfInBounds_toArray, List.set_cons_zero, List.set_cons_succ]
  refine wpAnyH_take (i := 10) (v := undef) rfl (by kernel_rfl) (by kernel_rfl) (by kernel_rfl) (fun _ _ _ h => h) (Or.inr ⟨by rfl, rfl⟩) hH ?_
  try simp only [List.getElem_toArray, List.getElem_cons_zero, List.getElem_cons_succ, Act.put, List.setIfInBounds_toArray, List.set_cons_zero, List.set_cons_succ]
  refine wpAnyH_take (i := 11) (v := undef) rfl (by kernel_rfl) (by kernel_rfl) (by kernel_rfl) (fun _ _ _ h => h) (Or.inr ⟨by rfl, rfl⟩) hH ?_
  try simp only [List.getElem_toArray, List.getElem_cons_zero, List.getElem_cons_succ, Act.put, List.setIfInBounds_toArray, List.set_cons_zero, List.set_cons_succ]
  refine wpAnyH_take (i := 12) (v := undef) rfl (by kernel_rfl) (by kernel_rfl) (by kernel_rfl) (fun _ _ _ h => h) (Or.inr ⟨by rfl, rfl⟩) hH ?_
  try simp only [List.getElem_toArray, List.getElem_cons_zero, List.getElem_cons_succ, Act.put, List.setIfInBounds_toArray, List.set_cons_zero, List.set_cons_succ]
  refine wpAnyH_take (i := 13) (v := undef) rfl (by kernel_rfl) (by kernel_rfl) (by kernel_rfl) (fun _ _ _ h => h) (Or.inr ⟨by rfl, rfl⟩) hH ?_
  try simp only [List.getElem_toArray, List.getElem_cons_zero, List.getElem_cons_succ, Act.put, List.setIfInBounds_toArray, List.set_cons_zero, List.set_cons_succ]
  refine wpAnyH_take (i := 14) (v := undef) rfl (by kernel_rfl) (by kernel_rfl) (by kernel_rfl) (fun _ _ _ h => h) (Or.inr ⟨by rfl, rfl⟩) hH ?_
  try simp only [List.getElem_toArray, List.getElem_cons_zero, List.getElem_cons_succ, Act.put, List.setIfInBounds_toArray, List.set_cons_zero, List.set_cons_succ]
  refine wpAnyH_take (i := 15) (v := undef) rfl (by kernel_rfl) (by kernel_rfl) (by kernel_rfl) (fun _ _ _ h => h) (Or.inr ⟨by rfl, rfl⟩) hH ?_
  try simp only [List.getElem_toArray, List.getElem_cons_zero, List.getElem_cons_succ, Act.put, List.setIfInBounds_toArray, List.set_cons_zero, List.set_cons_succ]
  refine wpAnyH_take (i := 16) (v := undef) rfl (by kernel_rfl) (by kernel_rfl) (by kernel_rfl) (fun _ _ _ h => h) (Or.inr ⟨by rfl, rfl⟩) hH ?_
  try simp only [List.getElem_toArray, List.getElem_cons_zero, List.getElem_cons_succ, Act.put, List.setIfInBounds_toArray, List.set_cons_zero, List.set_cons_succ]
  refine wpAnyH_take (i := 17) (v := undef) rfl (by kernel_rfl) (by kernel_rfl) (by kernel_rfl) (fun _ _ _ h => h) (Or.inr ⟨by rfl, rfl⟩) hH ?_
  try simp only [List.getElem_toArray, List.getElem_cons_zero, List.getElem_cons_succ, Act.put, List.setIfInBounds_toArray, List.set_cons_zero, List.set_cons_succ]
  refine wpAnyH_take (i := 18) (v := undef) rfl (by kernel_rfl) (by kernel_rfl) (by kernel_rfl) (fun _ _ _ h => h) (Or.inr ⟨by rfl, rfl⟩) hH ?_
  try simp only [List.getElem_toArray, List.getElem_cons_zero, List.getElem_cons_succ, Act.put, List.setIfInBounds_toArray, List.set_cons_zero, List.set_cons_succ]
  refine wpAnyH_take (i := 19) (v := undef) rfl (by kernel_rfl) (by kernel_rfl) (by kernel_rfl) (fun _ _ _ h => h) (Or.inr ⟨by rfl, rfl⟩) hH ?_
  try simp only [List.getElem_toArray, List.getElem_cons_zero, List.getElem_cons_succ, Act.put, List.setIfInBounds_toArray, List.set_cons_zero, List.set_cons_succ]
  refine wpAnyH_take (i := 20) (v := undef) rfl (by kernel_rfl) (by kernel_rfl) (by kernel_rfl) (fun _ _ _ h => h) (Or.inr ⟨by rfl, rfl⟩) hH ?_
  try simp only [List.getElem_toArray, List.getElem_cons_zero, List.getElem_cons_succ, Act.put, List.setIfInBounds_toArray, List.set_cons_zero, List.set_cons_succ]
  refine wpAnyH_take (i := 21) (v := undef) rfl (by kernel_rfl) (by kernel_rfl) (by kernel_rfl) (fun _ _ _ h => h) (Or.inr ⟨by rfl, rfl⟩) hH ?_
  try simp only [List.getElem_toArray, List.getElem_cons_zero, List.getElem_cons_succ, Act.put, List.setIfInBounds_toArray, List.set_cons_zero, List.set_cons_succ]
  refine wpAnyH_take (i := 22) (v := undef) rfl (by kernel_rfl) (by kernel_rfl) (by kernel_rfl) (fun _ _ _ h => h) (Or.inr ⟨by rfl, rfl⟩) hH ?_
  try simp only [List.getElem_toArray, List.getElem_cons_zero, List.getElem_cons_succ, Act.put, List.setIfInBounds_toArray, List.set_cons_zero, List.set_cons_succ]
  refine wpAnyH_take (i := 23) (v := undef) rfl (by kernel_rfl) (by kernel_rfl) (by kernel_rfl) (fun _ _ _ h => h) (Or.inr ⟨by rfl, rfl⟩) hH ?_
  try simp only [List.getElem_toArray, List.getElem_cons_zero, List.getElem_cons_succ, Act.put, List.setIfInBounds_toArray, List.set_cons_zero, List.set_cons_succ]
  refine wpAnyH_take (i := 24) (v := undef) rfl (by kernel_rfl) (by kernel_rfl) (by kernel_rfl) (fun _ _ _ h => h) (Or.inr ⟨by rfl, rfl⟩) hH ?_
  try simp only [List.getElem_toArray, List.getElem_cons_zero, List.getElem_cons_succ, Act.put, List.setIfInBounds_toArray, List.set_cons_zero, List.set_cons_succ]
  refine wpAnyH_take (i := 25) (v := undef) rfl (by kernel_rfl) (by kernel_rfl) (by kernel_rfl) (fun _ _ _ h => h) (Or.inr ⟨by rfl, rfl⟩) hH ?_
  try simp only [List.getElem_toArray, List.getElem_cons_zero, List.getElem_cons_succ, Act.put, List.setIfInBounds_toArray, List.set_cons_zero, List.set_cons_succ]
  refine wpAnyH_take (i := 26) (v := undef) rfl (by kernel_rfl) (by kernel_rfl) (by kernel_rfl) (fun _ _ _ h => h) (Or.inr ⟨by rfl, rfl⟩) hH ?_
  try simp only [List.getElem_toArray, List.getElem_cons_zero, List.getElem_cons_succ, Act.put, List.setIfInBounds_toArray, List.set_cons_zero, List.set_cons_succ]
  refine wpAnyH_take (i := 27) (v := undef) rfl (by kernel_rfl) (by kernel_rfl) (by kernel_rfl) (fun _ _ _ h => h) (Or.inr ⟨by rfl, rfl⟩) hH ?_
  try simp only [List.getElem_toArray, List.getElem_cons_zero, List.getElem_cons_succ, Act.put, List.setIfInBounds_toArray, List.set_cons_zero, List.set_cons_succ]
  refine wpAnyH_take (i := 28) (v := undef) rfl (by kernel_rfl) (by kernel_rfl) (by kernel_rfl) (fun _ _ _ h => h) (Or.inr ⟨by rfl, rfl⟩) hH ?_
  try simp only [List.getElem_toArray, List.getElem_cons_zero, List.getElem_cons_succ, Act.put, List.setIfInBounds_toArray, List.set_cons_zero, List.set_cons_succ]
  refine wpAnyH_take (i := 29) (v := undef) rfl (by kernel_rfl) (by kernel_rfl) (by kernel_rfl) (fun _ _ _ h => h) (Or.inr ⟨by rfl, rfl⟩) hH ?_
  try simp only [List.getElem_toArray, List.getElem_cons_zero, List.getElem_cons_succ, Act.put, List.setIfInBounds_toArray, List.set_cons_zero, List.set_cons_succ]
  refine wpAnyH_take (i := 30) (v := undef) rfl (by kernel_rfl) (by kernel_rfl) (by kernel_rfl) (fun _ _ _ h => h) (Or.inr ⟨by rfl, rfl⟩) hH ?_
  try simp only [List.getElem_toArray, List.getElem_cons_zero, List.getElem_cons_succ, Act.put, List.setIfInBounds_toArray, List.set_cons_zero, List.set_cons_succ]
  refine wpAnyH_take (i := 31) (v := ?_) rfl (by kernel_rfl) (by kernel_rfl) (by kernel_rfl) (fun _ _ _ h => h) (Or.inl ⟨by rfl, ?_⟩) hH ?_
  rotate_left
  · (intro W hSw; (try dsimp only at hSw); go_simp; try with_reducible rfl)
  try simp only [List.getElem_toArray, List.getElem_cons_zero, List.getElem_cons_succ, Act.put, List.setIfInBounds_toArray, List.set_cons_zero, List.set_cons_succ]
  refine wpAnyH_done (by kernel_rfl) ?_ _
  go_wp2
  go_ret2
  exact ⟨rfl, hst1.out _ hM1.out hv.out, below_s1 (hB1)⟩

set_option maxHeartbeats 2000000 in
theorem fits_byteL95ytrue (s p : ByteArray) (gk N i j : Nat) (val : Nat → Nat → Bool) (w : World) (hs : s.size ≤ 1048576) (hp : p.size ≤ 1048576) (hN : N = (s.size + 1) * (p.size + 1)) (hi : i ≤ s.size) (hj : j ≤ p.size) (hM : Memo w gk s.size p.size val) (hc : w.cell? ⟨gk, i * (p.size + 1) + j, none⟩ = some (.int .i64 0)) (hjl : j < p.size) (jm : ((j : Int) == (p.size : Int)) = false) (hil : i < s.size) (il : decide ((i : Int) < (s.size : Int)) = true) (q37 : ((p[j].toNat : Int) == 37) = false) (q42 : ((p[j].toNat : Int) == 42) = false) (q91 : ((p[j].toNat : Int) == 91) = false) (q95 : ((p[j].toNat : Int) == 95) = true) (q63 : ((p[j].toNat : Int) == 63) = false) (eq : ((s[i].toNat : Int) == (p[j].toNat : Int)) = true) (ih1 : ∀ W, Memo W gk s.size p.size val → Calls Tryz.prog 49 #[.string s, .string p, .bool false, .slice (some ⟨gk, 0, none⟩) N N, .int .i64 ((i : Int) + 1), .int .i64 ((j : Int) + 1)] W (RetFits gk N s.size p.size val true W)) (hv : Hid (val i j = true)) :
    Calls Tryz.prog 49 #[.string s, .string p, .bool false, .slice (some ⟨gk, 0, none⟩) N N, .int .i64 (i : Int), .int .i64 (j : Int)] w (RetFits gk N s.size p.size val true w) := by
  obtain ⟨a, ha⟩ : ∃ a, i * (p.size + 1) = a := ⟨_, rfl⟩
  have hlt := place_lt hi hj
  have hset := hM.set hi hj (val := val)
  have hMij : ∀ W, Memo W gk s.size p.size val → ∃ v : Int, W.cell? ⟨gk, i * (p.size + 1) + j, none⟩ = some (.int .i64 v) ∧ W.frozen? ⟨gk, i * (p.size + 1) + j, none⟩ = false := fun W h => by
    obtain ⟨v, h1, h2, _⟩ := h.2 i j hi hj
    exact ⟨v, h1, h2⟩
  have hst1 : ∀ W, Memo W gk s.size p.size val → val i j = false → Memo (W.setCell ⟨gk, i * (p.size + 1) + j, none⟩ (.int .i64 1)) gk s.size p.size val := fun W h hv => h.set hi hj hv
  have hst2 : ∀ W, Memo W gk s.size p.size val → val i j = true → Memo ((W.setCell ⟨gk, i * (p.size + 1) + j, none⟩ (.int .i64 1)).setCell ⟨gk, i * (p.size + 1) + j, none⟩ (.int .i64 2)) gk s.size p.size val := fun W h hv => h.set2 hi hj hv
  clear hset
  rw [← hN, ha] at hlt
  rw [ha] at hc hMij hst1 hst2
  have h2 : (s.size + 1) * (p.size + 1) ≤ 1048577 * 1048577 := Nat.mul_le_mul (by omega) (by omega)
  rw [← hN] at h2
  have e1 : (i : Int) * ((p.size : Int) + 1) = (a : Int) := by rw [← ha]; simp
  have i0 : (0 : Int) ≤ (a : Int) + (j : Int) := by omega
  have i1 : (a : Int) + (j : Int) < (N : Int) := by omega
  have i2 : ((a : Int) + (j : Int)).toNat = a + j := by omega
  obtain ⟨_, hf⟩ := hMij w hM
  obtain ⟨_, hf⟩ := hf
  replace hM := Lib.hid hM
  replace hMij := Lib.hid hMij
  replace hst1 := Lib.hid hst1
  replace hst2 := Lib.hid hst2
  clear ha hN hi hj
  go_enter Tryz.func49, Tryz.ntmps49
  have j0 : (0 : Int) ≤ (j : Int) := by omega
  have j1 : (j : Int) < (p.size : Int) := by omega
  have k0 : (0 : Int) ≤ (i : Int) := by omega
  have k1 : (i : Int) < (s.size : Int) := by omega
  go_wp2
  go_quiet (fail)
  go_wp2_with (go_at_call 49; refine (ih1 _ (hM.out.on (below_drewN (Below.refl _ w) _))).mono ?_; rintro e w1 ⟨rfl, hM1, hB1⟩; obtain ⟨v1, c1, f1⟩ := hMij.out w1 hM1; replace hM1 := Lib.hid hM1)
  go_ret2
  exact ⟨rfl, hst2.out _ hM1.out hv.out, below_s2 ((below_drewN (Below.refl _ w) _).trans hB1)⟩

set_option maxHeartbeats 2000000 in
theorem fits_byteL95otrue (s p : ByteArray) (gk N i j : Nat) (val : Nat → Nat → Bool) (w : World) (hs : s.size ≤ 1048576) (hp : p.size ≤ 1048576) (hN : N = (s.size + 1) * (p.size + 1)) (hi : i ≤ s.size) (hj : j ≤ p.size) (hM : Memo w gk s.size p.size val) (hc : w.cell? ⟨gk, i * (p.size + 1) + j, none⟩ = some (.int .i64 0)) (hjl : j < p.size) (jm : ((j : Int) == (p.size : Int)) = false) (hil : i < s.size) (il : decide ((i : Int) < (s.size : Int)) = true) (q37 : ((p[j].toNat : Int) == 37) = false) (q42 : ((p[j].toNat : Int) == 42) = false) (q91 : ((p[j].toNat : Int) == 91) = false) (q95 : ((p[j].toNat : Int) == 95) = true) (q63 : ((p[j].toNat : Int) == 63) = false) (eq : ((s[i].toNat : Int) == (p[j].toNat : Int)) = false) (ih1 : ∀ W, Memo W gk s.size p.size val → Calls Tryz.prog 49 #[.string s, .string p, .bool false, .slice (some ⟨gk, 0, none⟩) N N, .int .i64 ((i : Int) + 1), .int .i64 ((j : Int) + 1)] W (RetFits gk N s.size p.size val true W)) (hv : Hid (val i j = true)) :
    Calls Tryz.prog 49 #[.string s, .string p, .bool false, .slice (some ⟨gk, 0, none⟩) N N, .int .i64 (i : Int), .int .i64 (j : Int)] w (RetFits gk N s.size p.size val true w) := by
  obtain ⟨a, ha⟩ : ∃ a, i * (p.size + 1) = a := ⟨_, rfl⟩
  have hlt := place_lt hi hj
  have hset := hM.set hi hj (val := val)
  have hMij : ∀ W, Memo W gk s.size p.size val → ∃ v : Int, W.cell? ⟨gk, i * (p.size + 1) + j, none⟩ = some (.int .i64 v) ∧ W.frozen? ⟨gk, i * (p.size + 1) + j, none⟩ = false := fun W h => by
    obtain ⟨v, h1, h2, _⟩ := h.2 i j hi hj
    exact ⟨v, h1, h2⟩
  have hst1 : ∀ W, Memo W gk s.size p.size val → val i j = false → Memo (W.setCell ⟨gk, i * (p.size + 1) + j, none⟩ (.int .i64 1)) gk s.size p.size val := fun W h hv => h.set hi hj hv
  have hst2 : ∀ W, Memo W gk s.size p.size val → val i j = true → Memo ((W.setCell ⟨gk, i * (p.size + 1) + j, none⟩ (.int .i64 1)).setCell ⟨gk, i * (p.size + 1) + j, none⟩ (.int .i64 2)) gk s.size p.size val := fun W h hv => h.set2 hi hj hv
  clear hset
  rw [← hN, ha] at hlt
  rw [ha] at hc hMij hst1 hst2
  have h2 : (s.size + 1) * (p.size + 1) ≤ 1048577 * 1048577 := Nat.mul_le_mul (by omega) (by omega)
  rw [← hN] at h2
  have e1 : (i : Int) * ((p.size : Int) + 1) = (a : Int) := by rw [← ha]; simp
  have i0 : (0 : Int) ≤ (a : Int) + (j : Int) := by omega
  have i1 : (a : Int) + (j : Int) < (N : Int) := by omega
  have i2 : ((a : Int) + (j : Int)).toNat = a + j := by omega
  obtain ⟨_, hf⟩ := hMij w hM
  obtain ⟨_, hf⟩ := hf
  replace hM := Lib.hid hM
  replace hMij := Lib.hid hMij
  replace hst1 := Lib.hid hst1
  replace hst2 := Lib.hid hst2
  clear ha hN hi hj
  go_enter Tryz.func49, Tryz.ntmps49
  have j0 : (0 : Int) ≤ (j : Int) := by omega
  have j1 : (j : Int) < (p.size : Int) := by omega
  have k0 : (0 : Int) ≤ (i : Int) := by omega
  have k1 : (i : Int) < (s.size : Int) := by omega
  go_wp2
  go_quiet (fail)
  go_wp2_with (go_at_call 49; refine (ih1 _ (hM.out.on (below_drewN (Below.refl _ w) _))).mono ?_; rintro e w1 ⟨rfl, hM1, hB1⟩; obtain ⟨v1, c1, f1⟩ := hMij.out w1 hM1; replace hM1 := Lib.hid hM1)
  go_ret2
  exact ⟨rfl, hst2.out _ hM1.out hv.out, below_s2 ((below_drewN (Below.refl _ w) _).trans hB1)⟩

set_option maxHeartbeats 2000000 in
theorem fits_byteL95yfalse (s p : ByteArray) (gk N i j : Nat) (val : Nat → Nat → Bool) (w : World) (hs : s.size ≤ 1048576) (hp : p.size ≤ 1048576) (hN : N = (s.size + 1) * (p.size + 1)) (hi : i ≤ s.size) (hj : j ≤ p.size) (hM : Memo w gk s.size p.size val) (hc : w.cell? ⟨gk, i * (p.size + 1) + j, none⟩ = some (.int .i64 0)) (hjl : j < p.size) (jm : ((j : Int) == (p.size : Int)) = false) (hil : i < s.size) (il : decide ((i : Int) < (s.size : Int)) = true) (q37 : ((p[j].toNat : Int) == 37) = false) (q42 : ((p[j].toNat : Int) == 42) = false) (q91 : ((p[j].toNat : Int) == 91) = false) (q95 : ((p[j].toNat : Int) == 95) = true) (q63 : ((p[j].toNat : Int) == 63) = false) (eq : ((s[i].toNat : Int) == (p[j].toNat : Int)) = true) (ih1 : ∀ W, Memo W gk s.size p.size val → Calls Tryz.prog 49 #[.string s, .string p, .bool false, .slice (some ⟨gk, 0, none⟩) N N, .int .i64 ((i : Int) + 1), .int .i64 ((j : Int) + 1)] W (RetFits gk N s.size p.size val false W)) (hv : Hid (val i j = false)) :
    Calls Tryz.prog 49 #[.string s, .string p, .bool false, .slice (some ⟨gk, 0, none⟩) N N, .int .i64 (i : Int), .int .i64 (j : Int)] w (RetFits gk N s.size p.size val false w) := by
  obtain ⟨a, ha⟩ : ∃ a, i * (p.size + 1) = a := ⟨_, rfl⟩
  have hlt := place_lt hi hj
  have hset := hM.set hi hj (val := val)
  have hMij : ∀ W, Memo W gk s.size p.size val → ∃ v : Int, W.cell? ⟨gk, i * (p.size + 1) + j, none⟩ = some (.int .i64 v) ∧ W.frozen? ⟨gk, i * (p.size + 1) + j, none⟩ = false := fun W h => by
    obtain ⟨v, h1, h2, _⟩ := h.2 i j hi hj
    exact ⟨v, h1, h2⟩
  have hst1 : ∀ W, Memo W gk s.size p.size val → val i j = false → Memo (W.setCell ⟨gk, i * (p.size + 1) + j, none⟩ (.int .i64 1)) gk s.size p.size val := fun W h hv => h.set hi hj hv
  have hst2 : ∀ W, Memo W gk s.size p.size val → val i j = true → Memo ((W.setCell ⟨gk, i * (p.size + 1) + j, none⟩ (.int .i64 1)).setCell ⟨gk, i * (p.size + 1) + j, none⟩ (.int .i64 2)) gk s.size p.size val := fun W h hv => h.set2 hi hj hv
  clear hset
  rw [← hN, ha] at hlt
  rw [ha] at hc hMij hst1 hst2
  have h2 : (s.size + 1) * (p.size + 1) ≤ 1048577 * 1048577 := Nat.mul_le_mul (by omega) (by omega)
  rw [← hN] at h2
  have e1 : (i : Int) * ((p.size : Int) + 1) = (a : Int) := by rw [← ha]; simp
  have i0 : (0 : Int) ≤ (a : Int) + (j : Int) := by omega
  have i1 : (a : Int) + (j : Int) < (N : Int) := by omega
  have i2 : ((a : Int) + (j : Int)).toNat = a + j := by omega
  obtain ⟨_, hf⟩ := hMij w hM
  obtain ⟨_, hf⟩ := hf
  replace hM := Lib.hid hM
  replace hMij := Lib.hid hMij
  replace hst1 := Lib.hid hst1
  replace hst2 := Lib.hid hst2
  clear ha hN hi hj
  go_enter Tryz.func49, Tryz.ntmps49
  have j0 : (0 : Int) ≤ (j : Int) := by omega
  have j1 : (j : Int) < (p.size : Int) := by omega
  have k0 : (0 : Int) ≤ (i : Int) := by omega
  have k1 : (i : Int) < (s.size : Int) := by omega
  go_wp2
  go_quiet (fail)
  go_wp2_with (go_at_call 49; refine (ih1 _ (hM.out.on (below_drewN (Below.refl _ w) _))).mono ?_; rintro e w1 ⟨rfl, hM1, hB1⟩; obtain ⟨v1, c1, f1⟩ := hMij.out w1 hM1; replace hM1 := Lib.hid hM1)
  go_ret2
  exact ⟨rfl, hst1.out _ hM1.out hv.out, below_s1 ((below_drewN (Below.refl _ w) _).trans hB1)⟩

set_option maxHeartbeats 2000000 in
theorem fits_byteL95ofalse (s p : ByteArray) (gk N i j : Nat) (val : Nat → Nat → Bool) (w : World) (hs : s.size ≤ 1048576) (hp : p.size ≤ 1048576) (hN : N = (s.size + 1) * (p.size + 1)) (hi : i ≤ s.size) (hj : j ≤ p.size) (hM : Memo w gk s.size p.size val) (hc : w.cell? ⟨gk, i * (p.size + 1) + j, none⟩ = some (.int .i64 0)) (hjl : j < p.size) (jm : ((j : Int) == (p.size : Int)) = false) (hil : i < s.size) (il : decide ((i : Int) < (s.size : Int)) = true) (q37 : ((p[j].toNat : Int) == 37) = false) (q42 : ((p[j].toNat : Int) == 42) = false) (q91 : ((p[j].toNat : Int) == 91) = false) (q95 : ((p[j].toNat : Int) == 95) = true) (q63 : ((p[j].toNat : Int) == 63) = false) (eq : ((s[i].toNat : Int) == (p[j].toNat : Int)) = false) (ih1 : ∀ W, Memo W gk s.size p.size val → Calls Tryz.prog 49 #[.string s, .string p, .bool false, .slice (some ⟨gk, 0, none⟩) N N, .int .i64 ((i : Int) + 1), .int .i64 ((j : Int) + 1)] W (RetFits gk N s.size p.size val false W)) (hv : Hid (val i j = false)) :
    Calls Tryz.prog 49 #[.string s, .string p, .bool false, .slice (some ⟨gk, 0, none⟩) N N, .int .i64 (i : Int), .int .i64 (j : Int)] w (RetFits gk N s.size p.size val false w) := by
  obtain ⟨a, ha⟩ : ∃ a, i * (p.size + 1) = a := ⟨_, rfl⟩
  have hlt := place_lt hi hj
  have hset := hM.set hi hj (val := val)
  have hMij : ∀ W, Memo W gk s.size p.size val → ∃ v : Int, W.cell? ⟨gk, i * (p.size + 1) + j, none⟩ = some (.int .i64 v) ∧ W.frozen? ⟨gk, i * (p.size + 1) + j, none⟩ = false := fun W h => by
    obtain ⟨v, h1, h2, _⟩ := h.2 i j hi hj
    exact ⟨v, h1, h2⟩
  have hst1 : ∀ W, Memo W gk s.size p.size val → val i j = false → Memo (W.setCell ⟨gk, i * (p.size + 1) + j, none⟩ (.int .i64 1)) gk s.size p.size val := fun W h hv => h.set hi hj hv
  have hst2 : ∀ W, Memo W gk s.size p.size val → val i j = true → Memo ((W.setCell ⟨gk, i * (p.size + 1) + j, none⟩ (.int .i64 1)).setCell ⟨gk, i * (p.size + 1) + j, none⟩ (.int .i64 2)) gk s.size p.size val := fun W h hv => h.set2 hi hj hv
  clear hset
  rw [← hN, ha] at hlt
  rw [ha] at hc hMij hst1 hst2
  have h2 : (s.size + 1) * (p.size + 1) ≤ 1048577 * 1048577 := Nat.mul_le_mul (by omega) (by omega)
  rw [← hN] at h2
  have e1 : (i : Int) * ((p.size : Int) + 1) = (a : Int) := by rw [← ha]; simp
  have i0 : (0 : Int) ≤ (a : Int) + (j : Int) := by omega
  have i1 : (a : Int) + (j : Int) < (N : Int) := by omega
  have i2 : ((a : Int) + (j : Int)).toNat = a + j := by omega
  obtain ⟨_, hf⟩ := hMij w hM
  obtain ⟨_, hf⟩ := hf
  replace hM := Lib.hid hM
  replace hMij := Lib.hid hMij
  replace hst1 := Lib.hid hst1
  replace hst2 := Lib.hid hst2
  clear ha hN hi hj
  go_enter Tryz.func49, Tryz.ntmps49
  have j0 : (0 : Int) ≤ (j : Int) := by omega
  have j1 : (j : Int) < (p.size : Int) := by omega
  have k0 : (0 : Int) ≤ (i : Int) := by omega
  have k1 : (i : Int) < (s.size : Int) := by omega
  go_wp2
  go_quiet (fail)
  go_wp2_with (go_at_call 49; refine (ih1 _ (hM.out.on (below_drewN (Below.refl _ w) _))).mono ?_; rintro e w1 ⟨rfl, hM1, hB1⟩; obtain ⟨v1, c1, f1⟩ := hMij.out w1 hM1; replace hM1 := Lib.hid hM1)
  go_ret2
  exact ⟨rfl, hst1.out _ hM1.out hv.out, below_s1 ((below_drewN (Below.refl _ w) _).trans hB1)⟩

set_option maxHeartbeats 2000000 in
theorem fits_byteL63e (s p : ByteArray) (gk N i j : Nat) (val : Nat → Nat → Bool) (w : World) (hs : s.size ≤ 1048576) (hp : p.size ≤ 1048576) (hN : N = (s.size + 1) * (p.size + 1)) (hi : i ≤ s.size) (hj : j ≤ p.size) (hM : Memo w gk s.size p.size val) (hc : w.cell? ⟨gk, i * (p.size + 1) + j, none⟩ = some (.int .i64 0)) (hjl : j < p.size) (jm : ((j : Int) == (p.size : Int)) = false) (hin : ¬ i < s.size) (il : decide ((i : Int) < (s.size : Int)) = false) (q37 : ((p[j].toNat : Int) == 37) = false) (q42 : ((p[j].toNat : Int) == 42) = false) (q91 : ((p[j].toNat : Int) == 91) = false) (q95 : ((p[j].toNat : Int) == 95) = false) (q63 : ((p[j].toNat : Int) == 63) = true) (hv : Hid (val i j = false)) :
    Calls Tryz.prog 49 #[.string s, .string p, .bool false, .slice (some ⟨gk, 0, none⟩) N N, .int .i64 (i : Int), .int .i64 (j : Int)] w (RetFits gk N s.size p.size val false w) := by
  obtain ⟨a, ha⟩ : ∃ a, i * (p.size + 1) = a := ⟨_, rfl⟩
  have hlt := place_lt hi hj
  have hset := hM.set hi hj (val := val)
  have hMij : ∀ W, Memo W gk s.size p.size val → ∃ v : Int, W.cell? ⟨gk, i * (p.size + 1) + j, none⟩ = some (.int .i64 v) ∧ W.frozen? ⟨gk, i * (p.size + 1) + j, none⟩ = false := fun W h => by
    obtain ⟨v, h1, h2, _⟩ := h.2 i j hi hj
    exact ⟨v, h1, h2⟩
  have hst1 : ∀ W, Memo W gk s.size p.size val → val i j = false → Memo (W.setCell ⟨gk, i * (p.size + 1) + j, none⟩ (.int .i64 1)) gk s.size p.size val := fun W h hv => h.set hi hj hv
  have hst2 : ∀ W, Memo W gk s.size p.size val → val i j = true → Memo ((W.setCell ⟨gk, i * (p.size + 1) + j, none⟩ (.int .i64 1)).setCell ⟨gk, i * (p.size + 1) + j, none⟩ (.int .i64 2)) gk s.size p.size val := fun W h hv => h.set2 hi hj hv
  clear hset
  rw [← hN, ha] at hlt
  rw [ha] at hc hMij hst1 hst2
  have h2 : (s.size + 1) * (p.size + 1) ≤ 1048577 * 1048577 := Nat.mul_le_mul (by omega) (by omega)
  rw [← hN] at h2
  have e1 : (i : Int) * ((p.size : Int) + 1) = (a : Int) := by rw [← ha]; simp
  have i0 : (0 : Int) ≤ (a : Int) + (j : Int) := by omega
  have i1 : (a : Int) + (j : Int) < (N : Int) := by omega
  have i2 : ((a : Int) + (j : Int)).toNat = a + j := by omega
  obtain ⟨_, hf⟩ := hMij w hM
  obtain ⟨_, hf⟩ := hf
  replace hM := Lib.hid hM
  replace hMij := Lib.hid hMij
  replace hst1 := Lib.hid hst1
  replace hst2 := Lib.hid hst2
  clear ha hN hi hj
  go_enter Tryz.func49, Tryz.ntmps49
  have j0 : (0 : Int) ≤ (j : Int) := by omega
  have j1 : (j : Int) < (p.size : Int) := by omega
  go_wp2
  obtain ⟨W1, hW1⟩ : ∃ W, w.drew = W := ⟨_, rfl⟩
  have hB1 : Below gk w W1 := by rw [← hW1]; exact (Below.refl _ _).drew
  have hM1 : Memo W1 gk s.size p.size val := by rw [← hW1]; exact hM.out.drew
  obtain ⟨v1, c1, f1⟩ := hMij.out W1 hM1
  refine wp_region_held_drew (S := fun _ => True) (by kernel_rfl) trivial (fun hH => ?_)
  rw [hW1]
  clear hW1
  replace hM1 := Lib.hid hM1
  refine wpAnyH_take (i := 0) (v := ?_) rfl (by kernel_rfl) (by kernel_rfl) (by kernel_rfl) (fun _ _ _ h => h) (Or.inl ⟨by rfl, ?_⟩) hH ?_
  rotate_left
  · (intro W hSw; (try dsimp only at hSw); go_simp; try with_reducible rfl)
  try simp only [List.getElem_toArray, List.getElem_cons_zero, List.getElem_cons_succ, Act.put, List.setIfInBounds_toArray, List.set_cons_zero, List.set_cons_succ]
  refine wpAnyH_take (i := 1) (v := ?_) rfl (by kernel_rfl) (by kernel_rfl) (by kernel_rfl) (fun _ _ _ h => h) (Or.inl ⟨by rfl, ?_⟩) hH ?_
  rotate_left
  · (intro W hSw; (try dsimp only at hSw); go_simp; try with_reducible rfl)
  try simp only [List.getElem_toArray, List.getElem_cons_zero, List.getElem_cons_succ, Act.put, List.setIfInBounds_toArray, List.set_cons_zero, List.set_cons_succ]
  refine wpAnyH_take (i := 2) (v := ?_) rfl (by kernel_rfl) (by kernel_rfl) (by kernel_rfl) (fun _ _ _ h => h) (Or.inl ⟨by rfl, ?_⟩) hH ?_
  rotate_left
  · (intro W hSw; (try dsimp only at hSw); go_simp; try with_reducible rfl)
  try simp only [List.getElem_toArray, List.getElem_cons_zero, List.getElem_cons_succ, Act.put, List.setIfInBounds_toArray, List.set_cons_zero, List.set_cons_succ]
  refine wpAnyH_take (i := 3) (v := ?_) rfl (by kernel_rfl) (by kernel_rfl) (by kernel_rfl) (fun _ _ _ h => h) (Or.inl ⟨by rfl, ?_⟩) hH ?_
  rotate_left
  · (intro W hSw; (try dsimp only at hSw); go_simp; try with_reducible rfl)
  try simp only [List.getElem_toArray, List.getElem_cons_zero, List.getElem_cons_succ, Act.put, List.setIfInBounds_toArray, List.set_cons_zero, List.set_cons_succ]
  refine wpAnyH_take (i := 4) (v := ?_) rfl (by kernel_rfl) (by kernel_rfl) (by kernel_rfl) (fun _ _ _ h => h) (Or.inl ⟨by rfl, ?_⟩) hH ?_
  rotate_left
  · (intro W hSw; (try dsimp only at hSw); go_simp; try with_reducible rfl)
  try simp only [List.getElem_toArray, List.getElem_cons_zero, List.getElem_cons_succ, Act.put, List.setIfInBounds_toArray, List.set_cons_zero, List.set_cons_succ]
  refine wpAnyH_take (i := 5) (v := undef) rfl (by kernel_rfl) (by kernel_rfl) (by kernel_rfl) (fun _ _ _ h => h) (Or.inr ⟨by rfl, rfl⟩) hH ?_
  try simp only [List.getElem_toArray, List.getElem_cons_zero, List.getElem_cons_succ, Act.put, List.setIfInBounds_toArray, List.set_cons_zero, List.set_cons_succ]
  refine wpAnyH_take (i := 6) (v := undef) rfl (by kernel_rfl) (by kernel_rfl) (by kernel_rfl) (fun _ _ _ h => h) (Or.inr ⟨by rfl, rfl⟩) hH ?_
  try simp only [List.getElem_toArray, List.getElem_cons_zero, List.getElem_cons_succ, Act.put, List.setIfInBounds_toArray, List.set_cons_zero, List.set_cons_succ]
  refine wpAnyH_take (i := 7) (v := undef) rfl (by kernel_rfl) (by kernel_rfl) (by kernel_rfl) (fun _ _ _ h => h) (Or.inr ⟨by rfl, rfl⟩) hH ?_
  try simp only [List.getElem_toArray, List.getElem_cons_zero, List.getElem_cons_succ, Act.put, List.setIfInBounds_toArray, List.set_cons_zero, List.set_cons_succ]
  refine wpAnyH_take (i := 8) (v := undef) rfl (by kernel_rfl) (by kernel_rfl) (by kernel_rfl) (fun _ _ _ h => h) (Or.inr ⟨by rfl, rfl⟩) hH ?_
  try simp only [List.getElem_toArray, List.getElem_cons_zero, List.getElem_cons_succ, Act.put, List.setIfInBounds_toArray, List.set_cons_zero, List.set_cons_succ]
  refine wpAnyH_take (i := 9) (v := undef) rfl (by kernel_rfl) (by kernel_rfl) (by kernel_rfl) (fun _ _ _ h => h) (Or.inr ⟨by rfl, rfl⟩) hH ?_
  try simp only [List.getElem_toArray, List.getElem_cons_zero, List.getElem_cons_succ, Act.put, List.setIfInBounds_toArray, List.set_cons_zero, List.set_cons_succ]
  refine wpAnyH_take (i := 10) (v := undef) rfl (by kernel_rfl) (by kernel_rfl) (by kernel_rfl) (fun _ _ _ h => h) (Or.inr ⟨by rfl, rfl⟩) hH ?_
  try simp only [List.getElem_toArray, List.getElem_cons_zero, List.getElem_cons_succ, Act.put, List.setIfInBounds_toArray, List.set_cons_zero, List.set_cons_succ]
  refine wpAnyH_take (i := 11) (v := undef) rfl (by kernel_rfl) (by kernel_rfl) (by kernel_rfl) (fun _ _ _ h => h) (Or.inr ⟨by rfl, rfl⟩) hH ?_
  try simp only [List.getElem_toArray, List.getElem_cons_zero, List.getElem_cons_succ, Act.put, List.setIfInBounds_toArray, List.set_cons_zero, List.set_cons_succ]
  refine wpAnyH_take (i := 12) (v := undef) rfl (by kernel_rfl) (by kernel_rfl) (by kernel_rfl) (fun _ _ _ h => h) (Or.inr ⟨by rfl, rfl⟩) hH ?_
  try simp only [List.getElem_toArray, List.getElem_cons_zero, List.getElem_cons_succ, Act.put, List.setIfInBounds_toArray, List.set_cons_zero, List.set_cons_succ]
  refine wpAnyH_take (i := 13) (v := undef) rfl (by kernel_rfl) (by kernel_rfl) (by kernel_rfl) (fun _ _ _ h => h) (Or.inr ⟨by rfl, rfl⟩) hH ?_
  try simp only [List.getElem_toArray, List.getElem_cons_zero, List.getElem_cons_succ, Act.put, List.setIfInBounds_toArray, List.set_cons_zero, List.set_cons_succ]
  refine wpAnyH_take (i := 14) (v := undef) rfl (by kernel_rfl) (by kernel_rfl) (by kernel_rfl) (fun _ _ _ h => h) (Or.inr ⟨by rfl, rfl⟩) hH ?_
  try simp only [List.getElem_toArray, List.getElem_cons_zero, List.getElem_cons_succ, Act.put, List.setIfInBounds_toArray, List.set_cons_zero, List.set_cons_succ]
  refine wpAnyH_take (i := 15) (v := undef) rfl (by kernel_rfl) (by kernel_rfl) (by kernel_rfl) (fun _ _ _ h => h) (Or.inr ⟨by rfl, rfl⟩) hH ?_
  try simp only [List.getElem_toArray, List.getElem_cons_zero, List.getElem_cons_succ, Act.put, List.setIfInBounds_toArray, List.set_cons_zero, List.set_cons_succ]
  refine wpAnyH_take (i := 16) (v := undef) rfl (by kernel_rfl) (by kernel_rfl) (by kernel_rfl) (fun _ _ _ h => h) (Or.inr ⟨by rfl, rfl⟩) hH ?_
  try simp only [List.getElem_toArray, List.getElem_cons_zero, List.getElem_cons_succ, Act.put, List.setIfInBounds_toArray, List.set_cons_zero, List.set_cons_succ]
  refine wpAnyH_take (i := 17) (v := undef) rfl (by kernel_rfl) (by kernel_rfl) (by kernel_rfl) (fun _ _ _ h => h) (Or.inr ⟨by rfl, rfl⟩) hH ?_
  try simp only [List.getElem_toArray, List.getElem_cons_zero, List.getElem_cons_succ, Act.put, List.setIfInBounds_toArray, List.set_cons_zero, List.set_cons_succ]
  refine wpAnyH_take (i := 18) (v := undef) rfl (by kernel_rfl) (by kernel_rfl) (by kernel_rfl) (fun _ _ _ h => h) (Or.inr ⟨by rfl, rfl⟩) hH ?_
  try simp only [List.getElem_toArray, List.getElem_cons_zero, List.getElem_cons_succ, Act.put, List.setIfInBounds_toArray, List.set_cons_zero, List.set_cons_succ]
  refine wpAnyH_take (i := 19) (v := undef) rfl (by kernel_rfl) (by kernel_rfl) (by kernel_rfl) (fun _ _ _ h => h) (Or.inr ⟨by rfl, rfl⟩) hH ?_
  try simp only [List.getElem_toArray, List.getElem_cons_zero, List.getElem_cons_succ, Act.put, List.setIfInBounds_toArray, List.set_cons_zero, List.set_cons_succ]
  refine wpAnyH_take (i := 20) (v := undef) rfl (by kernel_rfl) (by kernel_rfl) (by kernel_rfl) (fun _ _ _ h => h) (Or.inr ⟨by rfl, rfl⟩) hH ?_
  try simp only [List.getElem_toArray, List.getElem_cons_zero, List.getElem_cons_succ, Act.put, List.setIfInBounds_toArray, List.set_cons_zero, List.set_cons_succ]
  refine wpAnyH_take (i := 21) (v := undef) rfl (by kernel_rfl) (by kernel_rfl) (by kernel_rfl) (fun _ _ _ h => h) (Or.inr ⟨by rfl, rfl⟩) hH ?_
  try simp only [List.getElem_toArray, List.getElem_cons_zero, List.getElem_cons_succ, Act.put, List.setIfInBounds_toArray, List.set_cons_zero, List.set_cons_succ]
  refine wpAnyH_take (i := 22) (v := undef) rfl (by kernel_rfl) (by kernel_rfl) (by kernel_rfl) (fun _ _ _ h => h) (Or.inr ⟨by rfl, rfl⟩) hH ?_
  try simp only [List.getElem_toArray, List.getElem_cons_zero, List.getElem_cons_succ, Act.put, List.setIfInBounds_toArray, List.set_cons_zero, List.set_cons_succ]
  refine wpAnyH_take (i := 23) (v := undef) rfl (by kernel_rfl) (by kernel_rfl) (by kernel_rfl) (fun _ _ _ h => h) (Or.inr ⟨by rfl, rfl⟩) hH ?_
  try simp only [List.getElem_toArray, List.getElem_cons_zero, List.getElem_cons_succ, Act.put, List.setIfInBounds_toArray, List.set_cons_zero, List.set_cons_succ]
  refine wpAnyH_take (i := 24) (v := undef) rfl (by kernel_rfl) (by kernel_rfl) (by kernel_rfl) (fun _ _ _ h => h) (Or.inr ⟨by rfl, rfl⟩) hH ?_
  try simp only [List.getElem_toArray, List.getElem_cons_zero, List.getElem_cons_succ, Act.put, List.setIfInBounds_toArray, List.set_cons_zero, List.set_cons_succ]
  refine wpAnyH_take (i := 25) (v := undef) rfl (by kernel_rfl) (by kernel_rfl) (by kernel_rfl) (fun _ _ _ h => h) (Or.inr ⟨by rfl, rfl⟩) hH ?_
  try simp only [List.getElem_toArray, List.getElem_cons_zero, List.getElem_cons_succ, Act.put, List.setIfInBounds_toArray, List.set_cons_zero, List.set_cons_succ]
  refine wpAnyH_take (i := 26) (v := undef) rfl (by kernel_rfl) (by kernel_rfl) (by kernel_rfl) (fun _ _ _ h => h) (Or.inr ⟨by rfl, rfl⟩) hH ?_
  try simp only [List.getElem_toArray, List.getElem_cons_zero, List.getElem_cons_succ, Act.put, List.setIfInBounds_toArray, List.set_cons_zero, List.set_cons_succ]
  refine wpAnyH_take (i := 27) (v := undef) rfl (by kernel_rfl) (by kernel_rfl) (by kernel_rfl) (fun _ _ _ h => h) (Or.inr ⟨by rfl, rfl⟩) hH ?_
  try simp only [List.getElem_toArray, List.getElem_cons_zero, List.getElem_cons_succ, Act.put, List.setIfInBounds_toArray, List.set_cons_zero, List.set_cons_succ]
  refine wpAnyH_take (i := 28) (v := undef) rfl (by kernel_rfl) (by kernel_rfl) (by kernel_rfl) (fun _ _ _ h => h) (Or.inr ⟨by rfl, rfl⟩) hH ?_
  try simp only [List.getElem_toArray, List.getElem_cons_zero, List.getElem_cons_succ, Act.put, List.setIfInBounds_toArray, List.set_cons_zero, List.set_cons_succ]
  refine wpAnyH_take (i := 29) (v := undef) rfl (by kernel_rfl) (by kernel_rfl) (by kernel_rfl) (fun _ _ _ h => h) (Or.inr ⟨by rfl, rfl⟩) hH ?_
  try simp only [List.getElem_toArray, List.getElem_cons_zero, List.getElem_cons_succ, Act.put, List.setIfInBounds_toArray, List.set_cons_zero, List.set_cons_succ]
  refine wpAnyH_take (i := 30) (v := undef) rfl (by kernel_rfl) (by kernel_rfl) (by kernel_rfl) (fun _ _ _ h => h) (Or.inr ⟨by rfl, rfl⟩) hH ?_
  try simp only [List.getElem_toArray, List.getElem_cons_zero, List.getElem_cons_succ, Act.put, List.setIfInBounds_toArray, List.set_cons_zero, List.set_cons_succ]
  refine wpAnyH_take (i := 31) (v := ?_) rfl (by kernel_rfl) (by kernel_rfl) (by kernel_rfl) (fun _ _ _ h => h) (Or.inl ⟨by rfl, ?_⟩) hH ?_
  rotate_left
  · (intro W hSw; (try dsimp only at hSw); go_simp; try with_reducible rfl)
  try simp only [List.getElem_toArray, List.getElem_cons_zero, List.getElem_cons_succ, Act.put, List.setIfInBounds_toArray, List.set_cons_zero, List.set_cons_succ]
  refine wpAnyH_done (by kernel_rfl) ?_ _
  go_wp2
  go_ret2
  exact ⟨rfl, hst1.out _ hM1.out hv.out, below_s1 (hB1)⟩

set_option maxHeartbeats 2000000 in
theorem fits_byteL63n (s p : ByteArray) (gk N i j : Nat) (val : Nat → Nat → Bool) (w : World) (hs : s.size ≤ 1048576) (hp : p.size ≤ 1048576) (hN : N = (s.size + 1) * (p.size + 1)) (hi : i ≤ s.size) (hj : j ≤ p.size) (hM : Memo w gk s.size p.size val) (hc : w.cell? ⟨gk, i * (p.size + 1) + j, none⟩ = some (.int .i64 0)) (hjl : j < p.size) (jm : ((j : Int) == (p.size : Int)) = false) (hil : i < s.size) (il : decide ((i : Int) < (s.size : Int)) = true) (q37 : ((p[j].toNat : Int) == 37) = false) (q42 : ((p[j].toNat : Int) == 42) = false) (q91 : ((p[j].toNat : Int) == 91) = false) (q95 : ((p[j].toNat : Int) == 95) = false) (q63 : ((p[j].toNat : Int) == 63) = true) (eq : ((s[i].toNat : Int) == (p[j].toNat : Int)) = false) (hv : Hid (val i j = false)) :
    Calls Tryz.prog 49 #[.string s, .string p, .bool false, .slice (some ⟨gk, 0, none⟩) N N, .int .i64 (i : Int), .int .i64 (j : Int)] w (RetFits gk N s.size p.size val false w) := by
  obtain ⟨a, ha⟩ : ∃ a, i * (p.size + 1) = a := ⟨_, rfl⟩
  have hlt := place_lt hi hj
  have hset := hM.set hi hj (val := val)
  have hMij : ∀ W, Memo W gk s.size p.size val → ∃ v : Int, W.cell? ⟨gk, i * (p.size + 1) + j, none⟩ = some (.int .i64 v) ∧ W.frozen? ⟨gk, i * (p.size + 1) + j, none⟩ = false := fun W h => by
    obtain ⟨v, h1, h2, _⟩ := h.2 i j hi hj
    exact ⟨v, h1, h2⟩
  have hst1 : ∀ W, Memo W gk s.size p.size val → val i j = false → Memo (W.setCell ⟨gk, i * (p.size + 1) + j, none⟩ (.int .i64 1)) gk s.size p.size val := fun W h hv => h.set hi hj hv
  have hst2 : ∀ W, Memo W gk s.size p.size val → val i j = true → Memo ((W.setCell ⟨gk, i * (p.size + 1) + j, none⟩ (.int .i64 1)).setCell ⟨gk, i * (p.size + 1) + j, none⟩ (.int .i64 2)) gk s.size p.size val := fun W h hv => h.set2 hi hj hv
  clear hset
  rw [← hN, ha] at hlt
  rw [ha] at hc hMij hst1 hst2
  have h2 : (s.size + 1) * (p.size + 1) ≤ 1048577 * 1048577 := Nat.mul_le_mul (by omega) (by omega)
  rw [← hN] at h2
  have e1 : (i : Int) * ((p.size : Int) + 1) = (a : Int) := by rw [← ha]; simp
  have i0 : (0 : Int) ≤ (a : Int) + (j : Int) := by omega
  have i1 : (a : Int) + (j : Int) < (N : Int) := by omega
  have i2 : ((a : Int) + (j : Int)).toNat = a + j := by omega
  obtain ⟨_, hf⟩ := hMij w hM
  obtain ⟨_, hf⟩ := hf
  replace hM := Lib.hid hM
  replace hMij := Lib.hid hMij
  replace hst1 := Lib.hid hst1
  replace hst2 := Lib.hid hst2
  clear ha hN hi hj
  go_enter Tryz.func49, Tryz.ntmps49
  have j0 : (0 : Int) ≤ (j : Int) := by omega
  have j1 : (j : Int) < (p.size : Int) := by omega
  have k0 : (0 : Int) ≤ (i : Int) := by omega
  have k1 : (i : Int) < (s.size : Int) := by omega
  go_wp2
  go_quiet (fail)
  go_wp2
  go_ret2
  exact ⟨rfl, hst1.out _ (hM.out.on (below_drewN (Below.refl _ w) _)) hv.out, below_s1 (below_drewN (Below.refl _ w) _)⟩

set_option maxHeartbeats 2000000 in
theorem fits_byteL63ytrue (s p : ByteArray) (gk N i j : Nat) (val : Nat → Nat → Bool) (w : World) (hs : s.size ≤ 1048576) (hp : p.size ≤ 1048576) (hN : N = (s.size + 1) * (p.size + 1)) (hi : i ≤ s.size) (hj : j ≤ p.size) (hM : Memo w gk s.size p.size val) (hc : w.cell? ⟨gk, i * (p.size + 1) + j, none⟩ = some (.int .i64 0)) (hjl : j < p.size) (jm : ((j : Int) == (p.size : Int)) = false) (hil : i < s.size) (il : decide ((i : Int) < (s.size : Int)) = true) (q37 : ((p[j].toNat : Int) == 37) = false) (q42 : ((p[j].toNat : Int) == 42) = false) (q91 : ((p[j].toNat : Int) == 91) = false) (q95 : ((p[j].toNat : Int) == 95) = false) (q63 : ((p[j].toNat : Int) == 63) = true) (eq : ((s[i].toNat : Int) == (p[j].toNat : Int)) = true) (ih1 : ∀ W, Memo W gk s.size p.size val → Calls Tryz.prog 49 #[.string s, .string p, .bool false, .slice (some ⟨gk, 0, none⟩) N N, .int .i64 ((i : Int) + 1), .int .i64 ((j : Int) + 1)] W (RetFits gk N s.size p.size val true W)) (hv : Hid (val i j = true)) :
    Calls Tryz.prog 49 #[.string s, .string p, .bool false, .slice (some ⟨gk, 0, none⟩) N N, .int .i64 (i : Int), .int .i64 (j : Int)] w (RetFits gk N s.size p.size val true w) := by
  obtain ⟨a, ha⟩ : ∃ a, i * (p.size + 1) = a := ⟨_, rfl⟩
  have hlt := place_lt hi hj
  have hset := hM.set hi hj (val := val)
  have hMij : ∀ W, Memo W gk s.size p.size val → ∃ v : Int, W.cell? ⟨gk, i * (p.size + 1) + j, none⟩ = some (.int .i64 v) ∧ W.frozen? ⟨gk, i * (p.size + 1) + j, none⟩ = false := fun W h => by
    obtain ⟨v, h1, h2, _⟩ := h.2 i j hi hj
    exact ⟨v, h1, h2⟩
  have hst1 : ∀ W, Memo W gk s.size p.size val → val i j = false → Memo (W.setCell ⟨gk, i * (p.size + 1) + j, none⟩ (.int .i64 1)) gk s.size p.size val := fun W h hv => h.set hi hj hv
  have hst2 : ∀ W, Memo W gk s.size p.size val → val i j = true → Memo ((W.setCell ⟨gk, i * (p.size + 1) + j, none⟩ (.int .i64 1)).setCell ⟨gk, i * (p.size + 1) + j, none⟩ (.int .i64 2)) gk s.size p.size val := fun W h hv => h.set2 hi hj hv
  clear hset
  rw [← hN, ha] at hlt
  rw [ha] at hc hMij hst1 hst2
  have h2 : (s.size + 1) * (p.size + 1) ≤ 1048577 * 1048577 := Nat.mul_le_mul (by omega) (by omega)
  rw [← hN] at h2
  have e1 : (i : Int) * ((p.size : Int) + 1) = (a : Int) := by rw [← ha]; simp
  have i0 : (0 : Int) ≤ (a : Int) + (j : Int) := by omega
  have i1 : (a : Int) + (j : Int) < (N : Int) := by omega
  have i2 : ((a : Int) + (j : Int)).toNat = a + j := by omega
  obtain ⟨_, hf⟩ := hMij w hM
  obtain ⟨_, hf⟩ := hf
  replace hM := Lib.hid hM
  replace hMij := Lib.hid hMij
  replace hst1 := Lib.hid hst1
  replace hst2 := Lib.hid hst2
  clear ha hN hi hj
  go_enter Tryz.func49, Tryz.ntmps49
  have j0 : (0 : Int) ≤ (j : Int) := by omega
  have j1 : (j : Int) < (p.size : Int) := by omega
  have k0 : (0 : Int) ≤ (i : Int) := by omega
  have k1 : (i : Int) < (s.size : Int) := by omega
  go_wp2
  go_quiet (fail)
  go_wp2_with (go_at_call 49; refine (ih1 _ (hM.out.on (below_drewN (Below.refl _ w) _))).mono ?_; rintro e w1 ⟨rfl, hM1, hB1⟩; obtain ⟨v1, c1, f1⟩ := hMij.out w1 hM1; replace hM1 := Lib.hid hM1)
  go_ret2
  exact ⟨rfl, hst2.out _ hM1.out hv.out, below_s2 ((below_drewN (Below.refl _ w) _).trans hB1)⟩

set_option maxHeartbeats 2000000 in
theorem fits_byteL63yfalse (s p : ByteArray) (gk N i j : Nat) (val : Nat → Nat → Bool) (w : World) (hs : s.size ≤ 1048576) (hp : p.size ≤ 1048576) (hN : N = (s.size + 1) * (p.size + 1)) (hi : i ≤ s.size) (hj : j ≤ p.size) (hM : Memo w gk s.size p.size val) (hc : w.cell? ⟨gk, i * (p.size + 1) + j, none⟩ = some (.int .i64 0)) (hjl : j < p.size) (jm : ((j : Int) == (p.size : Int)) = false) (hil : i < s.size) (il : decide ((i : Int) < (s.size : Int)) = true) (q37 : ((p[j].toNat : Int) == 37) = false) (q42 : ((p[j].toNat : Int) == 42) = false) (q91 : ((p[j].toNat : Int) == 91) = false) (q95 : ((p[j].toNat : Int) == 95) = false) (q63 : ((p[j].toNat : Int) == 63) = true) (eq : ((s[i].toNat : Int) == (p[j].toNat : Int)) = true) (ih1 : ∀ W, Memo W gk s.size p.size val → Calls Tryz.prog 49 #[.string s, .string p, .bool false, .slice (some ⟨gk, 0, none⟩) N N, .int .i64 ((i : Int) + 1), .int .i64 ((j : Int) + 1)] W (RetFits gk N s.size p.size val false W)) (hv : Hid (val i j = false)) :
    Calls Tryz.prog 49 #[.string s, .string p, .bool false, .slice (some ⟨gk, 0, none⟩) N N, .int .i64 (i : Int), .int .i64 (j : Int)] w (RetFits gk N s.size p.size val false w) := by
  obtain ⟨a, ha⟩ : ∃ a, i * (p.size + 1) = a := ⟨_, rfl⟩
  have hlt := place_lt hi hj
  have hset := hM.set hi hj (val := val)
  have hMij : ∀ W, Memo W gk s.size p.size val → ∃ v : Int, W.cell? ⟨gk, i * (p.size + 1) + j, none⟩ = some (.int .i64 v) ∧ W.frozen? ⟨gk, i * (p.size + 1) + j, none⟩ = false := fun W h => by
    obtain ⟨v, h1, h2, _⟩ := h.2 i j hi hj
    exact ⟨v, h1, h2⟩
  have hst1 : ∀ W, Memo W gk s.size p.size val → val i j = false → Memo (W.setCell ⟨gk, i * (p.size + 1) + j, none⟩ (.int .i64 1)) gk s.size p.size val := fun W h hv => h.set hi hj hv
  have hst2 : ∀ W, Memo W gk s.size p.size val → val i j = true → Memo ((W.setCell ⟨gk, i * (p.size + 1) + j, none⟩ (.int .i64 1)).setCell ⟨gk, i * (p.size + 1) + j, none⟩ (.int .i64 2)) gk s.size p.size val := fun W h hv => h.set2 hi hj hv
  clear hset
  rw [← hN, ha] at hlt
  rw [ha] at hc hMij hst1 hst2
  have h2 : (s.size + 1) * (p.size + 1) ≤ 1048577 * 1048577 := Nat.mul_le_mul (by omega) (by omega)
  rw [← hN] at h2
  have e1 : (i : Int) * ((p.size : Int) + 1) = (a : Int) := by rw [← ha]; simp
  have i0 : (0 : Int) ≤ (a : Int) + (j : Int) := by omega
  have i1 : (a : Int) + (j : Int) < (N : Int) := by omega
  have i2 : ((a : Int) + (j : Int)).toNat = a + j := by omega
  obtain ⟨_, hf⟩ := hMij w hM
  obtain ⟨_, hf⟩ := hf
  replace hM := Lib.hid hM
  replace hMij := Lib.hid hMij
  replace hst1 := Lib.hid hst1
  replace hst2 := Lib.hid hst2
  clear ha hN hi hj
  go_enter Tryz.func49, Tryz.ntmps49
  have j0 : (0 : Int) ≤ (j : Int) := by omega
  have j1 : (j : Int) < (p.size : Int) := by omega
  have k0 : (0 : Int) ≤ (i : Int) := by omega
  have k1 : (i : Int) < (s.size : Int) := by omega
  go_wp2
  go_quiet (fail)
  go_wp2_with (go_at_call 49; refine (ih1 _ (hM.out.on (below_drewN (Below.refl _ w) _))).mono ?_; rintro e w1 ⟨rfl, hM1, hB1⟩; obtain ⟨v1, c1, f1⟩ := hMij.out w1 hM1; replace hM1 := Lib.hid hM1)
  go_ret2
  exact ⟨rfl, hst1.out _ hM1.out hv.out, below_s1 ((below_drewN (Below.refl _ w) _).trans hB1)⟩

set_option maxHeartbeats 2000000 in
theorem fits_byteL0e (s p : ByteArray) (gk N i j : Nat) (val : Nat → Nat → Bool) (w : World) (hs : s.size ≤ 1048576) (hp : p.size ≤ 1048576) (hN : N = (s.size + 1) * (p.size + 1)) (hi : i ≤ s.size) (hj : j ≤ p.size) (hM : Memo w gk s.size p.size val) (hc : w.cell? ⟨gk, i * (p.size + 1) + j, none⟩ = some (.int .i64 0)) (hjl : j < p.size) (jm : ((j : Int) == (p.size : Int)) = false) (hin : ¬ i < s.size) (il : decide ((i : Int) < (s.size : Int)) = false) (q37 : ((p[j].toNat : Int) == 37) = false) (q42 : ((p[j].toNat : Int) == 42) = false) (q91 : ((p[j].toNat : Int) == 91) = false) (q95 : ((p[j].toNat : Int) == 95) = false) (q63 : ((p[j].toNat : Int) == 63) = false) (hv : Hid (val i j = false)) :
    Calls Tryz.prog 49 #[.string s, .string p, .bool false, .slice (some ⟨gk, 0, none⟩) N N, .int .i64 (i : Int), .int .i64 (j : Int)] w (RetFits gk N s.size p.size val false w) := by
  obtain ⟨a, ha⟩ : ∃ a, i * (p.size + 1) = a := ⟨_, rfl⟩
  have hlt := place_lt hi hj
  have hset := hM.set hi hj (val := val)
  have hMij : ∀ W, Memo W gk s.size p.size val → ∃ v : Int, W.cell? ⟨gk, i * (p.size + 1) + j, none⟩ = some (.int .i64 v) ∧ W.frozen? ⟨gk, i * (p.size + 1) + j, none⟩ = false := fun W h => by
    obtain ⟨v, h1, h2, _⟩ := h.2 i j hi hj
    exact ⟨v, h1, h2⟩
  have hst1 : ∀ W, Memo W gk s.size p.size val → val i j = false → Memo (W.setCell ⟨gk, i * (p.size + 1) + j, none⟩ (.int .i64 1)) gk s.size p.size val := fun W h hv => h.set hi hj hv
  have hst2 : ∀ W, Memo W gk s.size p.size val → val i j = true → Memo ((W.setCell ⟨gk, i * (p.size + 1) + j, none⟩ (.int .i64 1)).setCell ⟨gk, i * (p.size + 1) + j, none⟩ (.int .i64 2)) gk s.size p.size val := fun W h hv => h.set2 hi hj hv
  clear hset
  rw [← hN, ha] at hlt
  rw [ha] at hc hMij hst1 hst2
  have h2 : (s.size + 1) * (p.size + 1) ≤ 1048577 * 1048577 := Nat.mul_le_mul (by omega) (by omega)
  rw [← hN] at h2
  have e1 : (i : Int) * ((p.size : Int) + 1) = (a : Int) := by rw [← ha]; simp
  have i0 : (0 : Int) ≤ (a : Int) + (j : Int) := by omega
  have i1 : (a : Int) + (j : Int) < (N : Int) := by omega
  have i2 : ((a : Int) + (j : Int)).toNat = a + j := by omega
  obtain ⟨_, hf⟩ := hMij w hM
  obtain ⟨_, hf⟩ := hf
  replace hM := Lib.hid hM
  replace hMij := Lib.hid hMij
  replace hst1 := Lib.hid hst1
  replace hst2 := Lib.hid hst2
  clear ha hN hi hj
  go_enter Tryz.func49, Tryz.ntmps49
  have j0 : (0 : Int) ≤ (j : Int) := by omega
  have j1 : (j : Int) < (p.size : Int) := by omega
  go_wp2
  obtain ⟨W1, hW1⟩ : ∃ W, w.drew = W := ⟨_, rfl⟩
  have hB1 : Below gk w W1 := by rw [← hW1]; exact (Below.refl _ _).drew
  have hM1 : Memo W1 gk s.size p.size val := by rw [← hW1]; exact hM.out.drew
  obtain ⟨v1, c1, f1⟩ := hMij.out W1 hM1
  refine wp_region_held_drew (S := fun _ => True) (by kernel_rfl) trivial (fun hH => ?_)
  rw [hW1]
  clear hW1
  replace hM1 := Lib.hid hM1
  refine wpAnyH_take (i := 0) (v := ?_) rfl (by kernel_rfl) (by kernel_rfl) (by kernel_rfl) (fun _ _ _ h => h) (Or.inl ⟨by rfl, ?_⟩) hH ?_
  rotate_left
  · (intro W hSw; (try dsimp only at hSw); go_simp; try with_reducible rfl)
  try simp only [List.getElem_toArray, List.getElem_cons_zero, List.getElem_cons_succ, Act.put, List.setIfInBounds_toArray, List.set_cons_zero, List.set_cons_succ]
  refine wpAnyH_take (i := 1) (v := ?_) rfl (by kernel_rfl) (by kernel_rfl) (by kernel_rfl) (fun _ _ _ h => h) (Or.inl ⟨by rfl, ?_⟩) hH ?_
  rotate_left
  · (intro W hSw; (try dsimp only at hSw); go_simp; try with_reducible rfl)
  try simp only [List.getElem_toArray, List.getElem_cons_zero, List.getElem_cons_succ, Act.put, List.setIfInBounds_toArray, List.set_cons_zero, List.set_cons_succ]
  refine wpAnyH_take (i := 2) (v := ?_) rfl (by kernel_rfl) (by kernel_rfl) (by kernel_rfl) (fun _ _ _ h => h) (Or.inl ⟨by rfl, ?_⟩) hH ?_
  rotate_left
  · (intro W hSw; (try dsimp only at hSw); go_simp; try with_reducible rfl)
  try simp only [List.getElem_toArray, List.getElem_cons_zero, List.getElem_cons_succ, Act.put, List.setIfInBounds_toArray, List.set_cons_zero, List.set_cons_succ]
  refine wpAnyH_take (i := 3) (v := ?_) rfl (by kernel_rfl) (by kernel_rfl) (by kernel_rfl) (fun _ _ _ h => h) (Or.inl ⟨by rfl, ?_⟩) hH ?_
  rotate_left
  · (intro W hSw; (try dsimp only at hSw); go_simp; try with_reducible rfl)
  try simp only [List.getElem_toArray, List.getElem_cons_zero, List.getElem_cons_succ, Act.put, List.setIfInBounds_toArray, List.set_cons_zero, List.set_cons_succ]
  refine wpAnyH_take (i := 4) (v := ?_) rfl (by kernel_rfl) (by kernel_rfl) (by kernel_rfl) (fun _ _ _ h => h) (Or.inl ⟨by rfl, ?_⟩) hH ?_
  rotate_left
  · (intro W hSw; (try dsimp only at hSw); go_simp; try with_reducible rfl)
  try simp only [List.getElem_toArray, List.getElem_cons_zero, List.getElem_cons_succ, Act.put, List.setIfInBounds_toArray, List.set_cons_zero, List.set_cons_succ]
  refine wpAnyH_take (i := 5) (v := undef) rfl (by kernel_rfl) (by kernel_rfl) (by kernel_rfl) (fun _ _ _ h => h) (Or.inr ⟨by rfl, rfl⟩) hH ?_
  try simp only [List.getElem_toArray, List.getElem_cons_zero, List.getElem_cons_succ, Act.put, List.setIfInBounds_toArray, List.set_cons_zero, List.set_cons_succ]
  refine wpAnyH_take (i := 6) (v := undef) rfl (by kernel_rfl) (by kernel_rfl) (by kernel_rfl) (fun _ _ _ h => h) (Or.inr ⟨by rfl, rfl⟩) hH ?_
  try simp only [List.getElem_toArray, List.getElem_cons_zero, List.getElem_cons_succ, Act.put, List.setIfInBounds_toArray, List.set_cons_zero, List.set_cons_succ]
  refine wpAnyH_take (i := 7) (v := undef) rfl (by kernel_rfl) (by kernel_rfl) (by kernel_rfl) (fun _ _ _ h => h) (Or.inr ⟨by rfl, rfl⟩) hH ?_
  try simp only [List.getElem_toArray, List.getElem_cons_zero, List.getElem_cons_succ, Act.put, List.setIfInBounds_toArray, List.set_cons_zero, List.set_cons_succ]
  refine wpAnyH_take (i := 8) (v := undef) rfl (by kernel_rfl) (by kernel_rfl) (by kernel_rfl) (fun _ _ _ h => h) (Or.inr ⟨by rfl, rfl⟩) hH ?_
  try simp only [List.getElem_toArray, List.getElem_cons_zero, List.getElem_cons_succ, Act.put, List.setIfInBounds_toArray, List.set_cons_zero, List.set_cons_succ]
  refine wpAnyH_take (i := 9) (v := undef) rfl (by kernel_rfl) (by kernel_rfl) (by kernel_rfl) (fun _ _ _ h => h) (Or.inr ⟨by rfl, rfl⟩) hH ?_
  try simp only [List.getElem_toArray, List.getElem_cons_zero, List.getElem_cons_succ, Act.put, List.setIfInBounds_toArray, List.set_cons_zero, List.set_cons_succ]
  refine wpAnyH_take (i := 10) (v := undef) rfl (by kernel_rfl) (by kernel_rfl) (by kernel_rfl) (fun _ _ _ h => h) (Or.inr ⟨by rfl, rfl⟩) hH ?_
  try simp only [List.getElem_toArray, List.getElem_cons_zero, List.getElem_cons_succ, Act.put, List.setIfInBounds_toArray, List.set_cons_zero, List.set_cons_succ]
  refine wpAnyH_take (i := 11) (v := undef) rfl (by kernel_rfl) (by kernel_rfl) (by kernel_rfl) (fun _ _ _ h => h) (Or.inr ⟨by rfl, rfl⟩) hH ?_
  try simp only [List.getElem_toArray, List.getElem_cons_zero, List.getElem_cons_succ, Act.put, List.setIfInBounds_toArray, List.set_cons_zero, List.set_cons_succ]
  refine wpAnyH_take (i := 12) (v := undef) rfl (by kernel_rfl) (by kernel_rfl) (by kernel_rfl) (fun _ _ _ h => h) (Or.inr ⟨by rfl, rfl⟩) hH ?_
  try simp only [List.getElem_toArray, List.getElem_cons_zero, List.getElem_cons_succ, Act.put, List.setIfInBounds_toArray, List.set_cons_zero, List.set_cons_succ]
  refine wpAnyH_take (i := 13) (v := undef) rfl (by kernel_rfl) (by kernel_rfl) (by kernel_rfl) (fun _ _ _ h => h) (Or.inr ⟨by rfl, rfl⟩) hH ?_
  try simp only [List.getElem_toArray, List.getElem_cons_zero, List.getElem_cons_succ, Act.put, List.setIfInBounds_toArray, List.set_cons_zero, List.set_cons_succ]
  refine wpAnyH_take (i := 14) (v := undef) rfl (by kernel_rfl) (by kernel_rfl) (by kernel_rfl) (fun _ _ _ h => h) (Or.inr ⟨by rfl, rfl⟩) hH ?_
  try simp only [List.getElem_toArray, List.getElem_cons_zero, List.getElem_cons_succ, Act.put, List.setIfInBounds_toArray, List.set_cons_zero, List.set_cons_succ]
  refine wpAnyH_take (i := 15) (v := undef) rfl (by kernel_rfl) (by kernel_rfl) (by kernel_rfl) (fun _ _ _ h => h) (Or.inr ⟨by rfl, rfl⟩) hH ?_
  try simp only [List.getElem_toArray, List.getElem_cons_zero, List.getElem_cons_succ, Act.put, List.setIfInBounds_toArray, List.set_cons_zero, List.set_cons_succ]
  refine wpAnyH_take (i := 16) (v := undef) rfl (by kernel_rfl) (by kernel_rfl) (by kernel_rfl) (fun _ _ _ h => h) (Or.inr ⟨by rfl, rfl⟩) hH ?_
  try simp only [List.getElem_toArray, List.getElem_cons_zero, List.getElem_cons_succ, Act.put, List.setIfInBounds_toArray, List.set_cons_zero, List.set_cons_succ]
  refine wpAnyH_take (i := 17) (v := undef) rfl (by kernel_rfl) (by kernel_rfl) (by kernel_rfl) (fun _ _ _ h => h) (Or.inr ⟨by rfl, rfl⟩) hH ?_
  try simp only [List.getElem_toArray, List.getElem_cons_zero, List.getElem_cons_succ, Act.put, List.setIfInBounds_toArray, List.set_cons_zero, List.set_cons_succ]
  refine wpAnyH_take (i := 18) (v := undef) rfl (by kernel_rfl) (by kernel_rfl) (by kernel_rfl) (fun _ _ _ h => h) (Or.inr ⟨by rfl, rfl⟩) hH ?_
  try simp only [List.getElem_toArray, List.getElem_cons_zero, List.getElem_cons_succ, Act.put, List.setIfInBounds_toArray, List.set_cons_zero, List.set_cons_succ]
  refine wpAnyH_take (i := 19) (v := undef) rfl (by kernel_rfl) (by kernel_rfl) (by kernel_rfl) (fun _ _ _ h => h) (Or.inr ⟨by rfl, rfl⟩) hH ?_
  try simp only [List.getElem_toArray, List.getElem_cons_zero, List.getElem_cons_succ, Act.put, List.setIfInBounds_toArray, List.set_cons_zero, List.set_cons_succ]
  refine wpAnyH_take (i := 20) (v := undef) rfl (by kernel_rfl) (by kernel_rfl) (by kernel_rfl) (fun _ _ _ h => h) (Or.inr ⟨by rfl, rfl⟩) hH ?_
  try simp only [List.getElem_toArray, List.getElem_cons_zero, List.getElem_cons_succ, Act.put, List.setIfInBounds_toArray, List.set_cons_zero, List.set_cons_succ]
  refine wpAnyH_take (i := 21) (v := undef) rfl (by kernel_rfl) (by kernel_rfl) (by kernel_rfl) (fun _ _ _ h => h) (Or.inr ⟨by rfl, rfl⟩) hH ?_
  try simp only [List.getElem_toArray, List.getElem_cons_zero, List.getElem_cons_succ, Act.put, List.setIfInBounds_toArray, List.set_cons_zero, List.set_cons_succ]
  refine wpAnyH_take (i := 22) (v := undef) rfl (by kernel_rfl) (by kernel_rfl) (by kernel_rfl) (fun _ _ _ h => h) (Or.inr ⟨by rfl, rfl⟩) hH ?_
  try simp only [List.getElem_toArray, List.getElem_cons_zero, List.getElem_cons_succ, Act.put, List.setIfInBounds_toArray, List.set_cons_zero, List.set_cons_succ]
  refine wpAnyH_take (i := 23) (v := undef) rfl (by kernel_rfl) (by kernel_rfl) (by kernel_rfl) (fun _ _ _ h => h) (Or.inr ⟨by rfl, rfl⟩) hH ?_
  try simp only [List.getElem_toArray, List.getElem_cons_zero, List.getElem_cons_succ, Act.put, List.setIfInBounds_toArray, List.set_cons_zero, List.set_cons_succ]
  refine wpAnyH_take (i := 24) (v := undef) rfl (by kernel_rfl) (by kernel_rfl) (by kernel_rfl) (fun _ _ _ h => h) (Or.inr ⟨by rfl, rfl⟩) hH ?_
  try simp only [List.getElem_toArray, List.getElem_cons_zero, List.getElem_cons_succ, Act.put, List.setIfInBounds_toArray, List.set_cons_zero, List.set_cons_succ]
  refine wpAnyH_take (i := 25) (v := undef) rfl (by kernel_rfl) (by kernel_rfl) (by kernel_rfl) (fun _ _ _ h => h) (Or.inr ⟨by rfl, rfl⟩) hH ?_
  try simp only [List.getElem_toArray, List.getElem_cons_zero, List.getElem_cons_succ, Act.put, List.setIfInBounds_toArray, List.set_cons_zero, List.set_cons_succ]
  refine wpAnyH_take (i := 26) (v := undef) rfl (by kernel_rfl) (by kernel_rfl) (by kernel_rfl) (fun _ _ _ h => h) (Or.inr ⟨by rfl, rfl⟩) hH ?_
  try simp only [List.getElem_toArray, List.getElem_cons_zero, List.getElem_cons_succ, Act.put, List.setIfInBounds_toArray, List.set_cons_zero, List.set_cons_succ]
  refine wpAnyH_take (i := 27) (v := undef) rfl (by kernel_rfl) (by kernel_rfl) (by kernel_rfl) (fun _ _ _ h => h) (Or.inr ⟨by rfl, rfl⟩) hH ?_
  try simp only [List.getElem_toArray, List.getElem_cons_zero, List.getElem_cons_succ, Act.put, List.setIfInBounds_toArray, List.set_cons_zero, List.set_cons_succ]
  refine wpAnyH_take (i := 28) (v := undef) rfl (by kernel_rfl) (by kernel_rfl) (by kernel_rfl) (fun _ _ _ h => h) (Or.inr ⟨by rfl, rfl⟩) hH ?_
  try simp only [List.getElem_toArray, List.getElem_cons_zero, List.getElem_cons_succ, Act.put, List.setIfInBounds_toArray, List.set_cons_zero, List.set_cons_succ]
  refine wpAnyH_take (i := 29) (v := undef) rfl (by kernel_rfl) (by kernel_rfl) (by kernel_rfl) (fun _ _ _ h => h) (Or.inr ⟨by rfl, rfl⟩) hH ?_
  try simp only [List.getElem_toArray, List.getElem_cons_zero, List.getElem_cons_succ, Act.put, List.setIfInBounds_toArray, List.set_cons_zero, List.set_cons_succ]
  refine wpAnyH_take (i := 30) (v := undef) rfl (by kernel_rfl) (by kernel_rfl) (by kernel_rfl) (fun _ _ _ h => h) (Or.inr ⟨by rfl, rfl⟩) hH ?_
  try simp only [List.getElem_toArray, List.getElem_cons_zero, List.getElem_cons_succ, Act.put, List.setIfInBounds_toArray, List.set_cons_zero, List.set_cons_succ]
  refine wpAnyH_take (i := 31) (v := ?_) rfl (by kernel_rfl) (by kernel_rfl) (by kernel_rfl) (fun _ _ _ h => h) (Or.inl ⟨by rfl, ?_⟩) hH ?_
  rotate_left
  · (intro W hSw; (try dsimp only at hSw); go_simp; try with_reducible rfl)
  try simp only [List.getElem_toArray, List.getElem_cons_zero, List.getElem_cons_succ, Act.put, List.setIfInBounds_toArray, List.set_cons_zero, List.set_cons_succ]
  refine wpAnyH_done (by kernel_rfl) ?_ _
  go_wp2
  go_ret2
  exact ⟨rfl, hst1.out _ hM1.out hv.out, below_s1 (hB1)⟩

set_option maxHeartbeats 2000000 in
theorem fits_byteL0n (s p : ByteArray) (gk N i j : Nat) (val : Nat → Nat → Bool) (w : World) (hs : s.size ≤ 1048576) (hp : p.size ≤ 1048576) (hN : N = (s.size + 1) * (p.size + 1)) (hi : i ≤ s.size) (hj : j ≤ p.size) (hM : Memo w gk s.size p.size val) (hc : w.cell? ⟨gk, i * (p.size + 1) + j, none⟩ = some (.int .i64 0)) (hjl : j < p.size) (jm : ((j : Int) == (p.size : Int)) = false) (hil : i < s.size) (il : decide ((i : Int) < (s.size : Int)) = true) (q37 : ((p[j].toNat : Int) == 37) = false) (q42 : ((p[j].toNat : Int) == 42) = false) (q91 : ((p[j].toNat : Int) == 91) = false) (q95 : ((p[j].toNat : Int) == 95) = false) (q63 : ((p[j].toNat : Int) == 63) = false) (eq : ((s[i].toNat : Int) == (p[j].toNat : Int)) = false) (hv : Hid (val i j = false)) :
    Calls Tryz.prog 49 #[.string s, .string p, .bool false, .slice (some ⟨gk, 0, none⟩) N N, .int .i64 (i : Int), .int .i64 (j : Int)] w (RetFits gk N s.size p.size val false w) := by
  obtain ⟨a, ha⟩ : ∃ a, i * (p.size + 1) = a := ⟨_, rfl⟩
  have hlt := place_lt hi hj
  have hset := hM.set hi hj (val := val)
  have hMij : ∀ W, Memo W gk s.size p.size val → ∃ v : Int, W.cell? ⟨gk, i * (p.size + 1) + j, none⟩ = some (.int .i64 v) ∧ W.frozen? ⟨gk, i * (p.size + 1) + j, none⟩ = false := fun W h => by
    obtain ⟨v, h1, h2, _⟩ := h.2 i j hi hj
    exact ⟨v, h1, h2⟩
  have hst1 : ∀ W, Memo W gk s.size p.size val → val i j = false → Memo (W.setCell ⟨gk, i * (p.size + 1) + j, none⟩ (.int .i64 1)) gk s.size p.size val := fun W h hv => h.set hi hj hv
  have hst2 : ∀ W, Memo W gk s.size p.size val → val i j = true → Memo ((W.setCell ⟨gk, i * (p.size + 1) + j, none⟩ (.int .i64 1)).setCell ⟨gk, i * (p.size + 1) + j, none⟩ (.int .i64 2)) gk s.size p.size val := fun W h hv => h.set2 hi hj hv
  clear hset
  rw [← hN, ha] at hlt
  rw [ha] at hc hMij hst1 hst2
  have h2 : (s.size + 1) * (p.size + 1) ≤ 1048577 * 1048577 := Nat.mul_le_mul (by omega) (by omega)
  rw [← hN] at h2
  have e1 : (i : Int) * ((p.size : Int) + 1) = (a : Int) := by rw [← ha]; simp
  have i0 : (0 : Int) ≤ (a : Int) + (j : Int) := by omega
  have i1 : (a : Int) + (j : Int) < (N : Int) := by omega
  have i2 : ((a : Int) + (j : Int)).toNat = a + j := by omega
  obtain ⟨_, hf⟩ := hMij w hM
  obtain ⟨_, hf⟩ := hf
  replace hM := Lib.hid hM
  replace hMij := Lib.hid hMij
  replace hst1 := Lib.hid hst1
  replace hst2 := Lib.hid hst2
  clear ha hN hi hj
  go_enter Tryz.func49, Tryz.ntmps49
  have j0 : (0 : Int) ≤ (j : Int) := by omega
  have j1 : (j : Int) < (p.size : Int) := by omega
  have k0 : (0 : Int) ≤ (i : Int) := by omega
  have k1 : (i : Int) < (s.size : Int) := by omega
  go_wp2
  go_quiet (fail)
  go_wp2
  go_ret2
  exact ⟨rfl, hst1.out _ (hM.out.on (below_drewN (Below.refl _ w) _)) hv.out, below_s1 (below_drewN (Below.refl _ w) _)⟩

set_option maxHeartbeats 2000000 in
theorem fits_byteL0ytrue (s p : ByteArray) (gk N i j : Nat) (val : Nat → Nat → Bool) (w : World) (hs : s.size ≤ 1048576) (hp : p.size ≤ 1048576) (hN : N = (s.size + 1) * (p.size + 1)) (hi : i ≤ s.size) (hj : j ≤ p.size) (hM : Memo w gk s.size p.size val) (hc : w.cell? ⟨gk, i * (p.size + 1) + j, none⟩ = some (.int .i64 0)) (hjl : j < p.size) (jm : ((j : Int) == (p.size : Int)) = false) (hil : i < s.size) (il : decide ((i : Int) < (s.size : Int)) = true) (q37 : ((p[j].toNat : Int) == 37) = false) (q42 : ((p[j].toNat : Int) == 42) = false) (q91 : ((p[j].toNat : Int) == 91) = false) (q95 : ((p[j].toNat : Int) == 95) = false) (q63 : ((p[j].toNat : Int) == 63) = false) (eq : ((s[i].toNat : Int) == (p[j].toNat : Int)) = true) (ih1 : ∀ W, Memo W gk s.size p.size val → Calls Tryz.prog 49 #[.string s, .string p, .bool false, .slice (some ⟨gk, 0, none⟩) N N, .int .i64 ((i : Int) + 1), .int .i64 ((j : Int) + 1)] W (RetFits gk N s.size p.size val true W)) (hv : Hid (val i j = true)) :
    Calls Tryz.prog 49 #[.string s, .string p, .bool false, .slice (some ⟨gk, 0, none⟩) N N, .int .i64 (i : Int), .int .i64 (j : Int)] w (RetFits gk N s.size p.size val true w) := by
  obtain ⟨a, ha⟩ : ∃ a, i * (p.size + 1) = a := ⟨_, rfl⟩
  have hlt := place_lt hi hj
  have hset := hM.set hi hj (val := val)
  have hMij : ∀ W, Memo W gk s.size p.size val → ∃ v : Int, W.cell? ⟨gk, i * (p.size + 1) + j, none⟩ = some (.int .i64 v) ∧ W.frozen? ⟨gk, i * (p.size + 1) + j, none⟩ = false := fun W h => by
    obtain ⟨v, h1, h2, _⟩ := h.2 i j hi hj
    exact ⟨v, h1, h2⟩
  have hst1 : ∀ W, Memo W gk s.size p.size val → val i j = false → Memo (W.setCell ⟨gk, i * (p.size + 1) + j, none⟩ (.int .i64 1)) gk s.size p.size val := fun W h hv => h.set hi hj hv
  have hst2 : ∀ W, Memo W gk s.size p.size val → val i j = true → Memo ((W.setCell ⟨gk, i * (p.size + 1) + j, none⟩ (.int .i64 1)).setCell ⟨gk, i * (p.size + 1) + j, none⟩ (.int .i64 2)) gk s.size p.size val := fun W h hv => h.set2 hi hj hv
  clear hset
  rw [← hN, ha] at hlt
  rw [ha] at hc hMij hst1 hst2
  have h2 : (s.size + 1) * (p.size + 1) ≤ 1048577 * 1048577 := Nat.mul_le_mul (by omega) (by omega)
  rw [← hN] at h2
  have e1 : (i : Int) * ((p.size : Int) + 1) = (a : Int) := by rw [← ha]; simp
  have i0 : (0 : Int) ≤ (a : Int) + (j : Int) := by omega
  have i1 : (a : Int) + (j : Int) < (N : Int) := by omega
  have i2 : ((a : Int) + (j : Int)).toNat = a + j := by omega
  obtain ⟨_, hf⟩ := hMij w hM
  obtain ⟨_, hf⟩ := hf
  replace hM := Lib.hid hM
  replace hMij := Lib.hid hMij
  replace hst1 := Lib.hid hst1
  replace hst2 := Lib.hid hst2
  clear ha hN hi hj
  go_enter Tryz.func49, Tryz.ntmps49
  have j0 : (0 : Int) ≤ (j : Int) := by omega
  have j1 : (j : Int) < (p.size : Int) := by omega
  have k0 : (0 : Int) ≤ (i : Int) := by omega
  have k1 : (i : Int) < (s.size : Int) := by omega
  go_wp2
  go_quiet (fail)
  go_wp2_with (go_at_call 49; refine (ih1 _ (hM.out.on (below_drewN (Below.refl _ w) _))).mono ?_; rintro e w1 ⟨rfl, hM1, hB1⟩; obtain ⟨v1, c1, f1⟩ := hMij.out w1 hM1; replace hM1 := Lib.hid hM1)
  go_ret2
  exact ⟨rfl, hst2.out _ hM1.out hv.out, below_s2 ((below_drewN (Below.refl _ w) _).trans hB1)⟩

set_option maxHeartbeats 2000000 in
theorem fits_byteL0yfalse (s p : ByteArray) (gk N i j : Nat) (val : Nat → Nat → Bool) (w : World) (hs : s.size ≤ 1048576) (hp : p.size ≤ 1048576) (hN : N = (s.size + 1) * (p.size + 1)) (hi : i ≤ s.size) (hj : j ≤ p.size) (hM : Memo w gk s.size p.size val) (hc : w.cell? ⟨gk, i * (p.size + 1) + j, none⟩ = some (.int .i64 0)) (hjl : j < p.size) (jm : ((j : Int) == (p.size : Int)) = false) (hil : i < s.size) (il : decide ((i : Int) < (s.size : Int)) = true) (q37 : ((p[j].toNat : Int) == 37) = false) (q42 : ((p[j].toNat : Int) == 42) = false) (q91 : ((p[j].toNat : Int) == 91) = false) (q95 : ((p[j].toNat : Int) == 95) = false) (q63 : ((p[j].toNat : Int) == 63) = false) (eq : ((s[i].toNat : Int) == (p[j].toNat : Int)) = true) (ih1 : ∀ W, Memo W gk s.size p.size val → Calls Tryz.prog 49 #[.string s, .string p, .bool false, .slice (some ⟨gk, 0, none⟩) N N, .int .i64 ((i : Int) + 1), .int .i64 ((j : Int) + 1)] W (RetFits gk N s.size p.size val false W)) (hv : Hid (val i j = false)) :
    Calls Tryz.prog 49 #[.string s, .string p, .bool false, .slice (some ⟨gk, 0, none⟩) N N, .int .i64 (i : Int), .int .i64 (j : Int)] w (RetFits gk N s.size p.size val false w) := by
  obtain ⟨a, ha⟩ : ∃ a, i * (p.size + 1) = a := ⟨_, rfl⟩
  have hlt := place_lt hi hj
  have hset := hM.set hi hj (val := val)
  have hMij : ∀ W, Memo W gk s.size p.size val → ∃ v : Int, W.cell? ⟨gk, i * (p.size + 1) + j, none⟩ = some (.int .i64 v) ∧ W.frozen? ⟨gk, i * (p.size + 1) + j, none⟩ = false := fun W h => by
    obtain ⟨v, h1, h2, _⟩ := h.2 i j hi hj
    exact ⟨v, h1, h2⟩
  have hst1 : ∀ W, Memo W gk s.size p.size val → val i j = false → Memo (W.setCell ⟨gk, i * (p.size + 1) + j, none⟩ (.int .i64 1)) gk s.size p.size val := fun W h hv => h.set hi hj hv
  have hst2 : ∀ W, Memo W gk s.size p.size val → val i j = true → Memo ((W.setCell ⟨gk, i * (p.size + 1) + j, none⟩ (.int .i64 1)).setCell ⟨gk, i * (p.size + 1) + j, none⟩ (.int .i64 2)) gk s.size p.size val := fun W h hv => h.set2 hi hj hv
  clear hset
  rw [← hN, ha] at hlt
  rw [ha] at hc hMij hst1 hst2
  have h2 : (s.size + 1) * (p.size + 1) ≤ 1048577 * 1048577 := Nat.mul_le_mul (by omega) (by omega)
  rw [← hN] at h2
  have e1 : (i : Int) * ((p.size : Int) + 1) = (a : Int) := by rw [← ha]; simp
  have i0 : (0 : Int) ≤ (a : Int) + (j : Int) := by omega
  have i1 : (a : Int) + (j : Int) < (N : Int) := by omega
  have i2 : ((a : Int) + (j : Int)).toNat = a + j := by omega
  obtain ⟨_, hf⟩ := hMij w hM
  obtain ⟨_, hf⟩ := hf
  replace hM := Lib.hid hM
  replace hMij := Lib.hid hMij
  replace hst1 := Lib.hid hst1
  replace hst2 := Lib.hid hst2
  clear ha hN hi hj
  go_enter Tryz.func49, Tryz.ntmps49
  have j0 : (0 : Int) ≤ (j : Int) := by omega
  have j1 : (j : Int) < (p.size : Int) := by omega
  have k0 : (0 : Int) ≤ (i : Int) := by omega
  have k1 : (i : Int) < (s.size : Int) := by omega
  go_wp2
  go_quiet (fail)
  go_wp2_with (go_at_call 49; refine (ih1 _ (hM.out.on (below_drewN (Below.refl _ w) _))).mono ?_; rintro e w1 ⟨rfl, hM1, hB1⟩; obtain ⟨v1, c1, f1⟩ := hMij.out w1 hM1; replace hM1 := Lib.hid hM1)
  go_ret2
  exact ⟨rfl, hst1.out _ hM1.out hv.out, below_s1 ((below_drewN (Below.refl _ w) _).trans hB1)⟩


end Go.Proofs.YtmkgalcojoeniaaGreatDoor

namespace Go.Proofs.YtmkgalcojoeniaaGreatDoor
open Go.RowKit

theorem dropB (s : ByteArray) (i : Nat) (h : i < s.size) : s.data.toList.drop i = s[i] :: s.data.toList.drop (i + 1) := by
  have h' : i < s.data.toList.length := h
  rw [List.drop_eq_getElem_cons h']
  rfl
theorem beq_t {c : UInt8} {n : Nat} {k : Int} (hk : k = (n : Int)) (h : c.toNat = n) : ((c.toNat : Int) == k) = true := by rw [h, hk]; simp
theorem beq_f {c : UInt8} {n : Nat} {k : Int} (hk : k = (n : Int)) (h : c.toNat ≠ n) : ((c.toNat : Int) == k) = false := by rw [hk, beq_eq_false_iff_ne]; omega

/-- does the text from i on fit the pattern of LIKE from j on? -/
def valL (s p : ByteArray) (i j : Nat) : Bool := Fit.fit (Fit.like (p.data.toList.drop j)) (s.data.toList.drop i)
theorem valL_end (s p : ByteArray) (i : Nat) (hi : i ≤ s.size) : valL s p i p.size = decide (i = s.size) := by
  have e : p.data.toList.drop p.size = [] := List.drop_eq_nil_of_le (Nat.le_refl _)
  have hl : s.data.toList.length = s.size := rfl
  unfold valL
  rw [e, Fit.like_end]
  rw [Bool.eq_iff_iff, decide_eq_true_iff, List.isEmpty_iff, List.drop_eq_nil_iff]
  omega
theorem valL_any (s p : ByteArray) (i j : Nat) (hj : j < p.size) (hc : p[j].toNat = 37) : valL s p i j = (valL s p i (j + 1) || (decide (i < s.size) && valL s p (i + 1) j)) := by
  have hc' : p[j] = 37 := UInt8.toNat_inj.1 hc
  unfold valL
  rw [dropB p j hj, hc', Fit.like_any]
  congr 1
  by_cases hi : i < s.size
  · rw [dropB s i hi]; simp [hi]
  · have e : s.data.toList.drop i = [] := List.drop_eq_nil_of_le (by have hl : s.data.toList.length = s.size := rfl; omega)
    rw [e]; simp [hi]
theorem valL_byte (s p : ByteArray) (i j : Nat) (hj : j < p.size) (hc : p[j].toNat ≠ 37) (hi : i < s.size) : valL s p i j = ((decide (s[i].toNat = p[j].toNat) || decide (p[j].toNat = 95)) && valL s p (i + 1) (j + 1)) := by
  have hc' : p[j] ≠ 37 := fun h => hc (by rw [h]; rfl)
  unfold valL
  rw [dropB p j hj, dropB s i hi, Fit.like_byte _ _ hc']
  have e1 : decide (s[i] = p[j]) = decide (s[i].toNat = p[j].toNat) := by
    rw [Bool.eq_iff_iff, decide_eq_true_iff, decide_eq_true_iff]; exact UInt8.toNat_inj.symm
  have e2 : decide (p[j] = 95) = decide (p[j].toNat = 95) := by
    rw [Bool.eq_iff_iff, decide_eq_true_iff, decide_eq_true_iff]; exact ⟨fun h => by rw [h]; rfl, fun h => UInt8.toNat_inj.1 h⟩
  simp only [e1, e2]
theorem valL_byte_end (s p : ByteArray) (i j : Nat) (hj : j < p.size) (hc : p[j].toNat ≠ 37) (hi : ¬ i < s.size) : valL s p i j = false := by
  have hc' : p[j] ≠ 37 := fun h => hc (by rw [h]; rfl)
  have e : s.data.toList.drop i = [] := List.drop_eq_nil_of_le (by have hl : s.data.toList.length = s.size := rfl; omega)
  unfold valL
  rw [dropB p j hj, e, Fit.like_byte _ _ hc']

theorem rfits_like (s p : ByteArray) (gk N : Nat) (hs : s.size ≤ 1048576) (hp : p.size ≤ 1048576) (hN : N = (s.size + 1) * (p.size + 1)) :
    ∀ (k i j : Nat) (W : World), i ≤ s.size → j ≤ p.size → (s.size - i) + (p.size - j) < k → Memo W gk s.size p.size (valL s p) →
      Calls Tryz.prog 49 #[.string s, .string p, .bool false, .slice (some ⟨gk, 0, none⟩) N N, .int .i64 (i : Int), .int .i64 (j : Int)] W (RetFits gk N s.size p.size (valL s p) (valL s p i j) W) := by
  intro k
  induction k with
  | zero => intro i j W _ _ h; omega
  | succ k ih =>
    intro i j W hi hj hk hM
    obtain ⟨v, hc, _, h0⟩ := hM.2 i j hi hj
    by_cases hv0 : v = 0
    · subst hv0
      by_cases hjl : j < p.size
      · have jm : ((j : Int) == (p.size : Int)) = false := by rw [beq_eq_false_iff_ne]; omega
        by_cases h37 : p[j].toNat = 37
        · have q37 := beq_t (k := 37) rfl h37
          have q42 := beq_f (c := p[j]) (n := 42) (k := 42) rfl (by omega)
          have q91 := beq_f (c := p[j]) (n := 91) (k := 91) rfl (by omega)
          have q95 := beq_f (c := p[j]) (n := 95) (k := 95) rfl (by omega)
          have q63 := beq_f (c := p[j]) (n := 63) (k := 63) rfl (by omega)
          have hval := valL_any s p i j hjl h37
          have ih1 := fun W hM => ih i (j + 1) W hi (by omega) (by omega) hM
          cases h1 : valL s p i (j + 1) with
          | true =>
            rw [h1] at hval ih1
            rw [hval]
            exact fits_anyL1 s p gk N i j _ W hs hp hN hi hj hM hc hjl jm q37 q42 q91 q95 q63 ih1 (Lib.hid hval)
          | false =>
            rw [h1] at hval ih1
            by_cases hil : i < s.size
            · have il : decide ((i : Int) < (s.size : Int)) = true := by simp; omega
              have ih2 := fun W hM => ih (i + 1) j W (by omega) hj (by omega) hM
              cases h2 : valL s p (i + 1) j with
              | true =>
                rw [h2] at hval ih2
                simp only [hil, decide_true, Bool.and_self, Bool.or_true, Bool.false_or] at hval
                rw [hval]
                exact fits_anyL2true s p gk N i j _ W hs hp hN hi hj hM hc hjl jm hil il q37 q42 q91 q95 q63 ih1 ih2 (Lib.hid hval)
              | false =>
                rw [h2] at hval ih2
                simp only [Bool.and_false, Bool.or_false] at hval
                rw [hval]
                exact fits_anyL2false s p gk N i j _ W hs hp hN hi hj hM hc hjl jm hil il q37 q42 q91 q95 q63 ih1 ih2 (Lib.hid hval)
            · have il : decide ((i : Int) < (s.size : Int)) = false := by simp; omega
              simp only [hil, decide_false, Bool.false_and, Bool.or_false] at hval
              rw [hval]
              exact fits_anyL3 s p gk N i j _ W hs hp hN hi hj hM hc hjl jm hil il q37 q42 q91 q95 q63 ih1 (Lib.hid hval)
        · have q37 := beq_f (c := p[j]) (n := 37) (k := 37) rfl h37
          by_cases h42 : p[j].toNat = 42
          · have q42 := beq_t (k := 42) rfl h42
            have q91 := beq_f (c := p[j]) (n := 91) (k := 91) rfl (by omega)
            have q95 := beq_f (c := p[j]) (n := 95) (k := 95) rfl (by omega)
            have q63 := beq_f (c := p[j]) (n := 63) (k := 63) rfl (by omega)
            by_cases hil : i < s.size
            · have il : decide ((i : Int) < (s.size : Int)) = true := by simp; omega
              have hval := valL_byte s p i j hjl h37 hil
              have ih1 := fun W hM => ih (i + 1) (j + 1) W (by omega) (by omega) (by omega) hM
              by_cases he : s[i].toNat = p[j].toNat
              · have eq : ((s[i].toNat : Int) == (p[j].toNat : Int)) = true := by rw [he]; simp
                simp only [he, decide_true, Bool.true_or, Bool.true_and] at hval
                cases h1 : valL s p (i + 1) (j + 1) with
                | true =>
                  rw [h1] at hval ih1
                  rw [hval]
                  exact fits_byteL42ytrue s p gk N i j _ W hs hp hN hi hj hM hc hjl jm hil il q37 q42 q91 q95 q63 eq ih1 (Lib.hid hval)
                | false =>
                  rw [h1] at hval ih1
                  rw [hval]
                  exact fits_byteL42yfalse s p gk N i j _ W hs hp hN hi hj hM hc hjl jm hil il q37 q42 q91 q95 q63 eq ih1 (Lib.hid hval)
              · have eq : ((s[i].toNat : Int) == (p[j].toNat : Int)) = false := by rw [beq_eq_false_iff_ne]; omega
                have h95' : ¬ p[j].toNat = 95 := by omega
                simp only [he, h95', decide_false, Bool.or_false, Bool.false_and] at hval
                rw [hval]
                exact fits_byteL42n s p gk N i j _ W hs hp hN hi hj hM hc hjl jm hil il q37 q42 q91 q95 q63 eq (Lib.hid hval)
            · have il : decide ((i : Int) < (s.size : Int)) = false := by simp; omega
              have hval := valL_byte_end s p i j hjl h37 hil
              rw [hval]
              exact fits_byteL42e s p gk N i j _ W hs hp hN hi hj hM hc hjl jm hil il q37 q42 q91 q95 q63 (Lib.hid hval)
          · skip
            by_cases h91 : p[j].toNat = 91
            · have q42 := beq_f (c := p[j]) (n := 42) (k := 42) rfl (by omega)
              have q91 := beq_t (k := 91) rfl h91
              have q95 := beq_f (c := p[j]) (n := 95) (k := 95) rfl (by omega)
              have q63 := beq_f (c := p[j]) (n := 63) (k := 63) rfl (by omega)
              by_cases hil : i < s.size
              · have il : decide ((i : Int) < (s.size : Int)) = true := by simp; omega
                have hval := valL_byte s p i j hjl h37 hil
                have ih1 := fun W hM => ih (i + 1) (j + 1) W (by omega) (by omega) (by omega) hM
                by_cases he : s[i].toNat = p[j].toNat
                · have eq : ((s[i].toNat : Int) == (p[j].toNat : Int)) = true := by rw [he]; simp
                  simp only [he, decide_true, Bool.true_or, Bool.true_and] at hval
                  cases h1 : valL s p (i + 1) (j + 1) with
                  | true =>
                    rw [h1] at hval ih1
                    rw [hval]
                    exact fits_byteL91ytrue s p gk N i j _ W hs hp hN hi hj hM hc hjl jm hil il q37 q42 q91 q95 q63 eq ih1 (Lib.hid hval)
                  | false =>
                    rw [h1] at hval ih1
                    rw [hval]
                    exact fits_byteL91yfalse s p gk N i j _ W hs hp hN hi hj hM hc hjl jm hil il q37 q42 q91 q95 q63 eq ih1 (Lib.hid hval)
                · have eq : ((s[i].toNat : Int) == (p[j].toNat : Int)) = false := by rw [beq_eq_false_iff_ne]; omega
                  have h95' : ¬ p[j].toNat = 95 := by omega
                  simp only [he, h95', decide_false, Bool.or_false, Bool.false_and] at hval
                  rw [hval]
                  exact fits_byteL91n s p gk N i j _ W hs hp hN hi hj hM hc hjl jm hil il q37 q42 q91 q95 q63 eq (Lib.hid hval)
              · have il : decide ((i : Int) < (s.size : Int)) = false := by simp; omega
                have hval := valL_byte_end s p i j hjl h37 hil
                rw [hval]
                exact fits_byteL91e s p gk N i j _ W hs hp hN hi hj hM hc hjl jm hil il q37 q42 q91 q95 q63 (Lib.hid hval)
            · skip
              by_cases h95 : p[j].toNat = 95
              · have q42 := beq_f (c := p[j]) (n := 42) (k := 42) rfl (by omega)
                have q91 := beq_f (c := p[j]) (n := 91) (k := 91) rfl (by omega)
                have q95 := beq_t (k := 95) rfl h95
                have q63 := beq_f (c := p[j]) (n := 63) (k := 63) rfl (by omega)
                by_cases hil : i < s.size
                · have il : decide ((i : Int) < (s.size : Int)) = true := by simp; omega
                  have hval := valL_byte s p i j hjl h37 hil
                  have ih1 := fun W hM => ih (i + 1) (j + 1) W (by omega) (by omega) (by omega) hM
                  by_cases he : s[i].toNat = p[j].toNat
                  · have eq : ((s[i].toNat : Int) == (p[j].toNat : Int)) = true := by rw [he]; simp
                    simp only [he, decide_true, Bool.true_or, Bool.true_and] at hval
                    cases h1 : valL s p (i + 1) (j + 1) with
                    | true =>
                      rw [h1] at hval ih1
                      rw [hval]
                      exact fits_byteL95ytrue s p gk N i j _ W hs hp hN hi hj hM hc hjl jm hil il q37 q42 q91 q95 q63 eq ih1 (Lib.hid hval)
                    | false =>
                      rw [h1] at hval ih1
                      rw [hval]
                      exact fits_byteL95yfalse s p gk N i j _ W hs hp hN hi hj hM hc hjl jm hil il q37 q42 q91 q95 q63 eq ih1 (Lib.hid hval)
                  · have eq : ((s[i].toNat : Int) == (p[j].toNat : Int)) = false := by rw [beq_eq_false_iff_ne]; omega
                    simp only [h95, decide_true, Bool.or_true, Bool.true_and] at hval
                    cases h1 : valL s p (i + 1) (j + 1) with
                    | true =>
                      rw [h1] at hval ih1
                      rw [hval]
                      exact fits_byteL95otrue s p gk N i j _ W hs hp hN hi hj hM hc hjl jm hil il q37 q42 q91 q95 q63 eq ih1 (Lib.hid hval)
                    | false =>
                      rw [h1] at hval ih1
                      rw [hval]
                      exact fits_byteL95ofalse s p gk N i j _ W hs hp hN hi hj hM hc hjl jm hil il q37 q42 q91 q95 q63 eq ih1 (Lib.hid hval)
                · have il : decide ((i : Int) < (s.size : Int)) = false := by simp; omega
                  have hval := valL_byte_end s p i j hjl h37 hil
                  rw [hval]
                  exact fits_byteL95e s p gk N i j _ W hs hp hN hi hj hM hc hjl jm hil il q37 q42 q91 q95 q63 (Lib.hid hval)
              · skip
                by_cases h63 : p[j].toNat = 63
                · have q42 := beq_f (c := p[j]) (n := 42) (k := 42) rfl (by omega)
                  have q91 := beq_f (c := p[j]) (n := 91) (k := 91) rfl (by omega)
                  have q95 := beq_f (c := p[j]) (n := 95) (k := 95) rfl (by omega)
                  have q63 := beq_t (k := 63) rfl h63
                  by_cases hil : i < s.size
                  · have il : decide ((i : Int) < (s.size : Int)) = true := by simp; omega
                    have hval := valL_byte s p i j hjl h37 hil
                    have ih1 := fun W hM => ih (i + 1) (j + 1) W (by omega) (by omega) (by omega) hM
                    by_cases he : s[i].toNat = p[j].toNat
                    · have eq : ((s[i].toNat : Int) == (p[j].toNat : Int)) = true := by rw [he]; simp
                      simp only [he, decide_true, Bool.true_or, Bool.true_and] at hval
                      cases h1 : valL s p (i + 1) (j + 1) with
                      | true =>
                        rw [h1] at hval ih1
                        rw [hval]
                        exact fits_byteL63ytrue s p gk N i j _ W hs hp hN hi hj hM hc hjl jm hil il q37 q42 q91 q95 q63 eq ih1 (Lib.hid hval)
                      | false =>
                        rw [h1] at hval ih1
                        rw [hval]
                        exact fits_byteL63yfalse s p gk N i j _ W hs hp hN hi hj hM hc hjl jm hil il q37 q42 q91 q95 q63 eq ih1 (Lib.hid hval)
                    · have eq : ((s[i].toNat : Int) == (p[j].toNat : Int)) = false := by rw [beq_eq_false_iff_ne]; omega
                      have h95' : ¬ p[j].toNat = 95 := by omega
                      simp only [he, h95', decide_false, Bool.or_false, Bool.false_and] at hval
                      rw [hval]
                      exact fits_byteL63n s p gk N i j _ W hs hp hN hi hj hM hc hjl jm hil il q37 q42 q91 q95 q63 eq (Lib.hid hval)
                  · have il : decide ((i : Int) < (s.size : Int)) = false := by simp; omega
                    have hval := valL_byte_end s p i j hjl h37 hil
                    rw [hval]
                    exact fits_byteL63e s p gk N i j _ W hs hp hN hi hj hM hc hjl jm hil il q37 q42 q91 q95 q63 (Lib.hid hval)
                · skip
                  have q42 := beq_f (c := p[j]) (n := 42) (k := 42) rfl (by omega)
                  have q91 := beq_f (c := p[j]) (n := 91) (k := 91) rfl (by omega)
                  have q95 := beq_f (c := p[j]) (n := 95) (k := 95) rfl (by omega)
                  have q63 := beq_f (c := p[j]) (n := 63) (k := 63) rfl (by omega)
                  by_cases hil : i < s.size
                  · have il : decide ((i : Int) < (s.size : Int)) = true := by simp; omega
                    have hval := valL_byte s p i j hjl h37 hil
                    have ih1 := fun W hM => ih (i + 1) (j + 1) W (by omega) (by omega) (by omega) hM
                    by_cases he : s[i].toNat = p[j].toNat
                    · have eq : ((s[i].toNat : Int) == (p[j].toNat : Int)) = true := by rw [he]; simp
                      simp only [he, decide_true, Bool.true_or, Bool.true_and] at hval
                      cases h1 : valL s p (i + 1) (j + 1) with
                      | true =>
                        rw [h1] at hval ih1
                        rw [hval]
                        exact fits_byteL0ytrue s p gk N i j _ W hs hp hN hi hj hM hc hjl jm hil il q37 q42 q91 q95 q63 eq ih1 (Lib.hid hval)
                      | false =>
                        rw [h1] at hval ih1
                        rw [hval]
                        exact fits_byteL0yfalse s p gk N i j _ W hs hp hN hi hj hM hc hjl jm hil il q37 q42 q91 q95 q63 eq ih1 (Lib.hid hval)
                    · have eq : ((s[i].toNat : Int) == (p[j].toNat : Int)) = false := by rw [beq_eq_false_iff_ne]; omega
                      have h95' : ¬ p[j].toNat = 95 := by omega
                      simp only [he, h95', decide_false, Bool.or_false, Bool.false_and] at hval
                      rw [hval]
                      exact fits_byteL0n s p gk N i j _ W hs hp hN hi hj hM hc hjl jm hil il q37 q42 q91 q95 q63 eq (Lib.hid hval)
                  · have il : decide ((i : Int) < (s.size : Int)) = false := by simp; omega
                    have hval := valL_byte_end s p i j hjl h37 hil
                    rw [hval]
                    exact fits_byteL0e s p gk N i j _ W hs hp hN hi hj hM hc hjl jm hil il q37 q42 q91 q95 q63 (Lib.hid hval)
      · obtain rfl : j = p.size := by omega
        have jm : ((p.size : Int) == (p.size : Int)) = true := by simp
        have hval := valL_end s p i hi
        by_cases hin : i = s.size
        · have im : ((i : Int) == (s.size : Int)) = true := by rw [hin]; simp
          rw [decide_eq_true hin] at hval
          rw [hval]
          exact fits_end_true s p false gk N i p.size _ W hs hp hN hi hj hM hc jm im (Lib.hid hval)
        · have im : ((i : Int) == (s.size : Int)) = false := by rw [beq_eq_false_iff_ne]; omega
          rw [decide_eq_false hin] at hval
          rw [hval]
          exact fits_end_false s p false gk N i p.size _ W hs hp hN hi hj hM hc jm im (Lib.hid hval)
    · rcases h0 with h0 | h0
      · exact absurd h0 hv0
      · refine fits_known s p false gk N i j _ W hs hp hN hi hj hM v hc ?_ _ (Lib.hid ?_)
        · rw [h0]; unfold codeB; split <;> omega
        · rw [h0]; cases valL s p i j <;> rfl

end Go.Proofs.YtmkgalcojoeniaaGreatDoor

