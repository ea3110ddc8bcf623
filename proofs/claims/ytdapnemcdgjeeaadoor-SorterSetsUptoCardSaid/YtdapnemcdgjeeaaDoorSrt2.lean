/- Walks: what the library's stable sort is made of: insertion. -/
import Derived.Test.YtdapnemcdgjeeaaDoorSrt1
import Derived.Deep.RegionHeld3
set_option maxRecDepth 100000
set_option linter.unusedVariables false
set_option linter.unusedSimpArgs false
namespace Go.Proofs.YtdapnemcdgjeeaaDoor.Srt
open Go.RowKit Go.Proofs.YtdapnemcdgjeeaaDoor.Stb
variable {α : Type}

/-- what the function that compares must do, whenever it's called: it tells the order, and of what was there it turns nothing -/
def CmpOk (val : α → Value) (lt : α → α → Bool) (W0 : World) (B : Nat) (kp wp : Value) : Prop :=
  ∀ W, W0.grownBy W (some B) → ∀ x y : α, Calls Tryd.prog 41 #[val x, val y, kp, wp] W fun e w' => ∃ d : Int, e = .returned (.int .i64 d) ∧ (d < 0 ↔ lt x y = true) ∧ Below W.heap.size W w'
theorem CmpOk.yes {val : α → Value} {lt : α → α → Bool} {W0 : World} {B : Nat} {kp wp : Value} (h : CmpOk val lt W0 B kp wp) {W : World} (hW : W0.grownBy W (some B)) {x y : α} (hlt : lt x y = true) :
    Calls Tryd.prog 41 #[val x, val y, kp, wp] W fun e w' => ∃ d : Int, e = .returned (.int .i64 d) ∧ (decide (d < 0) = true) ∧ Below W.heap.size W w' :=
  (h W hW x y).mono fun e w' ⟨d, h1, h2, h3⟩ => ⟨d, h1, decide_eq_true (h2.2 hlt), h3⟩
theorem CmpOk.no {val : α → Value} {lt : α → α → Bool} {W0 : World} {B : Nat} {kp wp : Value} (h : CmpOk val lt W0 B kp wp) {W : World} (hW : W0.grownBy W (some B)) {x y : α} (hlt : lt x y = false) :
    Calls Tryd.prog 41 #[val x, val y, kp, wp] W fun e w' => ∃ d : Int, e = .returned (.int .i64 d) ∧ (decide (d < 0) = false) ∧ Below W.heap.size W w' :=
  (h W hW x y).mono fun e w' ⟨d, h1, h2, h3⟩ => ⟨d, h1, decide_eq_false (fun hd => by rw [h2.1 hd] at hlt; cases hlt), h3⟩
/-- two cells that a comparison reads, and the row -/
def Two (val : α → Value) (W0 : World) (B N : Nat) (f : Nat → α) (i j : Nat) (u v : Value) (W : World) : Prop := W.cell? ⟨B, i, none⟩ = some u ∧ W.cell? ⟨B, j, none⟩ = some v ∧ RS val W0 B N f W
theorem keepT {val : α → Value} {W0 W W' : World} {B N i j : Nat} {f : Nat → α} {u v : Value} (h : W.cell? ⟨B, i, none⟩ = some u ∧ W.cell? ⟨B, j, none⟩ = some v ∧ RS val W0 B N f W) (hb : Below W.heap.size W W') : W'.cell? ⟨B, i, none⟩ = some u ∧ W'.cell? ⟨B, j, none⟩ = some v ∧ RS val W0 B N f W' := by
  obtain ⟨h1, h2, h3⟩ := h
  have hl : B < W.heap.size := Nat.lt_of_lt_of_le h3.blk h3.grown.size
  exact ⟨(hb.cell (p := ⟨B, i, none⟩) hl).trans h1, (hb.cell (p := ⟨B, j, none⟩) hl).trans h2, h3.below hb⟩
theorem keepT0 {val : α → Value} {W0 W : World} {B N i j : Nat} {f : Nat → α} {u v : Value} (h : W.cell? ⟨B, i, none⟩ = some u ∧ W.cell? ⟨B, j, none⟩ = some v ∧ RS val W0 B N f W) : W.drew.cell? ⟨B, i, none⟩ = some u ∧ W.drew.cell? ⟨B, j, none⟩ = some v ∧ RS val W0 B N f W.drew := ⟨h.1, h.2.1, h.2.2.drew⟩

theorem CmpOk.yesT {val : α → Value} {lt : α → α → Bool} {W0 : World} {B N i j : Nat} {f : Nat → α} {kp wp u v : Value} (h : CmpOk val lt W0 B kp wp) {W : World} {x y : α} (hT : W.cell? ⟨B, i, none⟩ = some u ∧ W.cell? ⟨B, j, none⟩ = some v ∧ RS val W0 B N f W) (hx : val x = u) (hy : val y = v) (hlt : lt x y = true) :
    Calls Tryd.prog 41 #[u, v, kp, wp] W fun e w' => ∃ d : Int, e = .returned (.int .i64 d) ∧ (decide (d < 0) = true) ∧ Below W.heap.size W w' := by
  subst hx hy; exact h.yes hT.2.2.grown hlt
theorem CmpOk.noT {val : α → Value} {lt : α → α → Bool} {W0 : World} {B N i j : Nat} {f : Nat → α} {kp wp u v : Value} (h : CmpOk val lt W0 B kp wp) {W : World} {x y : α} (hT : W.cell? ⟨B, i, none⟩ = some u ∧ W.cell? ⟨B, j, none⟩ = some v ∧ RS val W0 B N f W) (hx : val x = u) (hy : val y = v) (hlt : lt x y = false) :
    Calls Tryd.prog 41 #[u, v, kp, wp] W fun e w' => ∃ d : Int, e = .returned (.int .i64 d) ∧ (decide (d < 0) = false) ∧ Below W.heap.size W w' := by
  subst hx hy; exact h.no hT.2.2.grown hlt

set_option maxHeartbeats 4000000 in
theorem insertion_any (val : α → Value) (lt : α → α → Bool) (hs : SWO lt) (W0 : World) (B N c : Nat) (f : Nat → α) (W : World) (a b : Nat) (kp wp : Value) (hC : CmpOk val lt W0 B kp wp) (hR : RS val W0 B N f W) (hab : a ≤ b) (hb : b ≤ N) (hN : N ≤ 1099511627776) :
    Calls Tryd.prog 50 #[.slice (some ⟨B, 0, none⟩) N c, .int .i64 a, .int .i64 b, .func (.func 41) #[] #[kp, wp]] W fun e W' => e = .returned (.tuple #[]) ∧ ∃ g, RS val W0 B N g W' ∧ Moved lt f g a b ∧ SortedOn lt g a b := by
  go_enter Tryd.func50, Tryd.ntmps50
  go_wp2
  go_loopw [8] (fun iv wr => ∃ (i : Nat) (g : Nat → α), iv = .int .i64 (i : Int) ∧ a + 1 ≤ i ∧ (i ≤ b ∨ i = a + 1) ∧ RS val W0 B N g wr ∧ Hid (Moved lt f g a b ∧ SortedOn lt g a i)) (fun iv _ => b - (intOf iv).toNat)
  case atStart => exact ⟨a + 1, f, by go_num, by omega, .inr rfl, hR, Lib.hid ⟨Moved.refl _ _ _ _, fun i j h1 h2 h3 => by omega⟩⟩
  case round =>
    obtain ⟨i, g, rfl, hi, hib, hr, hM⟩ := hrel
    by_cases hlt : i < b
    · have hlB : decide ((i : Int) < (b : Int)) = true := by simp; omega
      go_wp2
      go_loopw [9] (fun jv wq => ∃ j : Nat, jv = .int .i64 (j : Int) ∧ a ≤ j ∧ j ≤ i ∧ RS val W0 B N (rot g j i (i + 1)) wq ∧ Hid (j = i ∨ lt (g i) (g j) = true)) (fun jv _ => (intOf jv).toNat)
      case atStart => exact ⟨i, by go_num, by omega, by omega, by rw [rot_left_zero]; exact hr, Lib.hid (.inl rfl)⟩
      case round =>
        obtain ⟨j, rfl, haj, hji, hq, hlast⟩ := hrel
        by_cases hja : a < j
        · have hG : decide ((j : Int) > (a : Int)) = true := by simp; omega
          have c0 := hq.cell j (by omega)
          have c1 := hq.cell (j - 1) (by omega)
          have f0 := hq.free j (by omega)
          have f1 := hq.free (j - 1) (by omega)
          have x0 : rot g j i (i + 1) j = g i := by unfold rot; rw [if_pos (by omega)]; congr 1; omega
          have x1 : rot g j i (i + 1) (j - 1) = g (j - 1) := by unfold rot; rw [if_neg (by omega), if_neg (by omega)]
          rw [x0] at c0
          rw [x1] at c1
          obtain ⟨p0, n0, q0, h0⟩ := hq.sl (g i)
          obtain ⟨p1, n1, q1, h1⟩ := hq.sl (g (j - 1))
          have i0 : (0 : Int) ≤ (j : Int) - 1 := by omega
          have i1 : (j : Int) - 1 < (N : Int) := by omega
          have i2 : (0 : Int) ≤ (j : Int) := by omega
          have i3 : (j : Int) < (N : Int) := by omega
          have i4 : (1 : Int) ≤ (j : Int) := by omega
          have i5 : 1 ≤ j := by omega
          have i6 : 0 < j := by omega
          have i7 : j - 1 < N := by omega
          have e0 : ((j : Int) - 1).toNat = j - 1 := by omega
          have w0 : IntKind.i64.wrap ((j : Int) - 1) = (j : Int) - 1 := IntWalk.i64_in _ (by omega)
          have w1 : wrap64 ((j : Int) - 1) = (j : Int) - 1 := by unfold wrap64; omega
          rw [h0] at c0
          rw [h1] at c1
          have H0 : wr.cell? ⟨B, j, none⟩ = some (.slice p0 n0 q0) ∧ wr.cell? ⟨B, j - 1, none⟩ = some (.slice p1 n1 q1) ∧ RS val W0 B N (rot g j i (i + 1)) wr := ⟨c0, c1, hq⟩
          replace h0 := Lib.hid h0
          replace h1 := Lib.hid h1
          replace x0 := Lib.hid x0
          replace x1 := Lib.hid x1
          clear hq c0 c1 hr
          cases hl : lt (g i) (g (j - 1)) with
          | true =>
            replace hl := Lib.hid hl
            go_wp2_with fail
            go_region_held3 (fun W => W.cell? ⟨B, j, none⟩ = some (.slice p0 n0 q0) ∧ W.cell? ⟨B, j - 1, none⟩ = some (.slice p1 n1 q1) ∧ RS val W0 B N (rot g j i (i + 1)) W) (first | assumption | exact keepT (by assumption) (by assumption) | exact keepT0 (by assumption)) (first
              | (go_at_call 41; refine (hC.yesT (by assumption) h0.out h1.out hl.out).mono ?_; rintro e w3 ⟨d, rfl, hd, hb3⟩))
            rename_i hh
            obtain ⟨k0, k1, hq2⟩ := hh
            have f0 := hq2.free j (by omega)
            have f1 := hq2.free (j - 1) (by omega)
            have hsw := hq2.drew.swap (i := j) (j := j - 1) (by omega) (by omega)
            rw [x0.out, x1.out, h0.out, h1.out] at hsw
            have hrl := rot_left g (k := j - 1) (m := i) (by omega)
            rw [show j - 1 + 1 = j by omega] at hrl
            rw [hrl] at hsw
            have jj : ((j - 1 : Nat) : Int) = (j : Int) - 1 := by omega
            replace hsw := Lib.hid hsw
            replace jj := Lib.hid jj
            clear hrl hq2
            go_wp2
            go_region
            go_wp2
            go_roundw
            case rel => exact ⟨j - 1, by rw [jj.out], by omega, by omega, hsw.out, Lib.hid (.inr hl.out)⟩
            case measure => simp [intOf]; omega
          | false =>
            have ho := one_right hs hM.out.2 haj hji (.inr hl) hlast.out
            replace ho := Lib.hid ho
            replace hl := Lib.hid hl
            go_wp2_with fail
            go_region_held3 (fun W => W.cell? ⟨B, j, none⟩ = some (.slice p0 n0 q0) ∧ W.cell? ⟨B, j - 1, none⟩ = some (.slice p1 n1 q1) ∧ RS val W0 B N (rot g j i (i + 1)) W) (first | assumption | exact keepT (by assumption) (by assumption) | exact keepT0 (by assumption)) (first
              | (go_at_call 41; refine (hC.noT (by assumption) h0.out h1.out hl.out).mono ?_; rintro e w3 ⟨d, rfl, hd, hb3⟩))
            rename_i hh
            go_wp2
            go_roundw
            case rel => exact ⟨i + 1, _, by go_num, by omega, by omega, hh.2.2, Lib.hid ⟨hM.out.1.trans (ho.out.1.wide (Nat.le_refl _) (by omega) (by omega)), ho.out.2⟩⟩
            case measure => simp [intOf]; omega
        · have hG : decide ((j : Int) > (a : Int)) = false := by simp; omega
          have ho := one_right hs hM.out.2 haj hji (.inl (by omega)) hlast.out
          replace ho := Lib.hid ho
          have hq2 := hq.drew
          clear hr
          go_wp2_with fail
          go_quiet (fail)
          go_wp2
          go_roundw
          case rel => exact ⟨i + 1, _, by go_num, by omega, by omega, hq.below (below_drewN (Below.refl _ _) _), Lib.hid ⟨hM.out.1.trans (ho.out.1.wide (Nat.le_refl _) (by omega) (by omega)), ho.out.2⟩⟩
          case measure => simp [intOf]; omega
    · have hlB : decide ((i : Int) < (b : Int)) = false := by simp; omega
      have hfin : SortedOn lt g a b := hM.out.2.sub (Nat.le_refl _) (by omega)
      go_wp2
      go_end0
      exact ⟨rfl, g, hr, hM.out.1, hfin⟩
end Go.Proofs.YtdapnemcdgjeeaaDoor.Srt
