/- Walks: what the library's stable sort is made of: pieces exchanged, pieces turned. Walks: what the library's stable sort is made of: insertion. Walks: what the library's stable sort is made of: two neighbouring pieces merged, where one of them is a single element. Walks: what the library's stable sort is made of: two neighbouring pieces merged. Walks: the library's stable sort, at rows of values. -/
import Derived.Test.YtdapnemcdgjeeaaGreatDoorBase
import Derived.Test.YtdapnemcdgjeeaaGreatDoorBelow
import Derived.Test.YtdapnemcdgjeeaaGreatDoorStbA
import Derived.BigRegion
import Derived.Deep.RegionHeld3
import Derived.Deep.CutRange
set_option maxRecDepth 100000
set_option linter.unusedVariables false
set_option linter.unusedSimpArgs false
namespace Go.Proofs.YtdapnemcdgjeeaaGreatDoor.Srt
open Go.RowKit Go.Proofs.YtdapnemcdgjeeaaGreatDoor.Stb
variable {α : Type}

/-- the row that is sorted: block B, N places, of which place k holds (f k), a slice; nothing else of what was there has turned -/
structure RS (val : α → Value) (W0 : World) (B N : Nat) (f : Nat → α) (W : World) : Prop where
  cell : ∀ k, k < N → W.cell? ⟨B, k, none⟩ = some (val (f k))
  free : ∀ k, k < N → W.frozen? ⟨B, k, none⟩ = false
  grown : W0.grownBy W (some B)
  blk : B < W0.heap.size
  sl : ∀ x, ∃ p n c, val x = .slice p n c
theorem grown_below {a b : World} (row : Option Nat) (h : Below a.heap.size a b) : a.grownBy b row := ⟨h.os, h.tape, h.output, h.size, fun k hk _ => h.block k hk⟩
theorem RS.below {val : α → Value} {W0 W W' : World} {B N : Nat} {f : Nat → α} (h : RS val W0 B N f W) (hb : Below W.heap.size W W') : RS val W0 B N f W' := by
  have hl : B < W.heap.size := Nat.lt_of_lt_of_le h.blk h.grown.size
  exact ⟨fun k hk => (hb.cell (p := ⟨B, k, none⟩) hl).trans (h.cell k hk), fun k hk => (hb.frozen (p := ⟨B, k, none⟩) hl).trans (h.free k hk), h.grown.trans (grown_below _ hb), h.blk, h.sl⟩
theorem RS.drew {val : α → Value} {W0 W : World} {B N : Nat} {f : Nat → α} (h : RS val W0 B N f W) : RS val W0 B N f W.drew := h.below (Below.refl _ _).drew
theorem RS.congr {val : α → Value} {W0 W : World} {B N : Nat} {f g : Nat → α} (h : RS val W0 B N f W) (e : ∀ k, k < N → f k = g k) : RS val W0 B N g W := ⟨fun k hk => by rw [← e k hk]; exact h.cell k hk, h.free, h.grown, h.blk, h.sl⟩
theorem grown_set (w : World) (B k : Nat) (v : Value) : w.grownBy (w.setCell ⟨B, k, none⟩ v) (some B) := by
  have := (Below.refl 0 w).setCell (p := ⟨B, k, none⟩) (Nat.zero_le _) v
  exact ⟨this.os, this.tape, this.output, this.size, fun i _ hne => Below.heap_setCell w _ v i (fun e => hne (by rw [e]))⟩
theorem RS.put {val : α → Value} {W0 W : World} {B N : Nat} {f : Nat → α} (h : RS val W0 B N f W) {i : Nat} (hi : i < N) (x : α) : RS val W0 B N (fun k => if k = i then x else f k) (W.setCell ⟨B, i, none⟩ (val x)) := by
  refine ⟨fun k hk => ?_, fun k hk => by rw [World.frozen?_setCell]; exact h.free k hk, h.grown.trans (grown_set _ _ _ _), h.blk, h.sl⟩
  by_cases e : k = i
  · subst e
    rw [World.cell?_setCell_same _ _ _ (h.cell k hk), if_pos rfl]
  · rw [World.cell?_setCell_other _ _ _ _ (fun e' => e (by injection e' with _ e2; exact e2.symm)), if_neg e]
    exact h.cell k hk
theorem RS.swap {val : α → Value} {W0 W : World} {B N : Nat} {f : Nat → α} (h : RS val W0 B N f W) {i j : Nat} (hi : i < N) (hj : j < N) :
    RS val W0 B N (Stb.swap f i j) ((W.setCell ⟨B, i, none⟩ (val (f j))).setCell ⟨B, j, none⟩ (val (f i))) := by
  refine ((h.put hi (f j)).put hj (f i)).congr fun k _ => ?_
  unfold Stb.swap
  by_cases e1 : k = i
  · subst e1
    by_cases e2 : k = j
    · rw [if_pos e2, if_pos rfl, e2]
    · rw [if_neg e2, if_pos rfl, if_pos rfl]
  · by_cases e2 : k = j
    · rw [if_pos e2, if_neg e1, if_pos e2]
    · rw [if_neg e2, if_neg e1, if_neg e1, if_neg e2]

set_option maxHeartbeats 1000000 in
theorem swapRange_any (val : α → Value) (W0 : World) (B N c : Nat) (f : Nat → α) (W : World) (a b n : Nat) (fv : Value) (hR : RS val W0 B N f W) (hab : a + n ≤ b) (hb : b + n ≤ N) (hN : N ≤ 1099511627776) :
    Calls Tryz.prog 138 #[.slice (some ⟨B, 0, none⟩) N c, .int .i64 a, .int .i64 b, .int .i64 n, fv] W fun e W' => e = .returned (.tuple #[]) ∧ RS val W0 B N (swapR f a b n) W' := by
  go_enter Tryz.func138, Tryz.ntmps138
  go_wp2
  go_loopw [10] (fun iv wr => ∃ k : Nat, iv = .int .i64 (k : Int) ∧ k ≤ n ∧ RS val W0 B N (swapR f a b k) wr) (fun iv _ => n - (intOf iv).toNat)
  case atStart => exact ⟨0, by go_num, by omega, by rw [swapR_zero]; exact hR⟩
  case round =>
    obtain ⟨k, rfl, hk, hr⟩ := hrel
    by_cases hlt : k < n
    · have hlB : decide ((k : Int) < (n : Int)) = true := by simp; omega
      have c0 := hr.cell (a + k) (by omega)
      have c1 := hr.cell (b + k) (by omega)
      have f0 := hr.free (a + k) (by omega)
      have f1 := hr.free (b + k) (by omega)
      have hsw := (hr.drew.swap (i := a + k) (j := b + k) (by omega) (by omega))
      rw [swapR_succ f (show a + k < b by omega)] at hsw
      obtain ⟨p0, n0, q0, hx⟩ := hr.sl (swapR f a b k (a + k))
      obtain ⟨p1, n1, q1, hy⟩ := hr.sl (swapR f a b k (b + k))
      rw [hx] at c0 hsw
      rw [hy] at c1 hsw
      clear hx hy
      have i0 : (0 : Int) ≤ (a : Int) + (k : Int) := by omega
      have i1 : (a : Int) + (k : Int) < (N : Int) := by omega
      have i2 : (0 : Int) ≤ (b : Int) + (k : Int) := by omega
      have i3 : (b : Int) + (k : Int) < (N : Int) := by omega
      have e0 : ((a : Int) + (k : Int)).toNat = a + k := by omega
      have e1 : ((b : Int) + (k : Int)).toNat = b + k := by omega
      replace hsw := Lib.hid hsw
      go_wp2
      go_region
      go_wp2
      go_roundw
      case rel => exact ⟨k + 1, by go_num, by omega, hsw.out⟩
      case measure => simp [intOf]; omega
    · have hlB : decide ((k : Int) < (n : Int)) = false := by simp; omega
      obtain rfl : k = n := by omega
      go_wp2
      go_end0
      exact ⟨rfl, hr⟩

set_option maxHeartbeats 1000000 in
theorem rotate_any (val : α → Value) (W0 : World) (B N c : Nat) (f : Nat → α) (W : World) (a m b : Nat) (fv : Value) (hR : RS val W0 B N f W) (ham : a < m) (hmb : m < b) (hb : b ≤ N) (hN : N ≤ 1099511627776) :
    Calls Tryz.prog 112 #[.slice (some ⟨B, 0, none⟩) N c, .int .i64 a, .int .i64 m, .int .i64 b, fv] W fun e W' => e = .returned (.tuple #[]) ∧ RS val W0 B N (rot f a m b) W' := by
  have ja : ((m - a : Nat) : Int) = (m : Int) - (a : Int) := by omega
  have jb : ((b - m : Nat) : Int) = (b : Int) - (m : Int) := by omega
  go_enter Tryz.func112, Tryz.ntmps112
  go_wp2
  go_loopw [10, 11] (fun iv jv wr => ∃ (i j : Nat) (g : Nat → α), iv = .int .i64 (i : Int) ∧ jv = .int .i64 (j : Int) ∧ 0 < i ∧ 0 < j ∧ i ≤ m ∧ m + j ≤ b ∧ RS val W0 B N g wr ∧ Hid (rot f a m b = rot g (m - i) m (m + j))) (fun iv jv _ => (intOf iv).toNat + (intOf jv).toNat)
  case atStart => exact ⟨m - a, b - m, f, by rw [ja], by rw [jb], by omega, by omega, by omega, by omega, hR, Lib.hid (by rw [show m - (m - a) = a by omega, show m + (b - m) = b by omega])⟩
  case round =>
    obtain ⟨i, j, g, rfl, rfl, hi, hj, him, hmj, hr, hrot⟩ := hrel
    clear ja jb
    have ji : ((m - i : Nat) : Int) = (m : Int) - (i : Int) := by omega
    by_cases heq : i = j
    · subst heq
      have hB : ((i : Int) != (i : Int)) = false := by simp
      have hc := swapRange_any val W0 B N c g wr (m - i) m i fv hr (by omega) (by omega) hN
      rw [ji] at hc
      have hfin : rot f a m b = swapR g (m - i) m i := hrot.out.trans (rot_eq g him)
      replace hfin := Lib.hid hfin
      clear ji
      go_wp2_with (go_at_call 138; refine hc.mono ?_; rintro e w1 ⟨rfl, hr1⟩)
      go_end0
      exact ⟨rfl, by rw [hfin.out]; exact hr1⟩
    · have hB : ((i : Int) != (j : Int)) = true := by simp; omega
      by_cases hgt : j < i
      · have hG : decide ((i : Int) > (j : Int)) = true := by simp; omega
        have hc := swapRange_any val W0 B N c g wr (m - i) m j fv hr (by omega) (by omega) hN
        rw [ji] at hc
        have e := rot_gt g him hgt
        rw [← hrot.out, show m - i + j = m - (i - j) by omega] at e
        have jj : ((i - j : Nat) : Int) = (i : Int) - (j : Int) := by omega
        replace e := Lib.hid e
        replace jj := Lib.hid jj
        clear ji hrot
        go_wp2_with (go_at_call 138; refine hc.mono ?_; rintro e w1 ⟨rfl, hr1⟩)
        go_roundw
        case rel => exact ⟨i - j, j, _, by rw [jj.out], rfl, by omega, by omega, by omega, by omega, hr1, e⟩
        case measure => simp [intOf]; omega
      · have hG : decide ((i : Int) > (j : Int)) = false := by simp; omega
        have hc := swapRange_any val W0 B N c g wr (m - i) (m + j - i) i fv hr (by omega) (by omega) hN
        have je : ((m + j - i : Nat) : Int) = (m : Int) + (j : Int) - (i : Int) := by omega
        rw [ji, je] at hc
        have e := rot_lt g him (show i < j by omega)
        rw [← hrot.out, show m + j - i = m + (j - i) by omega] at e
        have jj : ((j - i : Nat) : Int) = (j : Int) - (i : Int) := by omega
        replace e := Lib.hid e
        replace jj := Lib.hid jj
        clear ji je hrot
        go_wp2_with (go_at_call 138; refine hc.mono ?_; rintro e w1 ⟨rfl, hr1⟩)
        go_roundw
        case rel => exact ⟨i, j - i, _, rfl, by rw [jj.out], by omega, by omega, by omega, by omega, by rw [show m + (j - i) = m + j - i by omega]; exact hr1, e⟩
        case measure => simp [intOf]; omega
end Go.Proofs.YtdapnemcdgjeeaaGreatDoor.Srt

namespace Go.Proofs.YtdapnemcdgjeeaaGreatDoor.Srt
open Go.RowKit Go.Proofs.YtdapnemcdgjeeaaGreatDoor.Stb
variable {α : Type}

/-- what the function that compares must do, whenever it's called: it tells the order, and of what was there it turns nothing -/
def CmpOk (val : α → Value) (lt : α → α → Bool) (W0 : World) (B : Nat) (kp wp : Value) : Prop :=
  ∀ W, W0.grownBy W (some B) → ∀ x y : α, Calls Tryz.prog 64 #[val x, val y, kp, wp] W fun e w' => ∃ d : Int, e = .returned (.int .i64 d) ∧ (d < 0 ↔ lt x y = true) ∧ Below W.heap.size W w'
theorem CmpOk.yes {val : α → Value} {lt : α → α → Bool} {W0 : World} {B : Nat} {kp wp : Value} (h : CmpOk val lt W0 B kp wp) {W : World} (hW : W0.grownBy W (some B)) {x y : α} (hlt : lt x y = true) :
    Calls Tryz.prog 64 #[val x, val y, kp, wp] W fun e w' => ∃ d : Int, e = .returned (.int .i64 d) ∧ (decide (d < 0) = true) ∧ Below W.heap.size W w' :=
  (h W hW x y).mono fun e w' ⟨d, h1, h2, h3⟩ => ⟨d, h1, decide_eq_true (h2.2 hlt), h3⟩
theorem CmpOk.no {val : α → Value} {lt : α → α → Bool} {W0 : World} {B : Nat} {kp wp : Value} (h : CmpOk val lt W0 B kp wp) {W : World} (hW : W0.grownBy W (some B)) {x y : α} (hlt : lt x y = false) :
    Calls Tryz.prog 64 #[val x, val y, kp, wp] W fun e w' => ∃ d : Int, e = .returned (.int .i64 d) ∧ (decide (d < 0) = false) ∧ Below W.heap.size W w' :=
  (h W hW x y).mono fun e w' ⟨d, h1, h2, h3⟩ => ⟨d, h1, decide_eq_false (fun hd => by rw [h2.1 hd] at hlt; cases hlt), h3⟩
/-- two cells that a comparison reads, and the row -/
def Two (val : α → Value) (W0 : World) (B N : Nat) (f : Nat → α) (i j : Nat) (u v : Value) (W : World) : Prop := W.cell? ⟨B, i, none⟩ = some u ∧ W.cell? ⟨B, j, none⟩ = some v ∧ RS val W0 B N f W
theorem keepT {val : α → Value} {W0 W W' : World} {B N i j : Nat} {f : Nat → α} {u v : Value} (h : W.cell? ⟨B, i, none⟩ = some u ∧ W.cell? ⟨B, j, none⟩ = some v ∧ RS val W0 B N f W) (hb : Below W.heap.size W W') : W'.cell? ⟨B, i, none⟩ = some u ∧ W'.cell? ⟨B, j, none⟩ = some v ∧ RS val W0 B N f W' := by
  obtain ⟨h1, h2, h3⟩ := h
  have hl : B < W.heap.size := Nat.lt_of_lt_of_le h3.blk h3.grown.size
  exact ⟨(hb.cell (p := ⟨B, i, none⟩) hl).trans h1, (hb.cell (p := ⟨B, j, none⟩) hl).trans h2, h3.below hb⟩
theorem keepT0 {val : α → Value} {W0 W : World} {B N i j : Nat} {f : Nat → α} {u v : Value} (h : W.cell? ⟨B, i, none⟩ = some u ∧ W.cell? ⟨B, j, none⟩ = some v ∧ RS val W0 B N f W) : W.drew.cell? ⟨B, i, none⟩ = some u ∧ W.drew.cell? ⟨B, j, none⟩ = some v ∧ RS val W0 B N f W.drew := ⟨h.1, h.2.1, h.2.2.drew⟩

theorem CmpOk.yesT {val : α → Value} {lt : α → α → Bool} {W0 : World} {B N i j : Nat} {f : Nat → α} {kp wp u v : Value} (h : CmpOk val lt W0 B kp wp) {W : World} {x y : α} (hT : W.cell? ⟨B, i, none⟩ = some u ∧ W.cell? ⟨B, j, none⟩ = some v ∧ RS val W0 B N f W) (hx : val x = u) (hy : val y = v) (hlt : lt x y = true) :
    Calls Tryz.prog 64 #[u, v, kp, wp] W fun e w' => ∃ d : Int, e = .returned (.int .i64 d) ∧ (decide (d < 0) = true) ∧ Below W.heap.size W w' := by
  subst hx hy; exact h.yes hT.2.2.grown hlt
theorem CmpOk.noT {val : α → Value} {lt : α → α → Bool} {W0 : World} {B N i j : Nat} {f : Nat → α} {kp wp u v : Value} (h : CmpOk val lt W0 B kp wp) {W : World} {x y : α} (hT : W.cell? ⟨B, i, none⟩ = some u ∧ W.cell? ⟨B, j, none⟩ = some v ∧ RS val W0 B N f W) (hx : val x = u) (hy : val y = v) (hlt : lt x y = false) :
    Calls Tryz.prog 64 #[u, v, kp, wp] W fun e w' => ∃ d : Int, e = .returned (.int .i64 d) ∧ (decide (d < 0) = false) ∧ Below W.heap.size W w' := by
  subst hx hy; exact h.no hT.2.2.grown hlt

set_option maxHeartbeats 4000000 in
theorem insertion_any (val : α → Value) (lt : α → α → Bool) (hs : SWO lt) (W0 : World) (B N c : Nat) (f : Nat → α) (W : World) (a b : Nat) (kp wp : Value) (hC : CmpOk val lt W0 B kp wp) (hR : RS val W0 B N f W) (hab : a ≤ b) (hb : b ≤ N) (hN : N ≤ 1099511627776) :
    Calls Tryz.prog 87 #[.slice (some ⟨B, 0, none⟩) N c, .int .i64 a, .int .i64 b, .func (.func 64) #[] #[kp, wp]] W fun e W' => e = .returned (.tuple #[]) ∧ ∃ g, RS val W0 B N g W' ∧ Moved lt f g a b ∧ SortedOn lt g a b := by
  go_enter Tryz.func87, Tryz.ntmps87
  go_wp2
  go_loopw [8] (fun iv wr => ∃ (i : Nat) (g : Nat → α), iv = .int .i64 (i : Int) ∧ a + 1 ≤ i ∧ (i ≤ b ∨ i = a + 1) ∧ RS val W0 B N g wr ∧ Hid (Moved lt f g a b ∧ SortedOn lt g a i)) (fun iv _ => b - (intOf iv).toNat)
  case atStart => exact ⟨a + 1, f, by go_num, by omega, .inr rfl, hR, Lib.hid ⟨Moved.refl _ _ _ _, fun i j h1 h2 h3 => by omega⟩⟩
  case round =>
    obtain ⟨i, g, rfl, hi, hib, hr, hM⟩ := hrel
    by_cases hlt : i < b
    · have hlB : decide ((i : Int) < (b : Int)) = true := by simp; omega
      go_wp2
      go_loopw [9] (fun jv wq => ∃ j : Nat, jv = .int .i64 (j : Int) ∧ a ≤ j ∧ j ≤ i ∧ RS val W0 B N (rot g j i (i + 1)) wq ∧ Hid (j = i ∨ lt (g i) (g j) = true)) (fun jv _ => (intOf jv).toNat)
      case atStart => exact ⟨i, by go_num, by omega, by omega, by rw [rot_left_zero]; exact hr, Lib.hid (.inl rfl)⟩
      case round =>
        obtain ⟨j, rfl, haj, hji, hq, hlast⟩ := hrel
        by_cases hja : a < j
        · have hG : decide ((j : Int) > (a : Int)) = true := by simp; omega
          have c0 := hq.cell j (by omega)
          have c1 := hq.cell (j - 1) (by omega)
          have f0 := hq.free j (by omega)
          have f1 := hq.free (j - 1) (by omega)
          have x0 : rot g j i (i + 1) j = g i := by unfold rot; rw [if_pos (by omega)]; congr 1; omega
          have x1 : rot g j i (i + 1) (j - 1) = g (j - 1) := by unfold rot; rw [if_neg (by omega), if_neg (by omega)]
          rw [x0] at c0
          rw [x1] at c1
          obtain ⟨p0, n0, q0, h0⟩ := hq.sl (g i)
          obtain ⟨p1, n1, q1, h1⟩ := hq.sl (g (j - 1))
          have i0 : (0 : Int) ≤ (j : Int) - 1 := by omega
          have i1 : (j : Int) - 1 < (N : Int) := by omega
          have i2 : (0 : Int) ≤ (j : Int) := by omega
          have i3 : (j : Int) < (N : Int) := by omega
          have i4 : (1 : Int) ≤ (j : Int) := by omega
          have i5 : 1 ≤ j := by omega
          have i6 : 0 < j := by omega
          have i7 : j - 1 < N := by omega
          have e0 : ((j : Int) - 1).toNat = j - 1 := by omega
          have w0 : IntKind.i64.wrap ((j : Int) - 1) = (j : Int) - 1 := IntWalk.i64_in _ (by omega)
          have w1 : wrap64 ((j : Int) - 1) = (j : Int) - 1 := by unfold wrap64; omega
          rw [h0] at c0
          rw [h1] at c1
          have H0 : wr.cell? ⟨B, j, none⟩ = some (.slice p0 n0 q0) ∧ wr.cell? ⟨B, j - 1, none⟩ = some (.slice p1 n1 q1) ∧ RS val W0 B N (rot g j i (i + 1)) wr := ⟨c0, c1, hq⟩
          replace h0 := Lib.hid h0
          replace h1 := Lib.hid h1
          replace x0 := Lib.hid x0
          replace x1 := Lib.hid x1
          clear hq c0 c1 hr
          cases hl : lt (g i) (g (j - 1)) with
          | true =>
            replace hl := Lib.hid hl
            go_wp2_with fail
            go_region_held3 (fun W => W.cell? ⟨B, j, none⟩ = some (.slice p0 n0 q0) ∧ W.cell? ⟨B, j - 1, none⟩ = some (.slice p1 n1 q1) ∧ RS val W0 B N (rot g j i (i + 1)) W) (first | assumption | exact keepT (by assumption) (by assumption) | exact keepT0 (by assumption)) (first
              | (go_at_call 64; refine (hC.yesT (by assumption) h0.out h1.out hl.out).mono ?_; rintro e w3 ⟨d, rfl, hd, hb3⟩))
            rename_i hh
            obtain ⟨k0, k1, hq2⟩ := hh
            have f0 := hq2.free j (by omega)
            have f1 := hq2.free (j - 1) (by omega)
            have hsw := hq2.drew.swap (i := j) (j := j - 1) (by omega) (by omega)
            rw [x0.out, x1.out, h0.out, h1.out] at hsw
            have hrl := rot_left g (k := j - 1) (m := i) (by omega)
            rw [show j - 1 + 1 = j by omega] at hrl
            rw [hrl] at hsw
            have jj : ((j - 1 : Nat) : Int) = (j : Int) - 1 := by omega
            replace hsw := Lib.hid hsw
            replace jj := Lib.hid jj
            clear hrl hq2
            go_wp2
            go_region
            go_wp2
            go_roundw
            case rel => exact ⟨j - 1, by rw [jj.out], by omega, by omega, hsw.out, Lib.hid (.inr hl.out)⟩
            case measure => simp [intOf]; omega
          | false =>
            have ho := one_right hs hM.out.2 haj hji (.inr hl) hlast.out
            replace ho := Lib.hid ho
            replace hl := Lib.hid hl
            go_wp2_with fail
            go_region_held3 (fun W => W.cell? ⟨B, j, none⟩ = some (.slice p0 n0 q0) ∧ W.cell? ⟨B, j - 1, none⟩ = some (.slice p1 n1 q1) ∧ RS val W0 B N (rot g j i (i + 1)) W) (first | assumption | exact keepT (by assumption) (by assumption) | exact keepT0 (by assumption)) (first
              | (go_at_call 64; refine (hC.noT (by assumption) h0.out h1.out hl.out).mono ?_; rintro e w3 ⟨d, rfl, hd, hb3⟩))
            rename_i hh
            go_wp2
            go_roundw
            case rel => exact ⟨i + 1, _, by go_num, by omega, by omega, hh.2.2, Lib.hid ⟨hM.out.1.trans (ho.out.1.wide (Nat.le_refl _) (by omega) (by omega)), ho.out.2⟩⟩
            case measure => simp [intOf]; omega
        · have hG : decide ((j : Int) > (a : Int)) = false := by simp; omega
          have ho := one_right hs hM.out.2 haj hji (.inl (by omega)) hlast.out
          replace ho := Lib.hid ho
          have hq2 := hq.drew
          clear hr
          go_wp2_with fail
          go_quiet (fail)
          go_wp2
          go_roundw
          case rel => exact ⟨i + 1, _, by go_num, by omega, by omega, hq.below (below_drewN (Below.refl _ _) _), Lib.hid ⟨hM.out.1.trans (ho.out.1.wide (Nat.le_refl _) (by omega) (by omega)), ho.out.2⟩⟩
          case measure => simp [intOf]; omega
    · have hlB : decide ((i : Int) < (b : Int)) = false := by simp; omega
      have hfin : SortedOn lt g a b := hM.out.2.sub (Nat.le_refl _) (by omega)
      go_wp2
      go_end0
      exact ⟨rfl, g, hr, hM.out.1, hfin⟩
end Go.Proofs.YtdapnemcdgjeeaaGreatDoor.Srt

namespace Go.Proofs.YtdapnemcdgjeeaaGreatDoor.Srt
open Go.RowKit Go.Proofs.YtdapnemcdgjeeaaGreatDoor.Stb
variable {α : Type}

/-- what merging leaves -/
def Merged (val : α → Value) (lt : α → α → Bool) (W0 : World) (B N : Nat) (f : Nat → α) (a b : Nat) (e : Ending) (W' : World) : Prop := e = .returned (.tuple #[]) ∧ ∃ g, RS val W0 B N g W' ∧ Moved lt f g a b ∧ SortedOn lt g a b

set_option maxHeartbeats 4000000 in
theorem merge_left (val : α → Value) (lt : α → α → Bool) (hs : SWO lt) (W0 : World) (B N c : Nat) (f : Nat → α) (W : World) (a m b : Nat) (kp wp : Value) (hC : CmpOk val lt W0 B kp wp) (hR : RS val W0 B N f W) (hm0 : a + 1 ≤ m) (hm1 : m ≤ a + 1) (hmb : m < b) (hb : b ≤ N) (hN : N ≤ 1099511627776) (s2 : SortedOn lt f m b) :
    Calls Tryz.prog 88 #[.slice (some ⟨B, 0, none⟩) N c, .int .i64 a, .int .i64 m, .int .i64 b, .func (.func 64) #[] #[kp, wp]] W (Merged val lt W0 B N f a b) := by
  have hB : ((m : Int) - (a : Int) == 1) = true := by simp; omega
  go_enter Tryz.func88, Tryz.ntmps88
  go_wp2
  go_loopw [10, 11] (fun iv jv wr => ∃ i j : Nat, iv = .int .i64 (i : Int) ∧ jv = .int .i64 (j : Int) ∧ m ≤ i ∧ i ≤ j ∧ j ≤ b ∧ RS val W0 B N f wr ∧ Hid ((i = m ∨ lt (f (i - 1)) (f a) = true) ∧ (j = b ∨ lt (f j) (f a) = false))) (fun iv jv _ => (intOf jv).toNat - (intOf iv).toNat)
  case atStart => exact ⟨m, b, rfl, rfl, by omega, by omega, by omega, hR, Lib.hid ⟨.inl rfl, .inl rfl⟩⟩
  case round =>
    obtain ⟨i, j, rfl, rfl, hmi, hij, hjb, hr, hF⟩ := hrel
    by_cases hlt : i < j
    · have hlB : decide ((i : Int) < (j : Int)) = true := by simp; omega
      obtain ⟨h, hh⟩ : ∃ h, h = (i + j) / 2 := ⟨_, rfl⟩
      have he : ((i : Int) + (j : Int)) / 2 = (h : Int) := by omega
      have h1 : i ≤ h := by omega
      have h2 : h < j := by omega
      clear hh
      have c0 := hr.cell h (by omega)
      have c1 := hr.cell a (by omega)
      obtain ⟨p0, n0, q0, v0⟩ := hr.sl (f h)
      obtain ⟨p1, n1, q1, v1⟩ := hr.sl (f a)
      have i2 : (0 : Int) ≤ (h : Int) := by omega
      have i3 : (h : Int) < (N : Int) := by omega
      have i4 : (0 : Int) ≤ (a : Int) := by omega
      have i5 : (a : Int) < (N : Int) := by omega
      rw [v0] at c0
      rw [v1] at c1
      have H0 : wr.cell? ⟨B, h, none⟩ = some (.slice p0 n0 q0) ∧ wr.cell? ⟨B, a, none⟩ = some (.slice p1 n1 q1) ∧ RS val W0 B N f wr := ⟨c0, c1, hr⟩
      replace v0 := Lib.hid v0
      replace v1 := Lib.hid v1
      clear hr c0 c1
      cases hl : lt (f h) (f a) with
      | true =>
        replace hl := Lib.hid hl
        go_wp2_with fail
        go_region_held3 (fun W => W.cell? ⟨B, h, none⟩ = some (.slice p0 n0 q0) ∧ W.cell? ⟨B, a, none⟩ = some (.slice p1 n1 q1) ∧ RS val W0 B N f W) (first | assumption | exact keepT (by assumption) (by assumption) | exact keepT0 (by assumption)) (first
          | (go_at_call 64; refine (hC.yesT (by assumption) v0.out v1.out hl.out).mono ?_; rintro e w3 ⟨d, rfl, hd, hb3⟩))
        rename_i hq
        go_wp2
        go_roundw
        case rel => exact ⟨h + 1, j, by go_num, rfl, by omega, by omega, by omega, hq.2.2, Lib.hid ⟨.inr (by rw [show h + 1 - 1 = h by omega]; exact hl.out), hF.out.2⟩⟩
        case measure => simp [intOf]; omega
      | false =>
        replace hl := Lib.hid hl
        go_wp2_with fail
        go_region_held3 (fun W => W.cell? ⟨B, h, none⟩ = some (.slice p0 n0 q0) ∧ W.cell? ⟨B, a, none⟩ = some (.slice p1 n1 q1) ∧ RS val W0 B N f W) (first | assumption | exact keepT (by assumption) (by assumption) | exact keepT0 (by assumption)) (first
          | (go_at_call 64; refine (hC.noT (by assumption) v0.out v1.out hl.out).mono ?_; rintro e w3 ⟨d, rfl, hd, hb3⟩))
        rename_i hq
        go_wp2
        go_roundw
        case rel => exact ⟨i, h, rfl, rfl, by omega, by omega, by omega, hq.2.2, Lib.hid ⟨hF.out.1, .inr hl.out⟩⟩
        case measure => simp [intOf]; omega
    · obtain rfl : i = j := by omega
      have hlB : decide ((i : Int) < (i : Int)) = false := by simp
      obtain rfl : m = a + 1 := by omega
      have ho := one_left hs s2 hmi hjb hF.out.1 hF.out.2
      replace ho := Lib.hid ho
      clear hR
      go_wp2
      go_loopw [13] (fun kv wr => ∃ k : Nat, kv = .int .i64 (k : Int) ∧ a ≤ k ∧ k + 1 ≤ i ∧ RS val W0 B N (rot f a (a + 1) (k + 1)) wr) (fun kv _ => i - (intOf kv).toNat)
      case atStart => exact ⟨a, rfl, by omega, by omega, by rw [rot_right_zero]; exact hr⟩
      case round =>
        clear hr
        obtain ⟨k, rfl, hak, hki, hr⟩ := hrel
        have w0 : IntKind.i64.wrap ((i : Int) - 1) = (i : Int) - 1 := IntWalk.i64_in _ (by omega)
        have w1 : wrap64 ((i : Int) - 1) = (i : Int) - 1 := by unfold wrap64; omega
        by_cases hk : k + 1 < i
        · have hkB : decide ((k : Int) < (i : Int) - 1) = true := by simp; omega
          have c0 := hr.cell k (by omega)
          have c1 := hr.cell (k + 1) (by omega)
          have f0 := hr.free k (by omega)
          have f1 := hr.free (k + 1) (by omega)
          have hsw := hr.drew.swap (i := k) (j := k + 1) (by omega) (by omega)
          rw [rot_right f hak] at hsw
          obtain ⟨p0, n0, q0, hx⟩ := hr.sl (rot f a (a + 1) (k + 1) k)
          obtain ⟨p1, n1, q1, hy⟩ := hr.sl (rot f a (a + 1) (k + 1) (k + 1))
          rw [hx] at c0 hsw
          rw [hy] at c1 hsw
          clear hx hy hr
          have i2 : (0 : Int) ≤ (k : Int) := by omega
          have i3 : (k : Int) < (N : Int) := by omega
          have i4 : (0 : Int) ≤ (k : Int) + 1 := by omega
          have i5 : (k : Int) + 1 < (N : Int) := by omega
          have e0 : ((k : Int) + 1).toNat = k + 1 := by omega
          replace hsw := Lib.hid hsw
          go_wp2
          go_region
          go_wp2
          go_roundw
          case rel => exact ⟨k + 1, by go_num, by omega, by omega, hsw.out⟩
          case measure => simp [intOf]; omega
        · have hkB : decide ((k : Int) < (i : Int) - 1) = false := by simp; omega
          obtain rfl : i = k + 1 := by omega
          go_wp2
          go_end0
          exact ⟨rfl, _, hr, ho.out.1, ho.out.2⟩

set_option maxHeartbeats 4000000 in
theorem merge_right (val : α → Value) (lt : α → α → Bool) (hs : SWO lt) (W0 : World) (B N c : Nat) (f : Nat → α) (W : World) (a m b : Nat) (kp wp : Value) (hC : CmpOk val lt W0 B kp wp) (hR : RS val W0 B N f W) (hm0 : a + 1 < m) (hb0 : m + 1 ≤ b) (hb1 : b ≤ m + 1) (hb : b ≤ N) (hN : N ≤ 1099511627776) (s1 : SortedOn lt f a m) :
    Calls Tryz.prog 88 #[.slice (some ⟨B, 0, none⟩) N c, .int .i64 a, .int .i64 m, .int .i64 b, .func (.func 64) #[] #[kp, wp]] W (Merged val lt W0 B N f a b) := by
  have hA : ((m : Int) - (a : Int) == 1) = false := by simp; omega
  have hB : ((b : Int) - (m : Int) == 1) = true := by simp; omega
  go_enter Tryz.func88, Tryz.ntmps88
  go_wp2
  go_loopw [14, 15] (fun iv jv wr => ∃ i j : Nat, iv = .int .i64 (i : Int) ∧ jv = .int .i64 (j : Int) ∧ a ≤ i ∧ i ≤ j ∧ j ≤ m ∧ RS val W0 B N f wr ∧ Hid ((i = a ∨ lt (f m) (f (i - 1)) = false) ∧ (j = m ∨ lt (f m) (f j) = true))) (fun iv jv _ => (intOf jv).toNat - (intOf iv).toNat)
  case atStart => exact ⟨a, m, rfl, rfl, by omega, by omega, by omega, hR, Lib.hid ⟨.inl rfl, .inl rfl⟩⟩
  case round =>
    obtain ⟨i, j, rfl, rfl, hmi, hij, hjb, hr, hF⟩ := hrel
    by_cases hlt : i < j
    · have hlB : decide ((i : Int) < (j : Int)) = true := by simp; omega
      obtain ⟨h, hh⟩ : ∃ h, h = (i + j) / 2 := ⟨_, rfl⟩
      have he : ((i : Int) + (j : Int)) / 2 = (h : Int) := by omega
      have h1 : i ≤ h := by omega
      have h2 : h < j := by omega
      clear hh
      have c0 := hr.cell m (by omega)
      have c1 := hr.cell h (by omega)
      obtain ⟨p0, n0, q0, v0⟩ := hr.sl (f m)
      obtain ⟨p1, n1, q1, v1⟩ := hr.sl (f h)
      have i2 : (0 : Int) ≤ (h : Int) := by omega
      have i3 : (h : Int) < (N : Int) := by omega
      have i4 : (0 : Int) ≤ (m : Int) := by omega
      have i5 : (m : Int) < (N : Int) := by omega
      rw [v0] at c0
      rw [v1] at c1
      have H0 : wr.cell? ⟨B, m, none⟩ = some (.slice p0 n0 q0) ∧ wr.cell? ⟨B, h, none⟩ = some (.slice p1 n1 q1) ∧ RS val W0 B N f wr := ⟨c0, c1, hr⟩
      replace v0 := Lib.hid v0
      replace v1 := Lib.hid v1
      clear hr c0 c1
      cases hl : lt (f m) (f h) with
      | true =>
        replace hl := Lib.hid hl
        go_wp2_with fail
        go_region_held3 (fun W => W.cell? ⟨B, m, none⟩ = some (.slice p0 n0 q0) ∧ W.cell? ⟨B, h, none⟩ = some (.slice p1 n1 q1) ∧ RS val W0 B N f W) (first | assumption | exact keepT (by assumption) (by assumption) | exact keepT0 (by assumption)) (first
          | (go_at_call 64; refine (hC.yesT (by assumption) v0.out v1.out hl.out).mono ?_; rintro e w3 ⟨d, rfl, hd, hb3⟩))
        rename_i hq
        go_wp2
        go_roundw
        case rel => exact ⟨i, h, rfl, rfl, by omega, by omega, by omega, hq.2.2, Lib.hid ⟨hF.out.1, .inr hl.out⟩⟩
        case measure => simp [intOf]; omega
      | false =>
        replace hl := Lib.hid hl
        go_wp2_with fail
        go_region_held3 (fun W => W.cell? ⟨B, m, none⟩ = some (.slice p0 n0 q0) ∧ W.cell? ⟨B, h, none⟩ = some (.slice p1 n1 q1) ∧ RS val W0 B N f W) (first | assumption | exact keepT (by assumption) (by assumption) | exact keepT0 (by assumption)) (first
          | (go_at_call 64; refine (hC.noT (by assumption) v0.out v1.out hl.out).mono ?_; rintro e w3 ⟨d, rfl, hd, hb3⟩))
        rename_i hq
        go_wp2
        go_roundw
        case rel => exact ⟨h + 1, j, by go_num, rfl, by omega, by omega, by omega, hq.2.2, Lib.hid ⟨.inr (by rw [show h + 1 - 1 = h by omega]; exact hl.out), hF.out.2⟩⟩
        case measure => simp [intOf]; omega
    · obtain rfl : i = j := by omega
      have hlB : decide ((i : Int) < (i : Int)) = false := by simp
      obtain rfl : b = m + 1 := by omega
      have ho := one_right hs s1 hmi hjb hF.out.1 hF.out.2
      replace ho := Lib.hid ho
      clear hR
      go_wp2
      go_loopw [17] (fun kv wr => ∃ k : Nat, kv = .int .i64 (k : Int) ∧ i ≤ k ∧ k ≤ m ∧ RS val W0 B N (rot f k m (m + 1)) wr) (fun kv _ => (intOf kv).toNat)
      case atStart => exact ⟨m, rfl, by omega, by omega, by rw [rot_left_zero]; exact hr⟩
      case round =>
        clear hr
        obtain ⟨k, rfl, hik, hkm, hr⟩ := hrel
        by_cases hk : i < k
        · have hkB : decide ((k : Int) > (i : Int)) = true := by simp; omega
          have c0 := hr.cell k (by omega)
          have c1 := hr.cell (k - 1) (by omega)
          have f0 := hr.free k (by omega)
          have f1 := hr.free (k - 1) (by omega)
          have hsw := hr.drew.swap (i := k) (j := k - 1) (by omega) (by omega)
          have hrl := rot_left f (k := k - 1) (m := m) (by omega)
          rw [show k - 1 + 1 = k by omega] at hrl
          rw [hrl] at hsw
          obtain ⟨p0, n0, q0, hx⟩ := hr.sl (rot f k m (m + 1) k)
          obtain ⟨p1, n1, q1, hy⟩ := hr.sl (rot f k m (m + 1) (k - 1))
          rw [hx] at c0 hsw
          rw [hy] at c1 hsw
          clear hx hy hr hrl
          have i2 : (0 : Int) ≤ (k : Int) := by omega
          have i3 : (k : Int) < ((N : Nat) : Int) := by omega
          have i4 : (0 : Int) ≤ (k : Int) - 1 := by omega
          have i5 : (k : Int) - 1 < (N : Int) := by omega
          have e0 : ((k : Int) - 1).toNat = k - 1 := by omega
          have jj : ((k - 1 : Nat) : Int) = (k : Int) - 1 := by omega
          replace hsw := Lib.hid hsw
          replace jj := Lib.hid jj
          go_wp2
          go_region
          go_wp2
          go_roundw
          case rel => exact ⟨k - 1, by rw [jj.out], by omega, by omega, hsw.out⟩
          case measure => simp [intOf]; omega
        · have hkB : decide ((k : Int) > (i : Int)) = false := by simp; omega
          obtain rfl : i = k := by omega
          go_wp2
          go_end0
          exact ⟨rfl, _, hr, ho.out.1, ho.out.2⟩
end Go.Proofs.YtdapnemcdgjeeaaGreatDoor.Srt

namespace Go.Proofs.YtdapnemcdgjeeaaGreatDoor.Srt
open Go.RowKit Go.Proofs.YtdapnemcdgjeeaaGreatDoor.Stb
variable {α : Type}

theorem rot_no (f : Nat → α) (m b : Nat) : rot f m m b = f := by
  funext k
  unfold rot
  repeat' split
  all_goals first | rfl | (exfalso; omega) | (congr 1; omega)
theorem rot_no2 (f : Nat → α) (a m : Nat) : rot f a m m = f := by
  funext k
  unfold rot
  repeat' split
  all_goals first | rfl | (exfalso; omega) | (congr 1; omega)

set_option maxHeartbeats 4000000 in
theorem merge_any (val : α → Value) (lt : α → α → Bool) (hs : SWO lt) (W0 : World) (B N c : Nat) (kp wp : Value) (hC : CmpOk val lt W0 B kp wp) (hN : N ≤ 1099511627776) : ∀ (n : Nat) (f : Nat → α) (W : World) (a m b : Nat), b - a ≤ n → RS val W0 B N f W → a < m → m < b → b ≤ N → SortedOn lt f a m → SortedOn lt f m b →
    Calls Tryz.prog 88 #[.slice (some ⟨B, 0, none⟩) N c, .int .i64 a, .int .i64 m, .int .i64 b, .func (.func 64) #[] #[kp, wp]] W (Merged val lt W0 B N f a b) := by
  intro n
  induction n with
  | zero => intro f W a m b h _ h1 h2; omega
  | succ n ih =>
  intro f W a m b hn hR ham hmb hb s1 s2
  by_cases x1 : m ≤ a + 1
  · exact merge_left val lt hs W0 B N c f W a m b kp wp hC hR ham x1 hmb hb hN s2
  by_cases x2 : b ≤ m + 1
  · exact merge_right val lt hs W0 B N c f W a m b kp wp hC hR (by omega) hmb x2 hb hN s1
  obtain ⟨mid, hmid⟩ : ∃ mid, mid = (a + b) / 2 := ⟨_, rfl⟩
  have he : ((a : Int) + (b : Int)) / 2 = (mid : Int) := by omega
  have hm1 : a < mid := by omega
  have hm2 : mid < b := by omega
  obtain ⟨st0, hst⟩ : ∃ st0, st0 = if m > mid then mid + m - b else a := ⟨_, rfl⟩
  obtain ⟨r0, hr0⟩ : ∃ r0, r0 = if m > mid then mid else m := ⟨_, rfl⟩
  have q1 : a ≤ st0 := by split at hst <;> omega
  have q2 : st0 ≤ r0 := by split at hst <;> split at hr0 <;> omega
  have q3 : r0 ≤ m := by split at hr0 <;> omega
  have q4 : r0 ≤ mid := by split at hr0 <;> omega
  have q5 : mid + m ≤ st0 + b := by split at hst <;> omega
  have hcase : (mid < m ∧ (st0 : Int) = (mid : Int) + (m : Int) - (b : Int) ∧ (r0 : Int) = (mid : Int)) ∨ (¬ mid < m ∧ (st0 : Int) = (a : Int) ∧ (r0 : Int) = (m : Int)) := by
    by_cases h : mid < m
    · rw [if_pos h] at hst hr0; left; omega
    · rw [if_neg h] at hst hr0; right; omega
  have hsr := Lib.hid (And.intro hst hr0)
  replace hmid := Lib.hid hmid
  replace hcase := Lib.hid hcase
  have hA : ((m : Int) - (a : Int) == 1) = false := by simp; omega
  have hB : ((b : Int) - (m : Int) == 1) = false := by simp; omega
  clear hst hr0
  go_enter Tryz.func88, Tryz.ntmps88
  go_upto_if 140 with fail
  go_cut [20, 21] from 141 to 146 (fun s r W' => s = .int .i64 (st0 : Int) ∧ r = .int .i64 (r0 : Int) ∧ W' = W)
  case first =>
    rcases hcase.out with ⟨hg, e1, e2⟩ | ⟨hg, e1, e2⟩
    · have hG : decide ((m : Int) > (mid : Int)) = true := by simp; omega
      replace e1 := Lib.hid e1
      replace e2 := Lib.hid e2
      go_wp2_with fail
      go_meet
      exact ⟨by rw [e1.out], by rw [e2.out], rfl⟩
    · have hG : decide ((m : Int) > (mid : Int)) = false := by simp; omega
      replace e1 := Lib.hid e1
      replace e2 := Lib.hid e2
      go_wp2_with fail
      go_meet
      exact ⟨by rw [e1.out], by rw [e2.out], rfl⟩
  case rest =>
  obtain ⟨rfl, rfl, hwc⟩ := hcut
  subst hwc
  go_wp2_with fail
  go_loopw [20, 21] (fun iv jv wr => ∃ i j : Nat, iv = .int .i64 (i : Int) ∧ jv = .int .i64 (j : Int) ∧ st0 ≤ i ∧ i ≤ j ∧ j ≤ r0 ∧ RS val W0 B N f wr ∧ Hid ((i = st0 ∨ lt (f (mid + m - i)) (f (i - 1)) = false) ∧ (j = r0 ∨ lt (f (mid + m - 1 - j)) (f j) = true))) (fun iv jv _ => (intOf jv).toNat - (intOf iv).toNat)
  case atStart => exact ⟨st0, r0, rfl, rfl, by omega, by omega, by omega, hR, Lib.hid ⟨.inl rfl, .inl rfl⟩⟩
  case round =>
  obtain ⟨i, j, rfl, rfl, hmi, hij, hjb, hr, hF⟩ := hrel
  by_cases hlt : i < j
  · have hlB : decide ((i : Int) < (j : Int)) = true := by simp; omega
    obtain ⟨h, hh⟩ : ∃ h, h = (i + j) / 2 := ⟨_, rfl⟩
    have heh : ((i : Int) + (j : Int)) / 2 = (h : Int) := by omega
    have h1 : i ≤ h := by omega
    have h2 : h < j := by omega
    clear hh
    obtain ⟨p, hp⟩ : ∃ p, p = mid + m - 1 - h := ⟨_, rfl⟩
    have hp' : (mid : Int) + (m : Int) - 1 - (h : Int) = (p : Int) := by omega
    have hpN : p < N := by omega
    have e9 : f (mid + m - (h + 1)) = f p := by rw [show mid + m - (h + 1) = p by omega]
    have e8 : f (mid + m - 1 - h) = f p := by rw [hp]
    replace e9 := Lib.hid e9
    replace e8 := Lib.hid e8
    have c0 := hr.cell p hpN
    have c1 := hr.cell h (by omega)
    obtain ⟨p0, n0, q0, v0⟩ := hr.sl (f p)
    obtain ⟨p1, n1, q1, v1⟩ := hr.sl (f h)
    have i2 : (0 : Int) ≤ (h : Int) := by omega
    have i3 : (h : Int) < (N : Int) := by omega
    have i4 : (0 : Int) ≤ (p : Int) := by omega
    have i5 : (p : Int) < (N : Int) := by omega
    have w2 : IntKind.i64.wrap (p : Int) = (p : Int) := IntWalk.i64_in _ (by omega)
    have w3 : wrap64 (p : Int) = (p : Int) := by unfold wrap64; omega
    rw [v0] at c0
    rw [v1] at c1
    have H0 : wr.cell? ⟨B, p, none⟩ = some (.slice p0 n0 q0) ∧ wr.cell? ⟨B, h, none⟩ = some (.slice p1 n1 q1) ∧ RS val W0 B N f wr := ⟨c0, c1, hr⟩
    replace v0 := Lib.hid v0
    replace v1 := Lib.hid v1
    clear hp hr c0 c1 hR ih
    cases hl : lt (f p) (f h) with
    | true =>
      replace hl := Lib.hid hl
      go_wp2_with fail
      go_region_held3 (fun W => W.cell? ⟨B, p, none⟩ = some (.slice p0 n0 q0) ∧ W.cell? ⟨B, h, none⟩ = some (.slice p1 n1 q1) ∧ RS val W0 B N f W) (first | assumption | exact keepT (by assumption) (by assumption) | exact keepT0 (by assumption)) (first
        | (go_at_call 64; refine (hC.yesT (by assumption) v0.out v1.out hl.out).mono ?_; rintro e w3 ⟨d, rfl, hd, hb3⟩))
      rename_i hq
      go_wp2
      go_roundw
      case rel => exact ⟨i, h, rfl, rfl, by omega, by omega, by omega, hq.2.2, Lib.hid ⟨hF.out.1, .inr (by rw [e8.out]; exact hl.out)⟩⟩
      case measure => simp [intOf]; omega
    | false =>
      replace hl := Lib.hid hl
      go_wp2_with fail
      go_region_held3 (fun W => W.cell? ⟨B, p, none⟩ = some (.slice p0 n0 q0) ∧ W.cell? ⟨B, h, none⟩ = some (.slice p1 n1 q1) ∧ RS val W0 B N f W) (first | assumption | exact keepT (by assumption) (by assumption) | exact keepT0 (by assumption)) (first
        | (go_at_call 64; refine (hC.noT (by assumption) v0.out v1.out hl.out).mono ?_; rintro e w3 ⟨d, rfl, hd, hb3⟩))
      rename_i hq
      go_wp2
      go_roundw
      case rel => exact ⟨h + 1, j, by go_num, rfl, by omega, by omega, by omega, hq.2.2, Lib.hid ⟨.inr (by rw [Nat.add_sub_cancel, e9.out]; exact hl.out), hF.out.2⟩⟩
      case measure => simp [intOf]; omega
  obtain rfl : i = j := by omega
  have hlB : decide ((i : Int) < (i : Int)) = false := by simp
  have hFo : Stb.Found lt f (mid + m) (if m > mid then mid + m - b else a) (if m > mid then mid else m) i := by
    rw [← hsr.out.1, ← hsr.out.2]
    exact ⟨hmi, hjb, hF.out.1, hF.out.2⟩
  have hends := found_ends ham hmb hmid.out hFo
  have hsd := found_sorted ham hmb hmid.out s1 s2 hFo
  have hx := found_cross hs ham hmb hmid.out s1 s2 hFo
  have hmv := found_moved hs ham hmb hmid.out s1 s2 hFo
  obtain ⟨E, hE⟩ : ∃ E, E = mid + m - i := ⟨_, rfl⟩
  rw [← hE] at hends hsd hx hmv
  have hE' : (mid : Int) + (m : Int) - (i : Int) = (E : Int) := by omega
  replace hsd := Lib.hid hsd
  replace hx := Lib.hid hx
  replace hmv := Lib.hid hmv
  replace hE := Lib.hid hE
  clear hFo hF hR hsr
  have hrs := hr
  clear hr
  -- TAIL
  go_upto_region 39 with fail
  go_cut [185] from 178 to 185 (fun v W => v = .bool (decide (i < m ∧ m < E)) ∧ RS val W0 B N f W)
  case first =>
    by_cases h1 : i < m
    · have b1 : decide ((i : Int) < (m : Int)) = true := by simp; omega
      by_cases h2 : m < E
      · have b2 : decide ((m : Int) < (E : Int)) = true := by simp; omega
        have hd : decide (i < m ∧ m < E) = true := decide_eq_true ⟨h1, h2⟩
        replace hd := Lib.hid hd
        go_wp2_with fail
        go_meet
        exact ⟨by rw [hd.out], hrs⟩
      · have b2 : decide ((m : Int) < (E : Int)) = false := by simp; omega
        have hd : decide (i < m ∧ m < E) = false := decide_eq_false (fun h => h2 h.2)
        replace hd := Lib.hid hd
        go_wp2_with fail
        go_meet
        exact ⟨by rw [hd.out], hrs⟩
    · have b1 : decide ((i : Int) < (m : Int)) = false := by simp; omega
      have hd : decide (i < m ∧ m < E) = false := decide_eq_false (fun h => h1 h.1)
      replace hd := Lib.hid hd
      go_wp2_with fail
      go_meet
      exact ⟨by rw [hd.out], hrs⟩
  case rest =>
  clear hrs
  obtain ⟨rfl, hrs⟩ := hcut
  go_upto_if 185 with fail
  go_cut [] from 185 to 191 (fun W' => RS val W0 B N (rot f i m E) W')
  case first =>
    by_cases hrr : i < m ∧ m < E
    · have hd : decide (i < m ∧ m < E) = true := decide_eq_true hrr
      have hc := rotate_any val W0 B N c f _ i m E (.func (.func 64) #[] #[kp, wp]) hrs hrr.1 hrr.2 (by omega) hN
      rw [hd]
      go_wp2_with (go_at_call 112; refine hc.mono ?_; rintro e w1 ⟨rfl, hr1⟩)
      go_meet
      exact hr1
    · have hd : decide (i < m ∧ m < E) = false := decide_eq_false hrr
      rw [hd]
      go_wp2_with fail
      go_meet
      by_cases h1 : i < m
      · rw [show E = m by omega, rot_no2]; exact hrs
      · rw [show i = m by omega, rot_no]; exact hrs
  case rest =>
  clear hrs
  obtain ⟨g, hg⟩ : ∃ g, g = rot f i m E := ⟨_, rfl⟩
  rw [← hg] at hcut
  have hgm := hmv.out
  have hgx := hx.out
  have hgs := hsd.out
  rw [← hg] at hgm hgx hgs
  clear hg hmv hx hsd
  replace hgm := Lib.hid hgm
  replace hgx := Lib.hid hgx
  replace hgs := Lib.hid hgs
  have hrs := hcut
  clear hcut
  go_upto_region 41 with fail
  go_cut [199] from 192 to 199 (fun v W => v = .bool (decide (a < i ∧ i < mid)) ∧ RS val W0 B N g W)
  case first =>
    by_cases h1 : a < i
    · have b1 : decide ((a : Int) < (i : Int)) = true := by simp; omega
      by_cases h2 : i < mid
      · have b2 : decide ((i : Int) < (mid : Int)) = true := by simp; omega
        have hd : decide (a < i ∧ i < mid) = true := decide_eq_true ⟨h1, h2⟩
        replace hd := Lib.hid hd
        go_wp2_with fail
        go_meet
        exact ⟨by rw [hd.out], hrs⟩
      · have b2 : decide ((i : Int) < (mid : Int)) = false := by simp; omega
        have hd : decide (a < i ∧ i < mid) = false := decide_eq_false (fun h => h2 h.2)
        replace hd := Lib.hid hd
        go_wp2_with fail
        go_meet
        exact ⟨by rw [hd.out], hrs⟩
    · have b1 : decide ((a : Int) < (i : Int)) = false := by simp; omega
      have hd : decide (a < i ∧ i < mid) = false := decide_eq_false (fun h => h1 h.1)
      replace hd := Lib.hid hd
      go_wp2_with fail
      go_meet
      exact ⟨by rw [hd.out], hrs⟩
  case rest =>
  clear hrs
  obtain ⟨rfl, hrs⟩ := hcut
  go_upto_if 199 with fail
  go_cut [] from 199 to 205 (fun W' => ∃ g1, RS val W0 B N g1 W' ∧ Moved lt g g1 a mid ∧ SortedOn lt g1 a mid)
  case first =>
    by_cases hrr : a < i ∧ i < mid
    · have hd : decide (a < i ∧ i < mid) = true := decide_eq_true hrr
      have hc := ih g _ a i mid (by omega) hrs hrr.1 hrr.2 (by omega) hgs.out.1 hgs.out.2.1
      rw [hd]
      go_wp2_with (go_at_call 88; refine hc.mono ?_; rintro e w1 ⟨rfl, hr1⟩)
      go_meet
      exact hr1
    · have hd : decide (a < i ∧ i < mid) = false := decide_eq_false hrr
      have hsa : SortedOn lt g a mid := by
        by_cases h1 : a < i
        · have e : i = mid := by omega
          rw [← e]; exact hgs.out.1
        · have e : a = i := by omega
          rw [e]; exact hgs.out.2.1
      replace hsa := Lib.hid hsa
      rw [hd]
      go_wp2_with fail
      go_meet
      exact ⟨g, hrs, Moved.refl _ _ _ _, hsa.out⟩
  case rest =>
  clear hrs
  obtain ⟨g1, hrs, hm1', hs1'⟩ := hcut
  have hgs3 : SortedOn lt g1 mid E := hgs.out.2.2.1.congr fun k hk _ => hm1'.1 k (.inr hk)
  have hgs4 : SortedOn lt g1 E b := hgs.out.2.2.2.congr fun k hk _ => hm1'.1 k (.inr (by omega))
  have hfin : ∀ g2, Moved lt g1 g2 mid b → SortedOn lt g2 mid b → Moved lt f g2 a b ∧ SortedOn lt g2 a b := fun g2 h1 h2 => by
    obtain ⟨k1, k2⟩ := halves (by omega) (by omega) hgx.out hm1' hs1' h1 h2
    exact ⟨hgm.out.trans k1, k2⟩
  replace hgs3 := Lib.hid hgs3
  replace hgs4 := Lib.hid hgs4
  replace hfin := Lib.hid hfin
  clear hm1' hs1' hgx hgs hgm
  go_upto_region 43 with fail
  go_cut [213] from 206 to 213 (fun v W => v = .bool (decide (mid < E ∧ E < b)) ∧ RS val W0 B N g1 W)
  case first =>
    by_cases h1 : mid < E
    · have b1 : decide ((mid : Int) < (E : Int)) = true := by simp; omega
      by_cases h2 : E < b
      · have b2 : decide ((E : Int) < (b : Int)) = true := by simp; omega
        have hd : decide (mid < E ∧ E < b) = true := decide_eq_true ⟨h1, h2⟩
        replace hd := Lib.hid hd
        go_wp2_with fail
        go_meet
        exact ⟨by rw [hd.out], hrs⟩
      · have b2 : decide ((E : Int) < (b : Int)) = false := by simp; omega
        have hd : decide (mid < E ∧ E < b) = false := decide_eq_false (fun h => h2 h.2)
        replace hd := Lib.hid hd
        go_wp2_with fail
        go_meet
        exact ⟨by rw [hd.out], hrs⟩
    · have b1 : decide ((mid : Int) < (E : Int)) = false := by simp; omega
      have hd : decide (mid < E ∧ E < b) = false := decide_eq_false (fun h => h1 h.1)
      replace hd := Lib.hid hd
      go_wp2_with fail
      go_meet
      exact ⟨by rw [hd.out], hrs⟩
  case rest =>
  clear hrs
  obtain ⟨rfl, hrs⟩ := hcut
  by_cases hrr : mid < E ∧ E < b
  · have hd : decide (mid < E ∧ E < b) = true := decide_eq_true hrr
    have hc := ih g1 _ mid E b (by omega) hrs hrr.1 hrr.2 (by omega) hgs3.out hgs4.out
    rw [hd]
    go_wp2_with (go_at_call 88; refine hc.mono ?_; rintro e w1 ⟨rfl, g2, hr2, hm2', hs2'⟩)
    go_end0
    exact ⟨rfl, g2, hr2, hfin.out g2 hm2' hs2'⟩
  · have hd : decide (mid < E ∧ E < b) = false := decide_eq_false hrr
    have hsa : SortedOn lt g1 mid b := by
      by_cases h1 : mid < E
      · have e : E = b := by omega
        rw [← e]; exact hgs3.out
      · have e : mid = E := by omega
        rw [e]; exact hgs4.out
    replace hsa := Lib.hid hsa
    rw [hd]
    go_wp2_with fail
    go_end0
    exact ⟨rfl, g1, hrs, hfin.out g1 (Moved.refl _ _ _ _) hsa.out⟩

end Go.Proofs.YtdapnemcdgjeeaaGreatDoor.Srt

namespace Go.Proofs.YtdapnemcdgjeeaaGreatDoor.Srt
open Go.RowKit Go.Proofs.YtdapnemcdgjeeaaGreatDoor.Stb
variable {α : Type}

theorem dvd_next {d a x : Nat} (h1 : d ∣ a) (h2 : d ∣ x) (h : a < x) : a + d ≤ x := by
  have h3 := Nat.dvd_sub h2 h1
  have := Nat.le_of_dvd (by omega) h3
  omega
/-- every block of so many places is in order -/
def SB (lt : α → α → Bool) (g : Nat → α) (bs n : Nat) : Prop := ∀ x, bs ∣ x → SortedOn lt g x (min (x + bs) n)
/-- so many blocks are in order -/
def Fst (lt : α → α → Bool) (g : Nat → α) (bs a : Nat) : Prop := ∀ x, bs ∣ x → x + bs ≤ a → SortedOn lt g x (x + bs)
theorem Fst.zero {lt : α → α → Bool} {g : Nat → α} {bs : Nat} (h : 0 < bs) : Fst lt g bs 0 := fun x _ hx => by omega
theorem Fst.step {lt : α → α → Bool} {g g' : Nat → α} {bs a : Nat} (h : Fst lt g bs a) (hd : bs ∣ a) (hb : 0 < bs) (hm : Moved lt g g' a (a + bs)) (hs : SortedOn lt g' a (a + bs)) : Fst lt g' bs (a + bs) := by
  intro x hx hxa
  rcases Nat.lt_trichotomy x a with c | c | c
  · have := dvd_next hx hd c
    exact (h x hx this).congr fun k _ hk => hm.1 k (.inl (by omega))
  · rw [c]; exact hs
  · have := dvd_next hd hx c; omega
theorem Fst.done {lt : α → α → Bool} {g g' : Nat → α} {bs a n : Nat} (h : Fst lt g bs a) (hd : bs ∣ a) (han : a ≤ n) (hn : n < a + bs) (hm : Moved lt g g' a n) (hs : SortedOn lt g' a n) : SB lt g' bs n := by
  intro x hx
  rcases Nat.lt_trichotomy x a with c | c | c
  · have := dvd_next hx hd c
    rw [Nat.min_eq_left (by omega)]
    exact (h x hx this).congr fun k _ hk => hm.1 k (.inl (by omega))
  · rw [c, Nat.min_eq_right (by omega)]; exact hs
  · have := dvd_next hd hx c
    intro i j hi hij hj
    have : j < n := by omega
    omega
/-- of the blocks of so many places those behind a are in order still, those ahead of it are merged two and two -/
def Half (lt : α → α → Bool) (g : Nat → α) (bs a n : Nat) : Prop := Fst lt g (2 * bs) a ∧ ∀ x, bs ∣ x → a ≤ x → SortedOn lt g x (min (x + bs) n)
theorem Half.start {lt : α → α → Bool} {g : Nat → α} {bs n : Nat} (h : SB lt g bs n) (hb : 0 < bs) : Half lt g bs 0 n := ⟨Fst.zero (by omega), fun x hx _ => h x hx⟩
theorem dvd_half {bs a : Nat} (h : 2 * bs ∣ a) : bs ∣ a := Nat.dvd_trans ⟨2, by omega⟩ h
theorem Half.left {lt : α → α → Bool} {g : Nat → α} {bs a n : Nat} (h : Half lt g bs a n) (hd : 2 * bs ∣ a) (hn : a + bs ≤ n) : SortedOn lt g a (a + bs) := by
  have := h.2 a (dvd_half hd) (Nat.le_refl _)
  rwa [Nat.min_eq_left hn] at this
theorem Half.right {lt : α → α → Bool} {g : Nat → α} {bs a n b : Nat} (h : Half lt g bs a n) (hd : 2 * bs ∣ a) (hb : b = min (a + 2 * bs) n) : SortedOn lt g (a + bs) b := by
  have := h.2 (a + bs) ((Nat.dvd_add_right (dvd_half hd)).2 (Nat.dvd_refl _)) (by omega)
  rwa [show a + bs + bs = a + 2 * bs by omega, ← hb] at this
theorem Half.step {lt : α → α → Bool} {g g' : Nat → α} {bs a n : Nat} (h : Half lt g bs a n) (hd : 2 * bs ∣ a) (hb : 0 < bs) (hm : Moved lt g g' a (a + 2 * bs)) (hs : SortedOn lt g' a (a + 2 * bs)) : Half lt g' bs (a + 2 * bs) n :=
  ⟨h.1.step hd (by omega) hm hs, fun x hx ha => (h.2 x hx (by omega)).congr fun k hk _ => hm.1 k (.inr (by omega))⟩
theorem Half.done {lt : α → α → Bool} {g g' : Nat → α} {bs a n : Nat} (h : Half lt g bs a n) (hd : 2 * bs ∣ a) (han : a ≤ n) (hn : n < a + 2 * bs) (hm : Moved lt g g' a n) (hs : SortedOn lt g' a n) : SB lt g' (2 * bs) n := h.1.done hd han hn hm hs
theorem Half.all {lt : α → α → Bool} {g : Nat → α} {bs a n : Nat} (h : Half lt g bs a n) (hd : 2 * bs ∣ a) (hn : n ≤ a + bs) : SortedOn lt g a n := by
  have := h.2 a (dvd_half hd) (Nat.le_refl _)
  rwa [Nat.min_eq_right hn] at this

set_option maxHeartbeats 4000000 in
theorem stable_any (val : α → Value) (lt : α → α → Bool) (hs : SWO lt) (W0 : World) (B N c : Nat) (kp wp : Value) (f : Nat → α) (W : World) (hC : CmpOk val lt W0 B kp wp) (hN : N ≤ 1099511627776) (hR : RS val W0 B N f W) :
    Calls Tryz.prog 63 #[.slice (some ⟨B, 0, none⟩) N c, .int .i64 N, .func (.func 64) #[] #[kp, wp]] W (Merged val lt W0 B N f 0 N) := by
  go_enter Tryz.func63, Tryz.ntmps63
  go_wp2
  go_loopw [7, 8] (fun av bv wr => ∃ (a b : Nat) (g : Nat → α), av = .int .i64 (a : Int) ∧ bv = .int .i64 (b : Int) ∧ a ≤ N ∧ a + 20 ≤ b ∧ b ≤ a + 20 ∧ RS val W0 B N g wr ∧ Hid (20 ∣ a ∧ Moved lt f g 0 N ∧ Fst lt g 20 a)) (fun av _ _ => N - (intOf av).toNat)
  case atStart => exact ⟨0, 20, f, rfl, rfl, by omega, by omega, by omega, hR, Lib.hid ⟨⟨0, rfl⟩, Moved.refl _ _ _ _, Fst.zero (by omega)⟩⟩
  case round =>
  obtain ⟨a, b, g, rfl, rfl, haN, hb1, hb2, hr, hF⟩ := hrel
  by_cases hlt : b ≤ N
  · have hlB : decide ((b : Int) ≤ (N : Int)) = true := by simp; omega
    have hc := insertion_any val lt hs W0 B N c g wr a b kp wp hC hr (by omega) hlt hN
    clear hR
    go_wp2_with (go_at_call 87; refine hc.mono ?_; rintro e w1 ⟨rfl, g1, hr1, hm1, hs1⟩; replace hm1 := Lib.hid hm1; replace hs1 := Lib.hid hs1)
    have hnew : 20 ∣ b ∧ Moved lt f g1 0 N ∧ Fst lt g1 20 b := by
      obtain ⟨d1, d2, d3⟩ := hF.out
      have hm := hm1.out
      have hs' := hs1.out
      have e : b = a + 20 := by omega
      rw [e] at hm hs' ⊢
      exact ⟨(Nat.dvd_add_right d1).2 (Nat.dvd_refl _), d2.trans (hm.wide (Nat.zero_le _) (by omega) (by omega)), d3.step d1 (by omega) hm hs'⟩
    replace hnew := Lib.hid hnew
    go_roundw
    case rel => exact ⟨b, b + 20, g1, rfl, by go_num, by omega, by omega, by omega, hr1, hnew⟩
    case measure => simp [intOf]; omega
  have hlB : decide ((b : Int) ≤ (N : Int)) = false := by simp; omega
  have hc := insertion_any val lt hs W0 B N c g wr a N kp wp hC hr haN (Nat.le_refl _) hN
  clear hR
  go_wp2_with (go_at_call 87; refine hc.mono ?_; rintro e w1 ⟨rfl, g1, hr1, hm1, hs1⟩; replace hm1 := Lib.hid hm1; replace hs1 := Lib.hid hs1)
  have hsb : Moved lt f g1 0 N ∧ SB lt g1 20 N := ⟨hF.out.2.1.trans (hm1.out.wide (Nat.zero_le _) haN (Nat.le_refl _)), hF.out.2.2.done hF.out.1 haN (by omega) hm1.out hs1.out⟩
  replace hsb := Lib.hid hsb
  clear hF hm1 hs1 hr hc
  go_loopw [6] (fun sv wr => ∃ (bs : Nat) (g : Nat → α), sv = .int .i64 (bs : Int) ∧ 0 < bs ∧ bs ≤ 2 * N + 20 ∧ RS val W0 B N g wr ∧ Hid (Moved lt f g 0 N ∧ SB lt g bs N)) (fun sv _ => N - (intOf sv).toNat)
  case atStart => exact ⟨20, g1, rfl, by omega, by omega, hr1, hsb⟩
  case round =>
  clear hr1 hsb hlB hb1 hb2 hlt haN
  obtain ⟨bs, g, rfl, hb0, hbN, hr, hF⟩ := hrel
  by_cases hlt : bs < N
  · have hlB : decide ((bs : Int) < (N : Int)) = true := by simp; omega
    have j2 : ((2 * bs : Nat) : Int) = 2 * (bs : Int) := by omega
    have j3 : ((bs * 2 : Nat) : Int) = (bs : Int) * 2 := by omega
    replace j2 := Lib.hid j2
    replace j3 := Lib.hid j3
    go_wp2
    go_loopw [7, 8] (fun av bv wr => ∃ (a b : Nat) (h : Nat → α), av = .int .i64 (a : Int) ∧ bv = .int .i64 (b : Int) ∧ a ≤ N ∧ a + 2 * bs ≤ b ∧ b ≤ a + 2 * bs ∧ RS val W0 B N h wr ∧ Hid (2 * bs ∣ a ∧ Moved lt f h 0 N ∧ Half lt h bs a N)) (fun av _ _ => N - (intOf av).toNat)
    case atStart => exact ⟨0, 2 * bs, g, rfl, by rw [j2.out], by omega, by omega, by omega, hr, Lib.hid ⟨⟨0, rfl⟩, hF.out.1, Half.start hF.out.2 hb0⟩⟩
    case round =>
    clear hr hF
    obtain ⟨a, b, h, rfl, rfl, haN, hb1, hb2, hr, hF⟩ := hrel
    obtain ⟨d1, d2, d3⟩ := hF.out
    have ja : ((a + bs : Nat) : Int) = (a : Int) + (bs : Int) := by omega
    by_cases hlt2 : b ≤ N
    · have hlB2 : decide ((b : Int) ≤ (N : Int)) = true := by simp; omega
      have e : b = a + 2 * bs := by omega
      have hc := merge_any val lt hs W0 B N c kp wp hC hN _ h wr a (a + bs) b (Nat.le_refl _) hr (by omega) (by omega) hlt2 (d3.left d1 (by omega)) (d3.right d1 (by omega))
      rw [ja] at hc
      replace d1 := Lib.hid d1
      replace d2 := Lib.hid d2
      replace d3 := Lib.hid d3
      replace e := Lib.hid e
      clear hF ja
      go_wp2_with (go_at_call 88; refine hc.mono ?_; rintro e' w1 ⟨rfl, h1, hr1, hm1, hs1⟩; replace hm1 := Lib.hid hm1; replace hs1 := Lib.hid hs1)
      have hnew : 2 * bs ∣ b ∧ Moved lt f h1 0 N ∧ Half lt h1 bs b N := by
        have hm := hm1.out
        have hs' := hs1.out
        have hl := hlt2
        rw [e.out] at hm hs' hl ⊢
        exact ⟨(Nat.dvd_add_right d1.out).2 (Nat.dvd_refl _), d2.out.trans (hm.wide (Nat.zero_le _) (by omega) hl), d3.out.step d1.out hb0 hm hs'⟩
      replace hnew := Lib.hid hnew
      go_roundw
      case rel => exact ⟨b, b + 2 * bs, h1, rfl, by first | (go_num; done) | (rw [Int.natCast_add, j2.out]), by omega, by omega, by omega, hr1, hnew⟩
      case measure => simp [intOf]; omega
    · have hlB2 : decide ((b : Int) ≤ (N : Int)) = false := by simp; omega
      by_cases hm : a + bs < N
      · have hmB : decide ((a : Int) + (bs : Int) < (N : Int)) = true := by simp; omega
        have hc := merge_any val lt hs W0 B N c kp wp hC hN _ h wr a (a + bs) N (Nat.le_refl _) hr (by omega) hm (Nat.le_refl _) (d3.left d1 (by omega)) (d3.right d1 (by omega))
        rw [ja] at hc
        replace d1 := Lib.hid d1
        replace d2 := Lib.hid d2
        replace d3 := Lib.hid d3
        clear hF ja
        go_wp2_with (go_at_call 88; refine hc.mono ?_; rintro e' w1 ⟨rfl, h1, hr1, hm1, hs1⟩; replace hm1 := Lib.hid hm1; replace hs1 := Lib.hid hs1)
        have hnew : Moved lt f h1 0 N ∧ SB lt h1 (bs * 2) N := by
          rw [Nat.mul_comm bs 2]
          exact ⟨d2.out.trans (hm1.out.wide (Nat.zero_le _) haN (Nat.le_refl _)), d3.out.done d1.out haN (by omega) hm1.out hs1.out⟩
        replace hnew := Lib.hid hnew
        go_roundw
        case rel => exact ⟨bs * 2, h1, by first | (go_num; done) | (rw [j3.out]), by omega, by omega, hr1, hnew⟩
        case measure => simp [intOf]; omega
      · have hmB : decide ((a : Int) + (bs : Int) < (N : Int)) = false := by simp; omega
        have hnew : Moved lt f h 0 N ∧ SB lt h (bs * 2) N := by
          rw [Nat.mul_comm bs 2]
          exact ⟨d2, d3.done d1 haN (by omega) (Moved.refl _ _ _ _) (d3.all d1 (by omega))⟩
        replace hnew := Lib.hid hnew
        clear hF ja d1 d2 d3
        go_wp2
        go_roundw
        case rel => exact ⟨bs * 2, h, by first | (go_num; done) | (rw [j3.out]), by omega, by omega, hr, hnew⟩
        case measure => simp [intOf]; omega
  · have hlB : decide ((bs : Int) < (N : Int)) = false := by simp; omega
    have hfin := hF.out.2 0 ⟨0, rfl⟩
    rw [Nat.min_eq_right (by omega)] at hfin
    replace hfin := Lib.hid hfin
    go_wp2
    go_end0
    exact ⟨rfl, g, hr, hF.out.1, hfin.out⟩

/-- the row that is sorted, in the end -/
theorem sortStable_any (val : α → Value) (lt : α → α → Bool) (hs : SWO lt) (W0 : World) (B N c : Nat) (kp wp : Value) (f : Nat → α) (W : World) (hC : CmpOk val lt W0 B kp wp) (hN : N ≤ 1099511627776) (hR : RS val W0 B N f W) :
    Calls Tryz.prog 36 #[.slice (some ⟨B, 0, none⟩) N c, .func (.func 64) #[] #[kp, wp]] W fun e W' => e = .returned (.tuple #[]) ∧ ∃ g, RS val W0 B N g W' ∧ seg g 0 N = isort lt (seg f 0 N) := by
  go_enter Tryz.func36, Tryz.ntmps36
  go_wp2_with (go_at_call 63; refine (stable_any val lt hs W0 B N c kp wp f _ hC hN hR).mono ?_; rintro e w1 ⟨rfl, g, hr, hm, hg⟩)
  go_end0
  exact ⟨rfl, g, hr, moved_sorted hm hg⟩
end Go.Proofs.YtdapnemcdgjeeaaGreatDoor.Srt

