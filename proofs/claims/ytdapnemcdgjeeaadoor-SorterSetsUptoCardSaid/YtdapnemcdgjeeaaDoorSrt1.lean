/- Walks: what the library's stable sort is made of: pieces exchanged, pieces turned. -/
import Derived.Test.YtdapnemcdgjeeaaDoorBase
import Derived.Test.YtdapnemcdgjeeaaDoorBelow
import Derived.Test.YtdapnemcdgjeeaaDoorStb2
import Derived.BigRegion
set_option maxRecDepth 100000
set_option linter.unusedVariables false
set_option linter.unusedSimpArgs false
namespace Go.Proofs.YtdapnemcdgjeeaaDoor.Srt
open Go.RowKit Go.Proofs.YtdapnemcdgjeeaaDoor.Stb
variable {α : Type}

/-- the row that is sorted: block B, N places, of which place k holds (f k), a slice; nothing else of what was there has turned -/
structure RS (val : α → Value) (W0 : World) (B N : Nat) (f : Nat → α) (W : World) : Prop where
  cell : ∀ k, k < N → W.cell? ⟨B, k, none⟩ = some (val (f k))
  free : ∀ k, k < N → W.frozen? ⟨B, k, none⟩ = false
  grown : W0.grownBy W (some B)
  blk : B < W0.heap.size
  sl : ∀ x, ∃ p n c, val x = .slice p n c
theorem grown_below {a b : World} (row : Option Nat) (h : Below a.heap.size a b) : a.grownBy b row := ⟨h.os, h.tape, h.output, h.size, fun k hk _ => h.block k hk⟩
theorem RS.below {val : α → Value} {W0 W W' : World} {B N : Nat} {f : Nat → α} (h : RS val W0 B N f W) (hb : Below W.heap.size W W') : RS val W0 B N f W' := by
  have hl : B < W.heap.size := Nat.lt_of_lt_of_le h.blk h.grown.size
  exact ⟨fun k hk => (hb.cell (p := ⟨B, k, none⟩) hl).trans (h.cell k hk), fun k hk => (hb.frozen (p := ⟨B, k, none⟩) hl).trans (h.free k hk), h.grown.trans (grown_below _ hb), h.blk, h.sl⟩
theorem RS.drew {val : α → Value} {W0 W : World} {B N : Nat} {f : Nat → α} (h : RS val W0 B N f W) : RS val W0 B N f W.drew := h.below (Below.refl _ _).drew
theorem RS.congr {val : α → Value} {W0 W : World} {B N : Nat} {f g : Nat → α} (h : RS val W0 B N f W) (e : ∀ k, k < N → f k = g k) : RS val W0 B N g W := ⟨fun k hk => by rw [← e k hk]; exact h.cell k hk, h.free, h.grown, h.blk, h.sl⟩
theorem grown_set (w : World) (B k : Nat) (v : Value) : w.grownBy (w.setCell ⟨B, k, none⟩ v) (some B) := by
  have := (Below.refl 0 w).setCell (p := ⟨B, k, none⟩) (Nat.zero_le _) v
  exact ⟨this.os, this.tape, this.output, this.size, fun i _ hne => Below.heap_setCell w _ v i (fun e => hne (by rw [e]))⟩
theorem RS.put {val : α → Value} {W0 W : World} {B N : Nat} {f : Nat → α} (h : RS val W0 B N f W) {i : Nat} (hi : i < N) (x : α) : RS val W0 B N (fun k => if k = i then x else f k) (W.setCell ⟨B, i, none⟩ (val x)) := by
  refine ⟨fun k hk => ?_, fun k hk => by rw [World.frozen?_setCell]; exact h.free k hk, h.grown.trans (grown_set _ _ _ _), h.blk, h.sl⟩
  by_cases e : k = i
  · subst e
    rw [World.cell?_setCell_same _ _ _ (h.cell k hk), if_pos rfl]
  · rw [World.cell?_setCell_other _ _ _ _ (fun e' => e (by injection e' with _ e2; exact e2.symm)), if_neg e]
    exact h.cell k hk
theorem RS.swap {val : α → Value} {W0 W : World} {B N : Nat} {f : Nat → α} (h : RS val W0 B N f W) {i j : Nat} (hi : i < N) (hj : j < N) :
    RS val W0 B N (Stb.swap f i j) ((W.setCell ⟨B, i, none⟩ (val (f j))).setCell ⟨B, j, none⟩ (val (f i))) := by
  refine ((h.put hi (f j)).put hj (f i)).congr fun k _ => ?_
  unfold Stb.swap
  by_cases e1 : k = i
  · subst e1
    by_cases e2 : k = j
    · rw [if_pos e2, if_pos rfl, e2]
    · rw [if_neg e2, if_pos rfl, if_pos rfl]
  · by_cases e2 : k = j
    · rw [if_pos e2, if_neg e1, if_pos e2]
    · rw [if_neg e2, if_neg e1, if_neg e1, if_neg e2]

set_option maxHeartbeats 1000000 in
theorem swapRange_any (val : α → Value) (W0 : World) (B N c : Nat) (f : Nat → α) (W : World) (a b n : Nat) (fv : Value) (hR : RS val W0 B N f W) (hab : a + n ≤ b) (hb : b + n ≤ N) (hN : N ≤ 1099511627776) :
    Calls Tryd.prog 83 #[.slice (some ⟨B, 0, none⟩) N c, .int .i64 a, .int .i64 b, .int .i64 n, fv] W fun e W' => e = .returned (.tuple #[]) ∧ RS val W0 B N (swapR f a b n) W' := by
  go_enter Tryd.func83, Tryd.ntmps83
  go_wp2
  go_loopw [10] (fun iv wr => ∃ k : Nat, iv = .int .i64 (k : Int) ∧ k ≤ n ∧ RS val W0 B N (swapR f a b k) wr) (fun iv _ => n - (intOf iv).toNat)
  case atStart => exact ⟨0, by go_num, by omega, by rw [swapR_zero]; exact hR⟩
  case round =>
    obtain ⟨k, rfl, hk, hr⟩ := hrel
    by_cases hlt : k < n
    · have hlB : decide ((k : Int) < (n : Int)) = true := by simp; omega
      have c0 := hr.cell (a + k) (by omega)
      have c1 := hr.cell (b + k) (by omega)
      have f0 := hr.free (a + k) (by omega)
      have f1 := hr.free (b + k) (by omega)
      have hsw := (hr.drew.swap (i := a + k) (j := b + k) (by omega) (by omega))
      rw [swapR_succ f (show a + k < b by omega)] at hsw
      obtain ⟨p0, n0, q0, hx⟩ := hr.sl (swapR f a b k (a + k))
      obtain ⟨p1, n1, q1, hy⟩ := hr.sl (swapR f a b k (b + k))
      rw [hx] at c0 hsw
      rw [hy] at c1 hsw
      clear hx hy
      have i0 : (0 : Int) ≤ (a : Int) + (k : Int) := by omega
      have i1 : (a : Int) + (k : Int) < (N : Int) := by omega
      have i2 : (0 : Int) ≤ (b : Int) + (k : Int) := by omega
      have i3 : (b : Int) + (k : Int) < (N : Int) := by omega
      have e0 : ((a : Int) + (k : Int)).toNat = a + k := by omega
      have e1 : ((b : Int) + (k : Int)).toNat = b + k := by omega
      replace hsw := Lib.hid hsw
      go_wp2
      go_region
      go_wp2
      go_roundw
      case rel => exact ⟨k + 1, by go_num, by omega, hsw.out⟩
      case measure => simp [intOf]; omega
    · have hlB : decide ((k : Int) < (n : Int)) = false := by simp; omega
      obtain rfl : k = n := by omega
      go_wp2
      go_end0
      exact ⟨rfl, hr⟩

set_option maxHeartbeats 1000000 in
theorem rotate_any (val : α → Value) (W0 : World) (B N c : Nat) (f : Nat → α) (W : World) (a m b : Nat) (fv : Value) (hR : RS val W0 B N f W) (ham : a < m) (hmb : m < b) (hb : b ≤ N) (hN : N ≤ 1099511627776) :
    Calls Tryd.prog 65 #[.slice (some ⟨B, 0, none⟩) N c, .int .i64 a, .int .i64 m, .int .i64 b, fv] W fun e W' => e = .returned (.tuple #[]) ∧ RS val W0 B N (rot f a m b) W' := by
  have ja : ((m - a : Nat) : Int) = (m : Int) - (a : Int) := by omega
  have jb : ((b - m : Nat) : Int) = (b : Int) - (m : Int) := by omega
  go_enter Tryd.func65, Tryd.ntmps65
  go_wp2
  go_loopw [10, 11] (fun iv jv wr => ∃ (i j : Nat) (g : Nat → α), iv = .int .i64 (i : Int) ∧ jv = .int .i64 (j : Int) ∧ 0 < i ∧ 0 < j ∧ i ≤ m ∧ m + j ≤ b ∧ RS val W0 B N g wr ∧ Hid (rot f a m b = rot g (m - i) m (m + j))) (fun iv jv _ => (intOf iv).toNat + (intOf jv).toNat)
  case atStart => exact ⟨m - a, b - m, f, by rw [ja], by rw [jb], by omega, by omega, by omega, by omega, hR, Lib.hid (by rw [show m - (m - a) = a by omega, show m + (b - m) = b by omega])⟩
  case round =>
    obtain ⟨i, j, g, rfl, rfl, hi, hj, him, hmj, hr, hrot⟩ := hrel
    clear ja jb
    have ji : ((m - i : Nat) : Int) = (m : Int) - (i : Int) := by omega
    by_cases heq : i = j
    · subst heq
      have hB : ((i : Int) != (i : Int)) = false := by simp
      have hc := swapRange_any val W0 B N c g wr (m - i) m i fv hr (by omega) (by omega) hN
      rw [ji] at hc
      have hfin : rot f a m b = swapR g (m - i) m i := hrot.out.trans (rot_eq g him)
      replace hfin := Lib.hid hfin
      clear ji
      go_wp2_with (go_at_call 83; refine hc.mono ?_; rintro e w1 ⟨rfl, hr1⟩)
      go_end0
      exact ⟨rfl, by rw [hfin.out]; exact hr1⟩
    · have hB : ((i : Int) != (j : Int)) = true := by simp; omega
      by_cases hgt : j < i
      · have hG : decide ((i : Int) > (j : Int)) = true := by simp; omega
        have hc := swapRange_any val W0 B N c g wr (m - i) m j fv hr (by omega) (by omega) hN
        rw [ji] at hc
        have e := rot_gt g him hgt
        rw [← hrot.out, show m - i + j = m - (i - j) by omega] at e
        have jj : ((i - j : Nat) : Int) = (i : Int) - (j : Int) := by omega
        replace e := Lib.hid e
        replace jj := Lib.hid jj
        clear ji hrot
        go_wp2_with (go_at_call 83; refine hc.mono ?_; rintro e w1 ⟨rfl, hr1⟩)
        go_roundw
        case rel => exact ⟨i - j, j, _, by rw [jj.out], rfl, by omega, by omega, by omega, by omega, hr1, e⟩
        case measure => simp [intOf]; omega
      · have hG : decide ((i : Int) > (j : Int)) = false := by simp; omega
        have hc := swapRange_any val W0 B N c g wr (m - i) (m + j - i) i fv hr (by omega) (by omega) hN
        have je : ((m + j - i : Nat) : Int) = (m : Int) + (j : Int) - (i : Int) := by omega
        rw [ji, je] at hc
        have e := rot_lt g him (show i < j by omega)
        rw [← hrot.out, show m + j - i = m + (j - i) by omega] at e
        have jj : ((j - i : Nat) : Int) = (j : Int) - (i : Int) := by omega
        replace e := Lib.hid e
        replace jj := Lib.hid jj
        clear ji je hrot
        go_wp2_with (go_at_call 83; refine hc.mono ?_; rintro e w1 ⟨rfl, hr1⟩)
        go_roundw
        case rel => exact ⟨i, j - i, _, rfl, by rw [jj.out], by omega, by omega, by omega, by omega, by rw [show m + (j - i) = m + j - i by omega]; exact hr1, e⟩
        case measure => simp [intOf]; omega
end Go.Proofs.YtdapnemcdgjeeaaDoor.Srt
