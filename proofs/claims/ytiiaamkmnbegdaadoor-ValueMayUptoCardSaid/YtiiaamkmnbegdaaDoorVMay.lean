/- Walks: the law ValueMay. -/
import Derived.Test.YtiiaamkmnbegdaaDoorVCopy
import Derived.Deep.RegionHeld3
namespace Go.Proofs.YtiiaamkmnbegdaaDoor
set_option maxRecDepth 100000
set_option linter.unusedVariables false
set_option linter.unusedSimpArgs false
open Go.RowKit

/-- three cells hold a value, below nothing has turned -/
def SV (w : World) (b o : Nat) (k n : Int) (t : ByteArray) (W : World) : Prop := W.cell? ⟨b, o, none⟩ = some (.int .i64 k) ∧ W.cell? ⟨b, o + 1, none⟩ = some (.int .i64 n) ∧ W.cell? ⟨b, o + 2, none⟩ = some (.string t) ∧ b < W.heap.size ∧ Below w.heap.size w W
theorem keepV {w W W' : World} {b o : Nat} {k n : Int} {t : ByteArray} (h : W.cell? ⟨b, o, none⟩ = some (.int .i64 k) ∧ W.cell? ⟨b, o + 1, none⟩ = some (.int .i64 n) ∧ W.cell? ⟨b, o + 2, none⟩ = some (.string t) ∧ b < W.heap.size ∧ Below w.heap.size w W) (hb : Below W.heap.size W W') :
    W'.cell? ⟨b, o, none⟩ = some (.int .i64 k) ∧ W'.cell? ⟨b, o + 1, none⟩ = some (.int .i64 n) ∧ W'.cell? ⟨b, o + 2, none⟩ = some (.string t) ∧ b < W'.heap.size ∧ Below w.heap.size w W' :=
  ⟨(hb.cell (p := ⟨b, o, none⟩) h.2.2.2.1).trans h.1, (hb.cell (p := ⟨b, o + 1, none⟩) h.2.2.2.1).trans h.2.1, (hb.cell (p := ⟨b, o + 2, none⟩) h.2.2.2.1).trans h.2.2.1, Nat.lt_of_lt_of_le h.2.2.2.1 hb.size, h.2.2.2.2.trans (hb.mono h.2.2.2.2.size)⟩

theorem keepV0 {B : Nat} {w0 w : World} {b o : Nat} {k n : Int} {t : ByteArray} (h : w.cell? ⟨b, o, none⟩ = some (.int .i64 k) ∧ w.cell? ⟨b, o + 1, none⟩ = some (.int .i64 n) ∧ w.cell? ⟨b, o + 2, none⟩ = some (.string t) ∧ b < w.heap.size ∧ Below B w0 w) :
    w.drew.cell? ⟨b, o, none⟩ = some (.int .i64 k) ∧ w.drew.cell? ⟨b, o + 1, none⟩ = some (.int .i64 n) ∧ w.drew.cell? ⟨b, o + 2, none⟩ = some (.string t) ∧ b < w.drew.heap.size ∧ Below B w0 w.drew :=
  ⟨h.1, h.2.1, h.2.2.1, h.2.2.2.1, h.2.2.2.2.drew⟩
theorem fin_below {w wr w5 w6 w7 : World} {o o' : Obj} (hB : Below w.heap.size w wr) (h5 : Below wr.heap.size wr w5) (h6 : Below (w5.alloc o).heap.size (w5.alloc o) w6) (h7 : Below (w6.alloc o').heap.size (w6.alloc o') w7) : Below w.heap.size w w7 :=
  have a5 := hB.trans (h5.mono hB.size)
  have a6 := a5.trans ((((Below.refl _ w5).alloc (Nat.le_refl _) o).trans (h6.mono (by simp))).mono a5.size)
  a6.trans ((((Below.refl _ w6).alloc (Nat.le_refl _) o').trans (h7.mono (by simp))).mono a6.size)

set_option maxHeartbeats 1000000 in
theorem value_may (p : Option Addr) (N c : Nat) (vs : List Val.V) (n : Int) (s : ByteArray) (w : World) (hA : ValsAt w p N vs) (hN : N ≤ 1048576) (hs : s.size ≤ 1048576) (hL : Lits w) :
    Calls Tryd.prog 10 #[.slice p N c, .int .i64 n, .string s] w fun e w' => e = .returned (.bool true) ∧ Below w.heap.size w w' := by
  have hlen := hA.1
  replace hlen := Lib.hid hlen
  go_enter Tryd.func10, Tryd.ntmps10
  go_wp2_with (first
    | (go_at_call 24; refine (head2_any _ hL).mono ?_; rintro e w1 ⟨rfl, hb1⟩; have hA1 := hA.below hb1)
    | (go_at_call 29; refine (rcopy_any p N c vs _ hA1 hN).mono ?_; rintro e w2 ⟨p2, c2, rfl, hrow, hb2⟩; have hA2 := hA1.below hb2)
    | (go_at_call 28; refine (vcheck_any p2 N c2 vs _ (valsAt_own hrow hlen.out) hN).mono ?_; rintro e w3 ⟨rfl, hb3⟩; have hA3 := hA2.below hb3)
    | (go_at_call 30; refine (rcheck_any p N c vs _ hA3 hN).mono ?_; rintro e w4 ⟨rfl, hb4⟩; have hA4 := hA3.below hb4))
  have hB4 : Below w.heap.size w w4 := ((hb1.trans (hb2.mono hb1.size)).trans (hb3.mono (Nat.le_trans hb1.size hb2.size))).trans (hb4.mono (Nat.le_trans (Nat.le_trans hb1.size hb2.size) hb3.size))
  go_loopw [7] (fun iv wr => ∃ k : Nat, iv = .int .i64 (k : Int) ∧ k ≤ N ∧ Below w.heap.size w wr) (fun iv _ => N - (intOf iv).toNat)
  case atStart => exact ⟨0, by go_num, by omega, hB4⟩
  case round =>
    obtain ⟨k, rfl, hk, hB⟩ := hrel
    by_cases hlt : k < N
    · obtain ⟨v, hv⟩ : ∃ v, vs[k]? = some v := ⟨_, List.getElem?_eq_getElem (by rw [hlen.out]; exact hlt)⟩
      rcases (hA.below hB).2 with h0 | ⟨b, off, rfl, hbl, hcell⟩
      · rw [h0] at hv; simp at hv
      · obtain ⟨c0, c1, c2'⟩ := hcell k v hv
        obtain ⟨kd, n', tx⟩ := v
        obtain ⟨t, rfl⟩ : ∃ t : ByteArray, tx = t.data.toList := ⟨bs tx, rfl⟩
        rw [bs_of] at c2'
        simp only at c0 c1 c2'
        have H0 : wr.cell? ⟨b, off + k * 3, none⟩ = some (.int .i64 kd) ∧ wr.cell? ⟨b, off + k * 3 + 1, none⟩ = some (.int .i64 n') ∧ wr.cell? ⟨b, off + k * 3 + 2, none⟩ = some (.string t) ∧ b < wr.heap.size ∧ Below w.heap.size w wr := ⟨c0, c1, c2', hbl, hB⟩
        have b1 : w.heap.size ≤ wr.heap.size := hB.size
        obtain ⟨m, hm⟩ : ∃ m, Val.may ⟨kd, n', t.data.toList⟩ = m := ⟨_, rfl⟩
        replace hm := Lib.hid hm
        have hlB : decide ((k : Int) < (N : Int)) = true := by simp; omega
        have i0 : (0 : Int) ≤ (k : Int) := by omega
        have i1 : (k : Int) < (N : Int) := by omega
        clear hcell hv
        go_wp2_with fail
        go_region_held3 (fun W => W.cell? ⟨b, off + k * 3, none⟩ = some (.int .i64 kd) ∧ W.cell? ⟨b, off + k * 3 + 1, none⟩ = some (.int .i64 n') ∧ W.cell? ⟨b, off + k * 3 + 2, none⟩ = some (.string t) ∧ b < W.heap.size ∧ Below w.heap.size w W) (first | exact keepV (by assumption) (by assumption) | exact keepV0 (by assumption)) (first
          | (go_at_call 27; refine (may_is _ _ _ _ hm).mono ?_; rintro e wa ⟨rfl, hba⟩)
          | (go_at_call 31; refine (rmay_is _ _ _ _ hm).mono ?_; rintro e wb ⟨rfl, hbb⟩))
        all_goals go_wp2
        all_goals (
          go_roundw
          case rel => exact ⟨k + 1, by go_num, by omega, by rename_i hh; exact hh.2.2.2.2⟩
          case measure => simp [intOf]; omega)
    · have hlB : decide ((k : Int) < (N : Int)) = false := by simp; omega
      by_cases hbig : 400 < s.size
      · have b1 : decide ((s.size : Int) > 400) = true := by simp; omega
        go_wp2_with (first
          | (go_at_call 32; refine (vText_big s _ hbig hs).mono ?_; rintro e w5 ⟨rfl, hb5⟩)
          | (go_at_call 33; refine (vBlob_big s _ hbig hs).mono ?_; rintro e w6 ⟨rfl, hb6⟩)
          | (go_at_call 34; refine (vint_any n _).mono ?_; rintro e w7 ⟨rfl, hb7⟩))
        go_ret
        exact ⟨rfl, fin_below hB hb5 hb6 hb7⟩
      · have b1 : decide ((s.size : Int) > 400) = false := by simp; omega
        go_wp2_with (first
          | (go_at_call 32; refine (vText_small s _ (by omega)).mono ?_; rintro e w5 ⟨rfl, hb5⟩)
          | (go_at_call 33; refine (vBlob_small s _ (by omega)).mono ?_; rintro e w6 ⟨rfl, hb6⟩)
          | (go_at_call 34; refine (vint_any n _).mono ?_; rintro e w7 ⟨rfl, hb7⟩; have hb67 := hb6.trans ((((Below.refl _ w6).alloc (Nat.le_refl _) _).trans (hb7.mono (by simp))).mono hb6.size); obtain ⟨d0, d1, d2, _, _, _⟩ := cells3 hb67 (by simp) (heap_new _ _); obtain ⟨e0, e1, e2, _, _, _⟩ := cells3 hb7 (by simp) (heap_new _ _)))
        go_ret
        exact ⟨rfl, fin_below hB hb5 hb6 hb7⟩

end Go.Proofs.YtiiaamkmnbegdaaDoor
