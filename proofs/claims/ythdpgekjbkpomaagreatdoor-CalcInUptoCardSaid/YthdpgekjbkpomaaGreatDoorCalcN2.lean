/- Walks: is a value one of a list: of the reference. -/
import Derived.Test.YthdpgekjbkpomaaGreatDoorCalcN
import Derived.Test.YthdpgekjbkpomaaGreatDoorCalcR4
set_option maxRecDepth 100000
set_option linter.unusedVariables false
set_option linter.unusedSimpArgs false
namespace Go.Proofs.YthdpgekjbkpomaaGreatDoor
open Go.RowKit

theorem inF_form (x : Val.V) (l : List Val.V) (c : Int) : ∃ k n, Val.inF x l c = ⟨k, n, []⟩ ∧ Val.inr n := by
  unfold Val.inF
  split
  · exact ⟨1, 0, rfl, by decide, by decide⟩
  · split
    · exact ⟨0, 0, rfl, by decide, by decide⟩
    · split
      · exact ⟨1, 1, rfl, by decide, by decide⟩
      · split
        · exact ⟨0, 0, rfl, by decide, by decide⟩
        · exact ⟨1, 0, rfl, by decide, by decide⟩
theorem two13_form {a b : Val.V} {c : Int} (ha : Val.may a = true) (hb : Val.may b = true) : ∃ k n, Val.binary 13 a b c = (⟨k, n, []⟩, 0) ∧ Val.two 13 a b c = ⟨k, n, []⟩ ∧ Val.inr n := by
  have h2 := Val.two_cmp (op := 13) (c := c) (by decide) ha hb
  have h3 : Val.binary 13 a b c = (Val.two 13 a b c, 0) := by
    rw [Val.two_makes (by decide) ha hb, Val.binary, if_pos (by decide), if_pos ⟨ha, hb⟩]
  rw [h3, h2]
  split
  · exact ⟨0, 0, rfl, rfl, by decide, by decide⟩
  · cases Val.compare 13 (Val.cmp a b c)
    · exact ⟨1, 0, rfl, rfl, by decide, by decide⟩
    · exact ⟨1, 1, rfl, rfl, by decide, by decide⟩
theorem rcheck_is (p : Option Addr) (N c : Nat) (vs : List Val.V) (w : World) (hA : ValsAt w p N vs) (hN : N ≤ 1048576) (m : Nat) (h : Hid (vcheck vs = m)) :
    Calls Tryz.prog 64 #[.slice p N c] w fun e w' => e = .returned (.int .i64 (m : Int)) ∧ Below w.heap.size w w' := by
  have := rcheck_any p N c vs w hA hN
  rwa [h.out] at this

theorem rin_all (kx nx : Int) (tx : ByteArray) (p : Option Addr) (N c : Nat) (vs : List Val.V) (cc : Int) (w : World) (hA : ValsAt w p N vs) (hN : N ≤ 1048576) (hl : vs.all Val.may = false) :
    Calls Tryz.prog 24 #[.agg #[.int .i64 kx, .int .i64 nx, .string tx], .slice p N c, .int .i64 cc] w (VRet 0 0 ⟨#[]⟩ w) := by
  have hS := start2 w (.int .i64 kx) (.int .i64 nx) (.string tx) (.int .i64 0) (.int .i64 0) (.string ⟨#[]⟩) 24 24
  have hA0 := hA.below (((Below.refl _ w).alloc (Nat.le_refl _) (.cells #[.int .i64 kx, .int .i64 nx, .string tx] 24)).alloc (by simp) (.cells #[.int .i64 0, .int .i64 0, .string ⟨#[]⟩] 24))
  have hc : vcheck vs = 2 := by rw [vcheck, if_neg (by rw [hl]; decide)]
  replace hc := Lib.hid hc
  clear hl
  go_enter Tryz.func24, Tryz.ntmps24
  go_wp2_with (first
    | (go_at_call 64; refine (rcheck_is p N c vs _ hA0 hN _ hc).mono ?_; rintro e w1 ⟨rfl, hb1⟩; have hS1 := keep2 hS hb1)
    | (go_at_call 43; refine (rnull_any _).mono ?_; rintro e w2 ⟨rfl, hb2⟩; have hS2 := keep2 hS1 hb2; obtain ⟨cb0, cb1, cb2, cb3, cb4, cb5, cb6, cb7, cb8, cb9, cb10, cb11, hz2, hB2⟩ := id hS2))
  exact bodyPost_ret (v := .agg #[.int .i64 0, .int .i64 0, .string ⟨#[]⟩]) (by simp only [results, Tryz.results24]; go_simp) rfl ⟨rfl, below_setg hB2 (by omega)⟩

theorem rin_x (kx nx : Int) (tx : ByteArray) (p : Option Addr) (N c : Nat) (vs : List Val.V) (cc : Int) (w : World) (hA : ValsAt w p N vs) (hN : N ≤ 1048576) (hl : vs.all Val.may = true) (hm : Val.may ⟨kx, nx, tx.data.toList⟩ = false) :
    Calls Tryz.prog 24 #[.agg #[.int .i64 kx, .int .i64 nx, .string tx], .slice p N c, .int .i64 cc] w (VRet 0 0 ⟨#[]⟩ w) := by
  have hS := start2 w (.int .i64 kx) (.int .i64 nx) (.string tx) (.int .i64 0) (.int .i64 0) (.string ⟨#[]⟩) 24 24
  have hA0 := hA.below (((Below.refl _ w).alloc (Nat.le_refl _) (.cells #[.int .i64 kx, .int .i64 nx, .string tx] 24)).alloc (by simp) (.cells #[.int .i64 0, .int .i64 0, .string ⟨#[]⟩] 24))
  obtain ⟨m, hc, q⟩ : ∃ m : Nat, vcheck vs = m ∧ ((m : Int) == 2) = false := by
    rw [vcheck, if_pos hl]
    split
    · exact ⟨3, rfl, by decide⟩
    · exact ⟨0, rfl, by decide⟩
  replace hc := Lib.hid hc
  replace hm := Lib.hid hm
  clear hl
  go_enter Tryz.func24, Tryz.ntmps24
  go_wp2_with (first
    | (go_at_call 64; refine (rcheck_is p N c vs _ hA0 hN _ hc).mono ?_; rintro e w1 ⟨rfl, hb1⟩; have hS1 := keep2 hS hb1; obtain ⟨ca0, ca1, ca2, ca3, ca4, ca5, ca6, ca7, ca8, ca9, ca10, ca11, hz, hB⟩ := id hS1)
    | (go_at_call 25; refine (rmay_is _ _ _ _ hm).mono ?_; rintro e w3 ⟨rfl, hb3⟩; have hS3 := keep2 hS1 hb3)
    | (go_at_call 43; refine (rnull_any _).mono ?_; rintro e w2 ⟨rfl, hb2⟩; have hS2 := keep2 hS3 hb2; obtain ⟨cb0, cb1, cb2, cb3, cb4, cb5, cb6, cb7, cb8, cb9, cb10, cb11, hz2, hB2⟩ := id hS2))
  exact bodyPost_ret (v := .agg #[.int .i64 0, .int .i64 0, .string ⟨#[]⟩]) (by simp only [results, Tryz.results24]; go_simp) rfl ⟨rfl, below_setg hB2 (by omega)⟩

/-- the block of what is said so far -/
def OutAt (W : World) (g : Nat) (k n : Int) : Prop := W.cell? ⟨g, 0, none⟩ = some (.int .i64 k) ∧ W.cell? ⟨g, 1, none⟩ = some (.int .i64 n) ∧ W.cell? ⟨g, 2, none⟩ = some (.string ⟨#[]⟩) ∧ W.frozen? ⟨g, 0, none⟩ = false ∧ W.frozen? ⟨g, 1, none⟩ = false ∧ W.frozen? ⟨g, 2, none⟩ = false ∧ g < W.heap.size
theorem OutAt.below {W W' : World} {g : Nat} {k n : Int} (h : OutAt W g k n) (hb : Below W.heap.size W W') : OutAt W' g k n := by
  obtain ⟨h0, h1, h2, h3, h4, h5, hz⟩ := h
  exact ⟨(hb.cell (p := ⟨g, 0, none⟩) hz).trans h0, (hb.cell (p := ⟨g, 1, none⟩) hz).trans h1, (hb.cell (p := ⟨g, 2, none⟩) hz).trans h2, (hb.frozen (p := ⟨g, 0, none⟩) hz).trans h3, (hb.frozen (p := ⟨g, 1, none⟩) hz).trans h4, (hb.frozen (p := ⟨g, 2, none⟩) hz).trans h5, Nat.lt_of_lt_of_le hz hb.size⟩
theorem OutAt.new (W : World) (k n : Int) : OutAt (W.alloc (.cells #[.int .i64 k, .int .i64 n, .string ⟨#[]⟩] 24)) W.heap.size k n := by
  obtain ⟨x0, x1, x2, x3, x4, x5⟩ := cells3 (Below.refl (W.alloc (.cells #[.int .i64 k, .int .i64 n, .string ⟨#[]⟩] 24)).heap.size (W.alloc (.cells #[.int .i64 k, .int .i64 n, .string ⟨#[]⟩] 24))) (by simp) (heap_new W (.cells #[.int .i64 k, .int .i64 n, .string ⟨#[]⟩] 24))
  exact ⟨x0, x1, x2, x3, x4, x5, by simp⟩
theorem OutAt.put {W : World} {g : Nat} {k n : Int} (h : OutAt W g k n) (k' n' : Int) : OutAt (((W.setCell ⟨g, 0, none⟩ (.int .i64 k')).setCell ⟨g, 1, none⟩ (.int .i64 n')).setCell ⟨g, 2, none⟩ (.string ⟨#[]⟩)) g k' n' := by
  obtain ⟨h0, h1, h2, h3, h4, h5, hz⟩ := h
  obtain ⟨e0, e1, e2⟩ := put_same (.int .i64 k') (.int .i64 n') (.string ⟨#[]⟩) h0 h1 h2
  exact ⟨e0, e1, e2, by simp only [World.frozen?_setCell]; exact h3, by simp only [World.frozen?_setCell]; exact h4, by simp only [World.frozen?_setCell]; exact h5, by simp only [World.size_setCell]; exact hz⟩
theorem OutAt.other {W : World} {g g' : Nat} {k n : Int} (h : OutAt W g k n) (hne : g ≠ g') (y0 y1 y2 : Value) : OutAt (((W.setCell ⟨g', 0, none⟩ y0).setCell ⟨g', 1, none⟩ y1).setCell ⟨g', 2, none⟩ y2) g k n := by
  obtain ⟨h0, h1, h2, h3, h4, h5, hz⟩ := h
  exact ⟨(put_other y0 y1 y2 hne).trans h0, (put_other y0 y1 y2 hne).trans h1, (put_other y0 y1 y2 hne).trans h2, by simp only [World.frozen?_setCell]; exact h3, by simp only [World.frozen?_setCell]; exact h4, by simp only [World.frozen?_setCell]; exact h5, by simp only [World.size_setCell]; exact hz⟩
/-- a store above where the two blocks of a call's beginning lie -/
theorem other2 {w W : World} {x00 x01 x02 x10 x11 x12 : Value} {g : Nat} (h : W.cell? ⟨w.heap.size, 0, none⟩ = some x00 ∧ W.cell? ⟨w.heap.size, 1, none⟩ = some x01 ∧ W.cell? ⟨w.heap.size, 2, none⟩ = some x02 ∧ W.frozen? ⟨w.heap.size, 0, none⟩ = false ∧ W.frozen? ⟨w.heap.size, 1, none⟩ = false ∧ W.frozen? ⟨w.heap.size, 2, none⟩ = false ∧ W.cell? ⟨w.heap.size + 1, 0, none⟩ = some x10 ∧ W.cell? ⟨w.heap.size + 1, 1, none⟩ = some x11 ∧ W.cell? ⟨w.heap.size + 1, 2, none⟩ = some x12 ∧ W.frozen? ⟨w.heap.size + 1, 0, none⟩ = false ∧ W.frozen? ⟨w.heap.size + 1, 1, none⟩ = false ∧ W.frozen? ⟨w.heap.size + 1, 2, none⟩ = false ∧ w.heap.size + 1 < W.heap.size ∧ Below w.heap.size w W) (hg : w.heap.size + 1 < g) (y0 y1 y2 : Value) : (((W.setCell ⟨g, 0, none⟩ y0).setCell ⟨g, 1, none⟩ y1).setCell ⟨g, 2, none⟩ y2).cell? ⟨w.heap.size, 0, none⟩ = some x00 ∧ (((W.setCell ⟨g, 0, none⟩ y0).setCell ⟨g, 1, none⟩ y1).setCell ⟨g, 2, none⟩ y2).cell? ⟨w.heap.size, 1, none⟩ = some x01 ∧ (((W.setCell ⟨g, 0, none⟩ y0).setCell ⟨g, 1, none⟩ y1).setCell ⟨g, 2, none⟩ y2).cell? ⟨w.heap.size, 2, none⟩ = some x02 ∧ (((W.setCell ⟨g, 0, none⟩ y0).setCell ⟨g, 1, none⟩ y1).setCell ⟨g, 2, none⟩ y2).frozen? ⟨w.heap.size, 0, none⟩ = false ∧ (((W.setCell ⟨g, 0, none⟩ y0).setCell ⟨g, 1, none⟩ y1).setCell ⟨g, 2, none⟩ y2).frozen? ⟨w.heap.size, 1, none⟩ = false ∧ (((W.setCell ⟨g, 0, none⟩ y0).setCell ⟨g, 1, none⟩ y1).setCell ⟨g, 2, none⟩ y2).frozen? ⟨w.heap.size, 2, none⟩ = false ∧ (((W.setCell ⟨g, 0, none⟩ y0).setCell ⟨g, 1, none⟩ y1).setCell ⟨g, 2, none⟩ y2).cell? ⟨w.heap.size + 1, 0, none⟩ = some x10 ∧ (((W.setCell ⟨g, 0, none⟩ y0).setCell ⟨g, 1, none⟩ y1).setCell ⟨g, 2, none⟩ y2).cell? ⟨w.heap.size + 1, 1, none⟩ = some x11 ∧ (((W.setCell ⟨g, 0, none⟩ y0).setCell ⟨g, 1, none⟩ y1).setCell ⟨g, 2, none⟩ y2).cell? ⟨w.heap.size + 1, 2, none⟩ = some x12 ∧ (((W.setCell ⟨g, 0, none⟩ y0).setCell ⟨g, 1, none⟩ y1).setCell ⟨g, 2, none⟩ y2).frozen? ⟨w.heap.size + 1, 0, none⟩ = false ∧ (((W.setCell ⟨g, 0, none⟩ y0).setCell ⟨g, 1, none⟩ y1).setCell ⟨g, 2, none⟩ y2).frozen? ⟨w.heap.size + 1, 1, none⟩ = false ∧ (((W.setCell ⟨g, 0, none⟩ y0).setCell ⟨g, 1, none⟩ y1).setCell ⟨g, 2, none⟩ y2).frozen? ⟨w.heap.size + 1, 2, none⟩ = false ∧ w.heap.size + 1 < (((W.setCell ⟨g, 0, none⟩ y0).setCell ⟨g, 1, none⟩ y1).setCell ⟨g, 2, none⟩ y2).heap.size ∧ Below w.heap.size w (((W.setCell ⟨g, 0, none⟩ y0).setCell ⟨g, 1, none⟩ y1).setCell ⟨g, 2, none⟩ y2) := by
  obtain ⟨ch0, ch1, ch2, ch3, ch4, ch5, ch6, ch7, ch8, ch9, ch10, ch11, hz, hB⟩ := h
  have n0 : w.heap.size ≠ g := by omega
  have n1 : w.heap.size + 1 ≠ g := by omega
  exact ⟨(put_other y0 y1 y2 n0).trans ch0, (put_other y0 y1 y2 n0).trans ch1, (put_other y0 y1 y2 n0).trans ch2, by simp only [World.frozen?_setCell]; exact ch3, by simp only [World.frozen?_setCell]; exact ch4, by simp only [World.frozen?_setCell]; exact ch5, (put_other y0 y1 y2 n1).trans ch6, (put_other y0 y1 y2 n1).trans ch7, (put_other y0 y1 y2 n1).trans ch8, by simp only [World.frozen?_setCell]; exact ch9, by simp only [World.frozen?_setCell]; exact ch10, by simp only [World.frozen?_setCell]; exact ch11, by simp only [World.size_setCell]; exact hz, below_setg hB (by omega)⟩

end Go.Proofs.YthdpgekjbkpomaaGreatDoor
