/- Walks: the reference's Match at GLOB. -/
import Derived.Test.YtmkgalcojoeniaaGreatDoorFitsGL
import Derived.Test.YtmkgalcojoeniaaGreatDoorMatchR
import Derived.Test.YtmkgalcojoeniaaGreatDoorLkM
import Derived.Test.YtmkgalcojoeniaaGreatDoorCalcRa
set_option maxRecDepth 100000
set_option linter.unusedVariables false
set_option linter.unusedSimpArgs false
namespace Go.Proofs.YtmkgalcojoeniaaGreatDoor
open Go.RowKit

set_option maxHeartbeats 4000000 in
theorem rmatchg_null1 (ka na : Int) (ta : ByteArray) (kb nb : Int) (tb : ByteArray) (w : World) (hL : Lits w) (ha : Val.inr na) (hb : Val.inr nb) (s1 s2 : ByteArray) (k2 : Int) (hv1 : Hid (Val.pshow ⟨ka, na, ta.data.toList⟩ = ⟨0, 0, s1.data.toList⟩)) (hv2 : Hid (Val.pshow ⟨kb, nb, tb.data.toList⟩ = ⟨k2, 0, s2.data.toList⟩)) :
    Calls Tryz.prog 23 #[.agg #[.int .i64 ka, .int .i64 na, .string ta], .agg #[.int .i64 kb, .int .i64 nb, .string tb], .bool true] w (VRet 0 0 ⟨#[]⟩ w) := by
  have hS0 : M3 w (((w.alloc (.cells #[.int .i64 ka, .int .i64 na, .string ta] 25)).alloc (.cells #[.int .i64 kb, .int .i64 nb, .string tb] 25)).alloc (.cells #[.int .i64 0, .int .i64 0, .string ⟨#[]⟩] 25)) ka na ta kb nb tb := M3.new ..
  have hL0 := ((hL.alloc (.cells #[.int .i64 ka, .int .i64 na, .string ta] 25)).alloc (.cells #[.int .i64 kb, .int .i64 nb, .string tb] 25)).alloc (.cells #[.int .i64 0, .int .i64 0, .string ⟨#[]⟩] 25)
  obtain ⟨a0, a1, a2, a3, a4, a5⟩ := hS0.1.cells
  obtain ⟨a6, a7, a8, a9, a10, a11⟩ := hS0.2.1.cells
  have hah := Lib.hid ha
  have hbh := Lib.hid hb
  clear ha hb hL
  go_enter Tryz.func23, Tryz.ntmps23
  go_wp2_with (first
    | (go_at_call 48; first
      | (have hq := hb1; refine (rshow_is kb nb tb _ hbh.out.1 hbh.out.2 hL1 k2 s2 hv2).mono ?_; rintro e w2 ⟨rfl, hb2⟩; have hS2 := (hS1.on hb2).on (below_new w2 (.cells #[.int .i64 k2, .int .i64 0, .string s2] 25)); have hs7 := (hs7.on hb2).alloc (.cells #[.int .i64 k2, .int .i64 0, .string s2] 25); have hp8 := V3.new w2 k2 0 s2; obtain ⟨b0, b1, b2, b3, b4, b5⟩ := hS2.2.2.1.cells; obtain ⟨c0, c1, c2, c3, c4, c5⟩ := hs7.cells; obtain ⟨d0, d1, d2, d3, d4, d5⟩ := hp8.cells)
      | (refine (rshow_is ka na ta _ hah.out.1 hah.out.2 hL0 0 s1 hv1).mono ?_; rintro e w1 ⟨rfl, hb1⟩; have hL1 := (hL0.below hb1).alloc (.cells #[.int .i64 0, .int .i64 0, .string s1] 25); have hS1 := (hS0.on hb1).on (below_new w1 (.cells #[.int .i64 0, .int .i64 0, .string s1] 25)); have hs7 := V3.new w1 0 0 s1; obtain ⟨e6, e7, e8, e9, e10, e11⟩ := hS1.2.1.cells)))
  exact bodyPost_ret (v := .agg #[.int .i64 0, .int .i64 0, .string ⟨#[]⟩]) (by simp only [results, Tryz.results23]; go_simp) rfl ⟨rfl, below_put hS2.2.2.2 (by omega)⟩

set_option maxHeartbeats 4000000 in
theorem rmatchg_null2 (ka na : Int) (ta : ByteArray) (kb nb : Int) (tb : ByteArray) (w : World) (hL : Lits w) (ha : Val.inr na) (hb : Val.inr nb) (s1 s2 : ByteArray) (hv1 : Hid (Val.pshow ⟨ka, na, ta.data.toList⟩ = ⟨2, 0, s1.data.toList⟩)) (hv2 : Hid (Val.pshow ⟨kb, nb, tb.data.toList⟩ = ⟨0, 0, s2.data.toList⟩)) :
    Calls Tryz.prog 23 #[.agg #[.int .i64 ka, .int .i64 na, .string ta], .agg #[.int .i64 kb, .int .i64 nb, .string tb], .bool true] w (VRet 0 0 ⟨#[]⟩ w) := by
  have hS0 : M3 w (((w.alloc (.cells #[.int .i64 ka, .int .i64 na, .string ta] 25)).alloc (.cells #[.int .i64 kb, .int .i64 nb, .string tb] 25)).alloc (.cells #[.int .i64 0, .int .i64 0, .string ⟨#[]⟩] 25)) ka na ta kb nb tb := M3.new ..
  have hL0 := ((hL.alloc (.cells #[.int .i64 ka, .int .i64 na, .string ta] 25)).alloc (.cells #[.int .i64 kb, .int .i64 nb, .string tb] 25)).alloc (.cells #[.int .i64 0, .int .i64 0, .string ⟨#[]⟩] 25)
  obtain ⟨a0, a1, a2, a3, a4, a5⟩ := hS0.1.cells
  obtain ⟨a6, a7, a8, a9, a10, a11⟩ := hS0.2.1.cells
  have hah := Lib.hid ha
  have hbh := Lib.hid hb
  clear ha hb hL
  go_enter Tryz.func23, Tryz.ntmps23
  go_wp2_with (first
    | (go_at_call 48; first
      | (have hq := hb1; refine (rshow_is kb nb tb _ hbh.out.1 hbh.out.2 hL1 0 s2 hv2).mono ?_; rintro e w2 ⟨rfl, hb2⟩; have hS2 := (hS1.on hb2).on (below_new w2 (.cells #[.int .i64 0, .int .i64 0, .string s2] 25)); have hs7 := (hs7.on hb2).alloc (.cells #[.int .i64 0, .int .i64 0, .string s2] 25); have hp8 := V3.new w2 0 0 s2; obtain ⟨b0, b1, b2, b3, b4, b5⟩ := hS2.2.2.1.cells; obtain ⟨c0, c1, c2, c3, c4, c5⟩ := hs7.cells; obtain ⟨d0, d1, d2, d3, d4, d5⟩ := hp8.cells)
      | (refine (rshow_is ka na ta _ hah.out.1 hah.out.2 hL0 2 s1 hv1).mono ?_; rintro e w1 ⟨rfl, hb1⟩; have hL1 := (hL0.below hb1).alloc (.cells #[.int .i64 2, .int .i64 0, .string s1] 25); have hS1 := (hS0.on hb1).on (below_new w1 (.cells #[.int .i64 2, .int .i64 0, .string s1] 25)); have hs7 := V3.new w1 2 0 s1; obtain ⟨e6, e7, e8, e9, e10, e11⟩ := hS1.2.1.cells)))
  exact bodyPost_ret (v := .agg #[.int .i64 0, .int .i64 0, .string ⟨#[]⟩]) (by simp only [results, Tryz.results23]; go_simp) rfl ⟨rfl, below_put hS2.2.2.2 (by omega)⟩

set_option maxHeartbeats 4000000 in
theorem rmatchg_both (ka na : Int) (ta : ByteArray) (kb nb : Int) (tb : ByteArray) (w : World) (hL : Lits w) (ha : Val.inr na) (hb : Val.inr nb) (s1 s2 : ByteArray) (l1 : s1.size ≤ 400) (l2 : s2.size ≤ 400) (r : Bool) (hr : Hid (valG s1 s2 0 0 = r)) (nr : Int) (hnr : Hid ((if r = true then (1 : Int) else 0) = nr)) (hv1 : Hid (Val.pshow ⟨ka, na, ta.data.toList⟩ = ⟨2, 0, s1.data.toList⟩)) (hv2 : Hid (Val.pshow ⟨kb, nb, tb.data.toList⟩ = ⟨2, 0, s2.data.toList⟩)) :
    Calls Tryz.prog 23 #[.agg #[.int .i64 ka, .int .i64 na, .string ta], .agg #[.int .i64 kb, .int .i64 nb, .string tb], .bool true] w (VRet 1 nr ⟨#[]⟩ w) := by
  have hS0 : M3 w (((w.alloc (.cells #[.int .i64 ka, .int .i64 na, .string ta] 25)).alloc (.cells #[.int .i64 kb, .int .i64 nb, .string tb] 25)).alloc (.cells #[.int .i64 0, .int .i64 0, .string ⟨#[]⟩] 25)) ka na ta kb nb tb := M3.new ..
  have hL0 := ((hL.alloc (.cells #[.int .i64 ka, .int .i64 na, .string ta] 25)).alloc (.cells #[.int .i64 kb, .int .i64 nb, .string tb] 25)).alloc (.cells #[.int .i64 0, .int .i64 0, .string ⟨#[]⟩] 25)
  obtain ⟨a0, a1, a2, a3, a4, a5⟩ := hS0.1.cells
  obtain ⟨a6, a7, a8, a9, a10, a11⟩ := hS0.2.1.cells
  have hah := Lib.hid ha
  have hbh := Lib.hid hb
  clear ha hb hL
  have hmk := make_ints ((s1.size + 1) * (s2.size + 1)) (Nat.le_trans (Nat.mul_le_mul (Nat.succ_le_succ l1) (Nat.succ_le_succ l2)) (by decide))
  obtain ⟨N, hN⟩ : ∃ N, N = (s1.size + 1) * (s2.size + 1) := ⟨_, rfl⟩
  have e1 : ((s1.size : Int) + 1) * ((s2.size : Int) + 1) = (N : Int) := by rw [hN]; simp
  have hN2 : N ≤ 160801 := by rw [hN]; exact Nat.le_trans (Nat.mul_le_mul (Nat.succ_le_succ l1) (Nat.succ_le_succ l2)) (by decide)
  have hmn : ∀ W : World, Memo (W.alloc (.cells (madeI N) 3)) W.heap.size s1.size s2.size (valG s1 s2) := by rw [hN]; exact fun W => Memo.new W _ _ _
  have hft : ∀ (gk : Nat) W, Memo W gk s1.size s2.size (valG s1 s2) → Calls Tryz.prog 49 #[.string s1, .string s2, .bool true, .slice (some ⟨gk, 0, none⟩) N N, .int .i64 0, .int .i64 0] W (RetFits gk N s1.size s2.size (valG s1 s2) r W) := fun gk W h => by
    have := rfits_glob s1 s2 gk N (by omega) (by omega) hN _ 0 0 W (Nat.zero_le _) (Nat.zero_le _) (Nat.lt_succ_self _) h
    rw [hr.out] at this
    exact this
  rw [← hN] at hmk
  replace hft := Lib.hid hft
  replace hmn := Lib.hid hmn
  clear hN
  go_enter Tryz.func23, Tryz.ntmps23
  go_wp2_with (first
    | (go_at_call 48; first
      | (have hq := hb1; refine (rshow_is kb nb tb _ hbh.out.1 hbh.out.2 hL1 2 s2 hv2).mono ?_; rintro e w2 ⟨rfl, hb2⟩; have hS2 := (hS1.on hb2).on (below_new w2 (.cells #[.int .i64 2, .int .i64 0, .string s2] 25)); have hs7 := (hs7.on hb2).alloc (.cells #[.int .i64 2, .int .i64 0, .string s2] 25); have hp8 := V3.new w2 2 0 s2; obtain ⟨b0, b1, b2, b3, b4, b5⟩ := hS2.2.2.1.cells; obtain ⟨c0, c1, c2, c3, c4, c5⟩ := hs7.cells; obtain ⟨d0, d1, d2, d3, d4, d5⟩ := hp8.cells)
      | (refine (rshow_is ka na ta _ hah.out.1 hah.out.2 hL0 2 s1 hv1).mono ?_; rintro e w1 ⟨rfl, hb1⟩; have hL1 := (hL0.below hb1).alloc (.cells #[.int .i64 2, .int .i64 0, .string s1] 25); have hS1 := (hS0.on hb1).on (below_new w1 (.cells #[.int .i64 2, .int .i64 0, .string s1] 25)); have hs7 := V3.new w1 2 0 s1; obtain ⟨e6, e7, e8, e9, e10, e11⟩ := hS1.2.1.cells)))
  obtain ⟨W3, hW3⟩ : ∃ W, w2.alloc (.cells #[.int .i64 2, .int .i64 0, .string s2] 25) = W := ⟨_, rfl⟩
  rw [hW3] at hS2 hs7 hp8 c0 c1 c2 c3 c4 c5 d0 d1 d2 d3 d4 d5 b0 b1 b2 b3 b4 b5
  first | rw [hW3] | skip
  clear hW3
  go_quiet (fail)
  have hS3 : M3 w (W3.drewN nq) ka na ta kb nb tb := hS2.on (below_drewN (Below.refl _ _) _)
  obtain ⟨W4, hW4⟩ : ∃ W, W3.drewN nq = W := ⟨_, rfl⟩
  rw [hW4] at hS3 ⊢
  clear hW4
  go_wp2_with (first
    | (go_at_call 49; refine (hft.out _ _ (hmn.out _)).mono ?_; rintro e w6 ⟨rfl, _, hb6⟩; have hS6 := hS3.on ((below_new W4 (.cells (madeI N) 3)).trans hb6))
    | (go_at_call 50; refine (rbool_eq _ nr hnr _).mono ?_; rintro e w7 ⟨rfl, hb7⟩; have hS7 := hS6.on hb7; obtain ⟨g0, g1, g2, g3, g4, g5⟩ := hS7.2.2.1.cells))
  exact bodyPost_ret (v := .agg #[.int .i64 1, .int .i64 nr, .string ⟨#[]⟩]) (by simp only [results, Tryz.results23]; go_simp) rfl ⟨rfl, below_put hS7.2.2.2 (by omega)⟩


theorem rmatchg_is (ka na : Int) (ta : ByteArray) (kb nb : Int) (tb : ByteArray) (w : World) (hL : Lits w) (ha : Val.inr na) (hb : Val.inr nb) (k n : Int) (hv : Hid (matchV (fun l => l) Fit.globL ⟨ka, na, ta.data.toList⟩ ⟨kb, nb, tb.data.toList⟩ = ⟨k, n, []⟩)) :
    Calls Tryz.prog 23 #[.agg #[.int .i64 ka, .int .i64 na, .string ta], .agg #[.int .i64 kb, .int .i64 nb, .string tb], .bool true] w (VRet k n ⟨#[]⟩ w) := by
  have hv' := hv.out
  unfold matchV at hv'
  rcases pshow_form ⟨ka, na, ta.data.toList⟩ ha with h1 | ⟨s1, h1, l1⟩
  · rw [if_pos (.inl (by rw [h1]))] at hv'
    cases hv'
    rcases pshow_form ⟨kb, nb, tb.data.toList⟩ hb with h2 | ⟨s2, h2, l2⟩
    · exact rmatchg_null1 ka na ta kb nb tb w hL ha hb ⟨#[]⟩ ⟨#[]⟩ 0 (Lib.hid h1) (Lib.hid h2)
    · exact rmatchg_null1 ka na ta kb nb tb w hL ha hb ⟨#[]⟩ s2 2 (Lib.hid h1) (Lib.hid h2)
  · rcases pshow_form ⟨kb, nb, tb.data.toList⟩ hb with h2 | ⟨s2, h2, l2⟩
    · rw [if_pos (.inr (by rw [h2]))] at hv'
      cases hv'
      exact rmatchg_null2 ka na ta kb nb tb w hL ha hb s1 ⟨#[]⟩ (Lib.hid h1) (Lib.hid h2)
    · rw [if_neg (by rw [h1, h2]; simp), h1, h2] at hv'
      cases hv'
      exact rmatchg_both ka na ta kb nb tb w hL ha hb s1 s2 l1 l2 _ (Lib.hid rfl) _ (Lib.hid rfl) (Lib.hid h1) (Lib.hid h2)

end Go.Proofs.YtmkgalcojoeniaaGreatDoor
