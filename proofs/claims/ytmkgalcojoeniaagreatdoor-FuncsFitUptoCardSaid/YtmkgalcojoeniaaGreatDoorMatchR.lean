/- Walks: the reference's Match at LIKE. -/
import Derived.Test.YtmkgalcojoeniaaGreatDoorFitsK
import Derived.Test.YtmkgalcojoeniaaGreatDoorLkM
import Derived.Test.YtmkgalcojoeniaaGreatDoorCalcRa
set_option maxRecDepth 100000
set_option linter.unusedVariables false
set_option linter.unusedSimpArgs false
namespace Go.Proofs.YtmkgalcojoeniaaGreatDoor
open Go.RowKit

theorem rbool_eq (b : Bool) (n : Int) (hn : Hid ((if b = true then (1 : Int) else 0) = n)) (w : World) : Calls Tryz.prog 50 #[.bool b] w (VRet 1 n ⟨#[]⟩ w) := by
  have := rbool_any b w
  rw [hn.out] at this
  exact this
theorem rlower_any (s : ByteArray) (w : World) (hs : s.size ≤ 1048576) (t : ByteArray) (ht : Hid (bs (s.data.toList.map Txt.lower) = t)) : Calls Tryz.prog 15 #[.string s] w fun e w' => e = .returned (.string t) ∧ Below w.heap.size w w' := by
  have hf := fold_one s w (by omega)
  rw [ht.out] at hf
  go_enter Tryz.func15, Tryz.ntmps15
  go_wp2_with (go_at_call 38; refine hf.mono ?_; rintro e w1 ⟨rfl, hb1⟩)
  go_ret
  exact ⟨rfl, hb1⟩
theorem int0_info : (Tryz.prog.info? 3).map (fun i => (i.zero, i.size, i.bytes)) = some (some (.int .i64 0), 1, 8) := by kernel_rfl
def madeI (N : Nat) : Array Value := madeCells #[.int .i64 0] N
theorem madeI_at (N j : Nat) (h : j < N) : (madeI N)[j]? = some (.int .i64 0) := by
  unfold madeI madeCells
  simp [h, Nat.mod_one]
theorem make_ints (N : Nat) (hn : N ≤ 1099513724929) (W : World) : (Instr.makeSlice 77 (.int .i64 (N : Int)) (.int .i64 (N : Int))).run Tryz.prog W = .ok (.slice (some ⟨W.heap.size, 0, none⟩) N N) (W.alloc (.cells (madeI N) 3)) := by
  obtain ⟨i, hi, hz, hs, hb⟩ := info_parts int0_info
  have := run_make (P := Tryz.prog) W 77 3 i (.int .i64 0) Tryz.underlying77 hi hz .i64 .i64 (N : Int) (N : Int) (by omega) (Int.le_refl _) (by rw [hb]; omega) (by omega)
  rw [this, hs]
  have e : ((N : Int)).toNat = N := by omega
  rw [e, Nat.mul_one]
  rfl
theorem Memo.new (W : World) (n m : Nat) (val : Nat → Nat → Bool) : Memo (W.alloc (.cells (madeI ((n + 1) * (m + 1))) 3)) W.heap.size n m val := by
  have hh := heap_new W (.cells (madeI ((n + 1) * (m + 1))) 3)
  obtain ⟨W', hW'⟩ : ∃ W', W.alloc (.cells (madeI ((n + 1) * (m + 1))) 3) = W' := ⟨_, rfl⟩
  rw [hW'] at hh ⊢
  refine ⟨(Array.getElem?_eq_some_iff.1 hh).1, fun i j hi hj => ⟨0, ?_, ?_, .inl rfl⟩⟩
  · rw [cell_of_row _ _ _ _ _ _ hh]; exact madeI_at _ _ (place_lt hi hj)
  · simp [World.frozen?, hh]

set_option maxHeartbeats 4000000 in
theorem rmatch_null1 (ka na : Int) (ta : ByteArray) (kb nb : Int) (tb : ByteArray) (w : World) (hL : Lits w) (ha : Val.inr na) (hb : Val.inr nb) (s1 s2 : ByteArray) (k2 : Int) (hv1 : Hid (Val.pshow ⟨ka, na, ta.data.toList⟩ = ⟨0, 0, s1.data.toList⟩)) (hv2 : Hid (Val.pshow ⟨kb, nb, tb.data.toList⟩ = ⟨k2, 0, s2.data.toList⟩)) :
    Calls Tryz.prog 23 #[.agg #[.int .i64 ka, .int .i64 na, .string ta], .agg #[.int .i64 kb, .int .i64 nb, .string tb], .bool false] w (VRet 0 0 ⟨#[]⟩ w) := by
  have hS0 : M3 w (((w.alloc (.cells #[.int .i64 ka, .int .i64 na, .string ta] 25)).alloc (.cells #[.int .i64 kb, .int .i64 nb, .string tb] 25)).alloc (.cells #[.int .i64 0, .int .i64 0, .string ⟨#[]⟩] 25)) ka na ta kb nb tb := M3.new ..
  have hL0 := ((hL.alloc (.cells #[.int .i64 ka, .int .i64 na, .string ta] 25)).alloc (.cells #[.int .i64 kb, .int .i64 nb, .string tb] 25)).alloc (.cells #[.int .i64 0, .int .i64 0, .string ⟨#[]⟩] 25)
  obtain ⟨a0, a1, a2, a3, a4, a5⟩ := hS0.1.cells
  obtain ⟨a6, a7, a8, a9, a10, a11⟩ := hS0.2.1.cells
  have hah := Lib.hid ha
  have hbh := Lib.hid hb
  clear ha hb hL
  go_enter Tryz.func23, Tryz.ntmps23
  go_wp2_with (first
    | (go_at_call 48; first
      | (have hq := hb1; refine (rshow_is kb nb tb _ hbh.out.1 hbh.out.2 hL1 k2 s2 hv2).mono ?_; rintro e w2 ⟨rfl, hb2⟩; have hS2 := (hS1.on hb2).on (below_new w2 (.cells #[.int .i64 k2, .int .i64 0, .string s2] 25)); have hs7 := (hs7.on hb2).alloc (.cells #[.int .i64 k2, .int .i64 0, .string s2] 25); have hp8 := V3.new w2 k2 0 s2; obtain ⟨b0, b1, b2, b3, b4, b5⟩ := hS2.2.2.1.cells; obtain ⟨c0, c1, c2, c3, c4, c5⟩ := hs7.cells; obtain ⟨d0, d1, d2, d3, d4, d5⟩ := hp8.cells)
      | (refine (rshow_is ka na ta _ hah.out.1 hah.out.2 hL0 0 s1 hv1).mono ?_; rintro e w1 ⟨rfl, hb1⟩; have hL1 := (hL0.below hb1).alloc (.cells #[.int .i64 0, .int .i64 0, .string s1] 25); have hS1 := (hS0.on hb1).on (below_new w1 (.cells #[.int .i64 0, .int .i64 0, .string s1] 25)); have hs7 := V3.new w1 0 0 s1; obtain ⟨e6, e7, e8, e9, e10, e11⟩ := hS1.2.1.cells)))
  exact bodyPost_ret (v := .agg #[.int .i64 0, .int .i64 0, .string ⟨#[]⟩]) (by simp only [results, Tryz.results23]; go_simp) rfl ⟨rfl, below_put hS2.2.2.2 (by omega)⟩

set_option maxHeartbeats 4000000 in
theorem rmatch_null2 (ka na : Int) (ta : ByteArray) (kb nb : Int) (tb : ByteArray) (w : World) (hL : Lits w) (ha : Val.inr na) (hb : Val.inr nb) (s1 s2 : ByteArray) (hv1 : Hid (Val.pshow ⟨ka, na, ta.data.toList⟩ = ⟨2, 0, s1.data.toList⟩)) (hv2 : Hid (Val.pshow ⟨kb, nb, tb.data.toList⟩ = ⟨0, 0, s2.data.toList⟩)) :
    Calls Tryz.prog 23 #[.agg #[.int .i64 ka, .int .i64 na, .string ta], .agg #[.int .i64 kb, .int .i64 nb, .string tb], .bool false] w (VRet 0 0 ⟨#[]⟩ w) := by
  have hS0 : M3 w (((w.alloc (.cells #[.int .i64 ka, .int .i64 na, .string ta] 25)).alloc (.cells #[.int .i64 kb, .int .i64 nb, .string tb] 25)).alloc (.cells #[.int .i64 0, .int .i64 0, .string ⟨#[]⟩] 25)) ka na ta kb nb tb := M3.new ..
  have hL0 := ((hL.alloc (.cells #[.int .i64 ka, .int .i64 na, .string ta] 25)).alloc (.cells #[.int .i64 kb, .int .i64 nb, .string tb] 25)).alloc (.cells #[.int .i64 0, .int .i64 0, .string ⟨#[]⟩] 25)
  obtain ⟨a0, a1, a2, a3, a4, a5⟩ := hS0.1.cells
  obtain ⟨a6, a7, a8, a9, a10, a11⟩ := hS0.2.1.cells
  have hah := Lib.hid ha
  have hbh := Lib.hid hb
  clear ha hb hL
  go_enter Tryz.func23, Tryz.ntmps23
  go_wp2_with (first
    | (go_at_call 48; first
      | (have hq := hb1; refine (rshow_is kb nb tb _ hbh.out.1 hbh.out.2 hL1 0 s2 hv2).mono ?_; rintro e w2 ⟨rfl, hb2⟩; have hS2 := (hS1.on hb2).on (below_new w2 (.cells #[.int .i64 0, .int .i64 0, .string s2] 25)); have hs7 := (hs7.on hb2).alloc (.cells #[.int .i64 0, .int .i64 0, .string s2] 25); have hp8 := V3.new w2 0 0 s2; obtain ⟨b0, b1, b2, b3, b4, b5⟩ := hS2.2.2.1.cells; obtain ⟨c0, c1, c2, c3, c4, c5⟩ := hs7.cells; obtain ⟨d0, d1, d2, d3, d4, d5⟩ := hp8.cells)
      | (refine (rshow_is ka na ta _ hah.out.1 hah.out.2 hL0 2 s1 hv1).mono ?_; rintro e w1 ⟨rfl, hb1⟩; have hL1 := (hL0.below hb1).alloc (.cells #[.int .i64 2, .int .i64 0, .string s1] 25); have hS1 := (hS0.on hb1).on (below_new w1 (.cells #[.int .i64 2, .int .i64 0, .string s1] 25)); have hs7 := V3.new w1 2 0 s1; obtain ⟨e6, e7, e8, e9, e10, e11⟩ := hS1.2.1.cells)))
  exact bodyPost_ret (v := .agg #[.int .i64 0, .int .i64 0, .string ⟨#[]⟩]) (by simp only [results, Tryz.results23]; go_simp) rfl ⟨rfl, below_put hS2.2.2.2 (by omega)⟩

set_option maxHeartbeats 4000000 in
theorem rmatch_both (ka na : Int) (ta : ByteArray) (kb nb : Int) (tb : ByteArray) (w : World) (hL : Lits w) (ha : Val.inr na) (hb : Val.inr nb) (s1 s2 : ByteArray) (R1 R2 : ByteArray) (l1 : R1.size ≤ 400) (l2 : R2.size ≤ 400) (m1 : s1.size ≤ 1048576) (m2 : s2.size ≤ 1048576) (hR1 : Hid (bs (s1.data.toList.map Txt.lower) = R1)) (hR2 : Hid (bs (s2.data.toList.map Txt.lower) = R2)) (r : Bool) (hr : Hid (valL R1 R2 0 0 = r)) (nr : Int) (hnr : Hid ((if r = true then (1 : Int) else 0) = nr)) (hv1 : Hid (Val.pshow ⟨ka, na, ta.data.toList⟩ = ⟨2, 0, s1.data.toList⟩)) (hv2 : Hid (Val.pshow ⟨kb, nb, tb.data.toList⟩ = ⟨2, 0, s2.data.toList⟩)) :
    Calls Tryz.prog 23 #[.agg #[.int .i64 ka, .int .i64 na, .string ta], .agg #[.int .i64 kb, .int .i64 nb, .string tb], .bool false] w (VRet 1 nr ⟨#[]⟩ w) := by
  have hS0 : M3 w (((w.alloc (.cells #[.int .i64 ka, .int .i64 na, .string ta] 25)).alloc (.cells #[.int .i64 kb, .int .i64 nb, .string tb] 25)).alloc (.cells #[.int .i64 0, .int .i64 0, .string ⟨#[]⟩] 25)) ka na ta kb nb tb := M3.new ..
  have hL0 := ((hL.alloc (.cells #[.int .i64 ka, .int .i64 na, .string ta] 25)).alloc (.cells #[.int .i64 kb, .int .i64 nb, .string tb] 25)).alloc (.cells #[.int .i64 0, .int .i64 0, .string ⟨#[]⟩] 25)
  obtain ⟨a0, a1, a2, a3, a4, a5⟩ := hS0.1.cells
  obtain ⟨a6, a7, a8, a9, a10, a11⟩ := hS0.2.1.cells
  have hah := Lib.hid ha
  have hbh := Lib.hid hb
  clear ha hb hL
  have hmk := make_ints ((R1.size + 1) * (R2.size + 1)) (Nat.le_trans (Nat.mul_le_mul (Nat.succ_le_succ l1) (Nat.succ_le_succ l2)) (by decide))
  obtain ⟨N, hN⟩ : ∃ N, N = (R1.size + 1) * (R2.size + 1) := ⟨_, rfl⟩
  have e1 : ((R1.size : Int) + 1) * ((R2.size : Int) + 1) = (N : Int) := by rw [hN]; simp
  have hN2 : N ≤ 160801 := by rw [hN]; exact Nat.le_trans (Nat.mul_le_mul (Nat.succ_le_succ l1) (Nat.succ_le_succ l2)) (by decide)
  have hmn : ∀ W : World, Memo (W.alloc (.cells (madeI N) 3)) W.heap.size R1.size R2.size (valL R1 R2) := by rw [hN]; exact fun W => Memo.new W _ _ _
  have hft : ∀ (gk : Nat) W, Memo W gk R1.size R2.size (valL R1 R2) → Calls Tryz.prog 49 #[.string R1, .string R2, .bool false, .slice (some ⟨gk, 0, none⟩) N N, .int .i64 0, .int .i64 0] W (RetFits gk N R1.size R2.size (valL R1 R2) r W) := fun gk W h => by
    have := rfits_like R1 R2 gk N (by omega) (by omega) hN _ 0 0 W (Nat.zero_le _) (Nat.zero_le _) (Nat.lt_succ_self _) h
    rw [hr.out] at this
    exact this
  rw [← hN] at hmk
  replace hft := Lib.hid hft
  replace hmn := Lib.hid hmn
  clear hN
  go_enter Tryz.func23, Tryz.ntmps23
  go_wp2_with (first
    | (go_at_call 48; first
      | (have hq := hb1; refine (rshow_is kb nb tb _ hbh.out.1 hbh.out.2 hL1 2 s2 hv2).mono ?_; rintro e w2 ⟨rfl, hb2⟩; have hS2 := (hS1.on hb2).on (below_new w2 (.cells #[.int .i64 2, .int .i64 0, .string s2] 25)); have hs7 := (hs7.on hb2).alloc (.cells #[.int .i64 2, .int .i64 0, .string s2] 25); have hp8 := V3.new w2 2 0 s2; obtain ⟨b0, b1, b2, b3, b4, b5⟩ := hS2.2.2.1.cells; obtain ⟨c0, c1, c2, c3, c4, c5⟩ := hs7.cells; obtain ⟨d0, d1, d2, d3, d4, d5⟩ := hp8.cells)
      | (refine (rshow_is ka na ta _ hah.out.1 hah.out.2 hL0 2 s1 hv1).mono ?_; rintro e w1 ⟨rfl, hb1⟩; have hL1 := (hL0.below hb1).alloc (.cells #[.int .i64 2, .int .i64 0, .string s1] 25); have hS1 := (hS0.on hb1).on (below_new w1 (.cells #[.int .i64 2, .int .i64 0, .string s1] 25)); have hs7 := V3.new w1 2 0 s1; obtain ⟨e6, e7, e8, e9, e10, e11⟩ := hS1.2.1.cells)))
  obtain ⟨W3, hW3⟩ : ∃ W, w2.alloc (.cells #[.int .i64 2, .int .i64 0, .string s2] 25) = W := ⟨_, rfl⟩
  rw [hW3] at hS2 hs7 hp8 c0 c1 c2 c3 c4 c5 d0 d1 d2 d3 d4 d5 b0 b1 b2 b3 b4 b5
  first | rw [hW3] | skip
  clear hW3
  go_quiet (fail)
  have hS3 : M3 w (W3.drewN nq) ka na ta kb nb tb := hS2.on (below_drewN (Below.refl _ _) _)
  obtain ⟨W4, hW4⟩ : ∃ W, W3.drewN nq = W := ⟨_, rfl⟩
  rw [hW4] at hS3 ⊢
  clear hW4
  go_wp2_with (first
    | (go_at_call 15; first
      | (have hq := hb4; refine (rlower_any s2 _ m2 _ hR2).mono ?_; rintro e w5 ⟨rfl, hb5⟩; have hS5 := hS4.on hb5)
      | (refine (rlower_any s1 _ m1 _ hR1).mono ?_; rintro e w4 ⟨rfl, hb4⟩; have hS4 := hS3.on hb4))
    | (go_at_call 49; refine (hft.out _ _ (hmn.out _)).mono ?_; rintro e w6 ⟨rfl, _, hb6⟩; have hS6 := hS5.on ((below_new w5 (.cells (madeI N) 3)).trans hb6))
    | (go_at_call 50; refine (rbool_eq _ nr hnr _).mono ?_; rintro e w7 ⟨rfl, hb7⟩; have hS7 := hS6.on hb7; obtain ⟨g0, g1, g2, g3, g4, g5⟩ := hS7.2.2.1.cells))
  exact bodyPost_ret (v := .agg #[.int .i64 1, .int .i64 nr, .string ⟨#[]⟩]) (by simp only [results, Tryz.results23]; go_simp) rfl ⟨rfl, below_put hS7.2.2.2 (by omega)⟩


theorem rmatch_is (ka na : Int) (ta : ByteArray) (kb nb : Int) (tb : ByteArray) (w : World) (hL : Lits w) (ha : Val.inr na) (hb : Val.inr nb) (k n : Int) (hv : Hid (matchV (fun l => l.map Txt.lower) (fun l => Fit.like (l.map Txt.lower)) ⟨ka, na, ta.data.toList⟩ ⟨kb, nb, tb.data.toList⟩ = ⟨k, n, []⟩)) :
    Calls Tryz.prog 23 #[.agg #[.int .i64 ka, .int .i64 na, .string ta], .agg #[.int .i64 kb, .int .i64 nb, .string tb], .bool false] w (VRet k n ⟨#[]⟩ w) := by
  have hv' := hv.out
  unfold matchV at hv'
  rcases pshow_form ⟨ka, na, ta.data.toList⟩ ha with h1 | ⟨s1, h1, l1⟩
  · rw [if_pos (.inl (by rw [h1]))] at hv'
    cases hv'
    rcases pshow_form ⟨kb, nb, tb.data.toList⟩ hb with h2 | ⟨s2, h2, l2⟩
    · exact rmatch_null1 ka na ta kb nb tb w hL ha hb ⟨#[]⟩ ⟨#[]⟩ 0 (Lib.hid h1) (Lib.hid h2)
    · exact rmatch_null1 ka na ta kb nb tb w hL ha hb ⟨#[]⟩ s2 2 (Lib.hid h1) (Lib.hid h2)
  · rcases pshow_form ⟨kb, nb, tb.data.toList⟩ hb with h2 | ⟨s2, h2, l2⟩
    · rw [if_pos (.inr (by rw [h2]))] at hv'
      cases hv'
      exact rmatch_null2 ka na ta kb nb tb w hL ha hb s1 ⟨#[]⟩ (Lib.hid h1) (Lib.hid h2)
    · rw [if_neg (by rw [h1, h2]; simp), h1, h2] at hv'
      cases hv'
      exact rmatch_both ka na ta kb nb tb w hL ha hb s1 s2 (bs (s1.data.toList.map Txt.lower)) (bs (s2.data.toList.map Txt.lower)) (by rw [bs_size, List.length_map]; exact l1) (by rw [bs_size, List.length_map]; exact l2) (by omega) (by omega) (Lib.hid rfl) (Lib.hid rfl) _ (Lib.hid rfl) _ (Lib.hid rfl) (Lib.hid h1) (Lib.hid h2)

end Go.Proofs.YtmkgalcojoeniaaGreatDoor
