/- Walks: 'both' lets two numbers be reckoned with. -/
import Derived.Test.YtmkgalcojoeniaaGreatDoorCalcB1
set_option maxRecDepth 100000
set_option linter.unusedVariables false
set_option linter.unusedSimpArgs false
namespace Go.Proofs.YtmkgalcojoeniaaGreatDoor
open Go.RowKit

/-- a function value that holds another one -/
def BothP (fid : Nat) (w : World) (e : Ending) (w' : World) : Prop := ∃ g, e = .returned (.func (Fn.func 220) #[] #[.pointer (some ⟨g, 0, none⟩)]) ∧ w'.cell? ⟨g, 0, none⟩ = some (.func (Fn.func fid) #[] #[]) ∧ g < w'.heap.size ∧ Below w.heap.size w w'
theorem both_any (fid : Nat) (w : World) : Calls Tryz.prog 197 #[.func (Fn.func fid) #[] #[]] w (BothP fid w) := by
  go_enter Tryz.func197, Tryz.ntmps197
  go_wp2
  go_ret
  have hh := heap_new w (.cells #[.func (Fn.func fid) #[] #[]] 183)
  exact ⟨w.heap.size, rfl, cell_of_row _ _ 0 _ 183 _ hh, by simp, below_new _ _⟩

set_option maxHeartbeats 4000000 in
theorem both_yes (fid : Nat) (eg : ∀ args w, (callFunc fid args).run Tryz.prog w = .ok (.enter fid args) w) (ka na : Int) (ta : ByteArray) (kb nb : Int) (tb : ByteArray) (g : Nat) (w : World) (hL : Lits w) (hg : w.cell? ⟨g, 0, none⟩ = some (.func (Fn.func fid) #[] #[])) (hgl : g < w.heap.size) (n1 n2 : Int) (hv1 : Hid (Val.num ⟨ka, na, ta.data.toList⟩ = ⟨1, n1, []⟩)) (hv2 : Hid (Val.num ⟨kb, nb, tb.data.toList⟩ = ⟨1, n2, []⟩)) (r : Int) (hdo : ∀ w', Calls Tryz.prog fid #[.int .i64 n1, .int .i64 n2] w' fun e w'' => e = .returned (.tuple #[.int .i64 r, .bool true]) ∧ w' = w'') :
    Calls Tryz.prog 220 #[.agg #[.int .i64 ka, .int .i64 na, .string ta], .agg #[.int .i64 kb, .int .i64 nb, .string tb], .pointer (some ⟨g, 0, none⟩)] w (VRet 1 r ⟨#[]⟩ w) := by
  have hS := start3 w (.int .i64 ka) (.int .i64 na) (.string ta) (.int .i64 kb) (.int .i64 nb) (.string tb) (.int .i64 0) (.int .i64 0) (.string ⟨#[]⟩) 25 25 25
  have hLd : Lits (((w.alloc (.cells #[.int .i64 ka, .int .i64 na, .string ta] 25)).alloc (.cells #[.int .i64 kb, .int .i64 nb, .string tb] 25)).alloc (.cells #[.int .i64 0, .int .i64 0, .string ⟨#[]⟩] 25)).drew := (((hL.alloc _).alloc _).alloc _).below (Below.refl _ _).drew
  have hSd := keepd3 hS
  clear hS
  go_enter Tryz.func220, Tryz.ntmps220
  go_wp2_with fail
  go_region_with (go_at_call 127; first
    | (refine (cnum_is _ _ _ _ hL1 _ _ (by assumption)).mono ?_; rintro e w2 ⟨rfl, hb2⟩; have hS2 := keep3 hS1 hb2; obtain ⟨cb0, cb1, cb2, cb3, cb4, cb5, cb6, cb7, cb8, cb9, cb10, cb11, cb12, cb13, cb14, cb15, cb16, cb17, hz2, hB2⟩ := id hS2; have hg2 : w2.cell? ⟨g, 0, none⟩ = some (.func (Fn.func fid) #[] #[]) := (hB2.cell (p := ⟨g, 0, none⟩) hgl).trans hg)
    | (refine (cnum_is _ _ _ _ hLd _ _ (by assumption)).mono ?_; rintro e w1 ⟨rfl, hb1⟩; have hS1 := keep3 hSd hb1; obtain ⟨ca0, ca1, ca2, ca3, ca4, ca5, ca6, ca7, ca8, ca9, ca10, ca11, ca12, ca13, ca14, ca15, ca16, ca17, hz, hB⟩ := id hS1; have hL1 := hLd.below hb1))
  all_goals (
    have hne0 : ¬ w.heap.size = g := by omega
    have hne1 : ¬ w.heap.size + 1 = g := by omega
    go_wp2_with (first
      | (go_at_call 81; refine (vint_any _ _).mono ?_; rintro e w3 ⟨rfl, hb3⟩; have hS3 := keep3 (put3_1 _ _ _ (put3_0 _ _ _ hS2)) hb3; obtain ⟨cc0, cc1, cc2, cc3, cc4, cc5, cc6, cc7, cc8, cc9, cc10, cc11, cc12, cc13, cc14, cc15, cc16, cc17, hz3, hB3⟩ := id hS3)
      | (refine (hdo _).mono ?_; rintro e w4 ⟨rfl, rfl⟩))
    exact bodyPost_ret (v := .agg #[.int .i64 1, .int .i64 r, .string ⟨#[]⟩]) (by simp only [results, Tryz.results220]; go_simp) rfl ⟨rfl, below_setg hB3 (by omega)⟩)
set_option maxHeartbeats 4000000 in
theorem both_no (fid : Nat) (eg : ∀ args w, (callFunc fid args).run Tryz.prog w = .ok (.enter fid args) w) (ka na : Int) (ta : ByteArray) (kb nb : Int) (tb : ByteArray) (g : Nat) (w : World) (hL : Lits w) (hg : w.cell? ⟨g, 0, none⟩ = some (.func (Fn.func fid) #[] #[])) (hgl : g < w.heap.size) (n1 n2 : Int) (hv1 : Hid (Val.num ⟨ka, na, ta.data.toList⟩ = ⟨1, n1, []⟩)) (hv2 : Hid (Val.num ⟨kb, nb, tb.data.toList⟩ = ⟨1, n2, []⟩)) (r : Int) (hdo : ∀ w', Calls Tryz.prog fid #[.int .i64 n1, .int .i64 n2] w' fun e w'' => e = .returned (.tuple #[.int .i64 r, .bool false]) ∧ w' = w'') :
    Calls Tryz.prog 220 #[.agg #[.int .i64 ka, .int .i64 na, .string ta], .agg #[.int .i64 kb, .int .i64 nb, .string tb], .pointer (some ⟨g, 0, none⟩)] w (VRet 0 0 ⟨#[]⟩ w) := by
  have hS := start3 w (.int .i64 ka) (.int .i64 na) (.string ta) (.int .i64 kb) (.int .i64 nb) (.string tb) (.int .i64 0) (.int .i64 0) (.string ⟨#[]⟩) 25 25 25
  have hLd : Lits (((w.alloc (.cells #[.int .i64 ka, .int .i64 na, .string ta] 25)).alloc (.cells #[.int .i64 kb, .int .i64 nb, .string tb] 25)).alloc (.cells #[.int .i64 0, .int .i64 0, .string ⟨#[]⟩] 25)).drew := (((hL.alloc _).alloc _).alloc _).below (Below.refl _ _).drew
  have hSd := keepd3 hS
  clear hS
  go_enter Tryz.func220, Tryz.ntmps220
  go_wp2_with fail
  go_region_with (go_at_call 127; first
    | (refine (cnum_is _ _ _ _ hL1 _ _ (by assumption)).mono ?_; rintro e w2 ⟨rfl, hb2⟩; have hS2 := keep3 hS1 hb2; obtain ⟨cb0, cb1, cb2, cb3, cb4, cb5, cb6, cb7, cb8, cb9, cb10, cb11, cb12, cb13, cb14, cb15, cb16, cb17, hz2, hB2⟩ := id hS2; have hg2 : w2.cell? ⟨g, 0, none⟩ = some (.func (Fn.func fid) #[] #[]) := (hB2.cell (p := ⟨g, 0, none⟩) hgl).trans hg)
    | (refine (cnum_is _ _ _ _ hLd _ _ (by assumption)).mono ?_; rintro e w1 ⟨rfl, hb1⟩; have hS1 := keep3 hSd hb1; obtain ⟨ca0, ca1, ca2, ca3, ca4, ca5, ca6, ca7, ca8, ca9, ca10, ca11, ca12, ca13, ca14, ca15, ca16, ca17, hz, hB⟩ := id hS1; have hL1 := hLd.below hb1))
  all_goals (
    have hne0 : ¬ w.heap.size = g := by omega
    have hne1 : ¬ w.heap.size + 1 = g := by omega
    go_wp2_with (first
      | (go_at_call 146; refine (cnull_any _).mono ?_; rintro e w3 ⟨rfl, hb3⟩; have hS3 := keep3 (put3_1 _ _ _ (put3_0 _ _ _ hS2)) hb3; obtain ⟨cc0, cc1, cc2, cc3, cc4, cc5, cc6, cc7, cc8, cc9, cc10, cc11, cc12, cc13, cc14, cc15, cc16, cc17, hz3, hB3⟩ := id hS3)
      | (refine (hdo _).mono ?_; rintro e w4 ⟨rfl, rfl⟩))
    exact bodyPost_ret (v := .agg #[.int .i64 0, .int .i64 0, .string ⟨#[]⟩]) (by simp only [results, Tryz.results220]; go_simp) rfl ⟨rfl, below_setg hB3 (by omega)⟩)
set_option maxHeartbeats 4000000 in
theorem both_null1 (fid : Nat) (eg : ∀ args w, (callFunc fid args).run Tryz.prog w = .ok (.enter fid args) w) (ka na : Int) (ta : ByteArray) (kb nb : Int) (tb : ByteArray) (g : Nat) (w : World) (hL : Lits w) (hg : w.cell? ⟨g, 0, none⟩ = some (.func (Fn.func fid) #[] #[])) (hgl : g < w.heap.size) (n1 k2 n2 : Int) (hv1 : Hid (Val.num ⟨ka, na, ta.data.toList⟩ = ⟨0, n1, []⟩)) (hv2 : Hid (Val.num ⟨kb, nb, tb.data.toList⟩ = ⟨k2, n2, []⟩)) :
    Calls Tryz.prog 220 #[.agg #[.int .i64 ka, .int .i64 na, .string ta], .agg #[.int .i64 kb, .int .i64 nb, .string tb], .pointer (some ⟨g, 0, none⟩)] w (VRet 0 0 ⟨#[]⟩ w) := by
  have hS := start3 w (.int .i64 ka) (.int .i64 na) (.string ta) (.int .i64 kb) (.int .i64 nb) (.string tb) (.int .i64 0) (.int .i64 0) (.string ⟨#[]⟩) 25 25 25
  have hLd : Lits (((w.alloc (.cells #[.int .i64 ka, .int .i64 na, .string ta] 25)).alloc (.cells #[.int .i64 kb, .int .i64 nb, .string tb] 25)).alloc (.cells #[.int .i64 0, .int .i64 0, .string ⟨#[]⟩] 25)).drew := (((hL.alloc _).alloc _).alloc _).below (Below.refl _ _).drew
  have hSd := keepd3 hS
  clear hS
  go_enter Tryz.func220, Tryz.ntmps220
  go_wp2_with fail
  go_region_with (go_at_call 127; first
    | (refine (cnum_is _ _ _ _ hL1 _ _ (by assumption)).mono ?_; rintro e w2 ⟨rfl, hb2⟩; have hS2 := keep3 hS1 hb2; obtain ⟨cb0, cb1, cb2, cb3, cb4, cb5, cb6, cb7, cb8, cb9, cb10, cb11, cb12, cb13, cb14, cb15, cb16, cb17, hz2, hB2⟩ := id hS2; have hg2 : w2.cell? ⟨g, 0, none⟩ = some (.func (Fn.func fid) #[] #[]) := (hB2.cell (p := ⟨g, 0, none⟩) hgl).trans hg)
    | (refine (cnum_is _ _ _ _ hLd _ _ (by assumption)).mono ?_; rintro e w1 ⟨rfl, hb1⟩; have hS1 := keep3 hSd hb1; obtain ⟨ca0, ca1, ca2, ca3, ca4, ca5, ca6, ca7, ca8, ca9, ca10, ca11, ca12, ca13, ca14, ca15, ca16, ca17, hz, hB⟩ := id hS1; have hL1 := hLd.below hb1))
  all_goals (
    have hne0 : ¬ w.heap.size = g := by omega
    have hne1 : ¬ w.heap.size + 1 = g := by omega
    go_wp2_with (go_at_call 146; refine (cnull_any _).mono ?_; rintro e w3 ⟨rfl, hb3⟩; have hS3 := keep3 (put3_1 _ _ _ (put3_0 _ _ _ hS2)) hb3; obtain ⟨cc0, cc1, cc2, cc3, cc4, cc5, cc6, cc7, cc8, cc9, cc10, cc11, cc12, cc13, cc14, cc15, cc16, cc17, hz3, hB3⟩ := id hS3)
    exact bodyPost_ret (v := .agg #[.int .i64 0, .int .i64 0, .string ⟨#[]⟩]) (by simp only [results, Tryz.results220]; go_simp) rfl ⟨rfl, below_setg hB3 (by omega)⟩)
set_option maxHeartbeats 4000000 in
theorem both_null2 (fid : Nat) (eg : ∀ args w, (callFunc fid args).run Tryz.prog w = .ok (.enter fid args) w) (ka na : Int) (ta : ByteArray) (kb nb : Int) (tb : ByteArray) (g : Nat) (w : World) (hL : Lits w) (hg : w.cell? ⟨g, 0, none⟩ = some (.func (Fn.func fid) #[] #[])) (hgl : g < w.heap.size) (n1 n2 : Int) (hv1 : Hid (Val.num ⟨ka, na, ta.data.toList⟩ = ⟨1, n1, []⟩)) (hv2 : Hid (Val.num ⟨kb, nb, tb.data.toList⟩ = ⟨0, n2, []⟩)) :
    Calls Tryz.prog 220 #[.agg #[.int .i64 ka, .int .i64 na, .string ta], .agg #[.int .i64 kb, .int .i64 nb, .string tb], .pointer (some ⟨g, 0, none⟩)] w (VRet 0 0 ⟨#[]⟩ w) := by
  have hS := start3 w (.int .i64 ka) (.int .i64 na) (.string ta) (.int .i64 kb) (.int .i64 nb) (.string tb) (.int .i64 0) (.int .i64 0) (.string ⟨#[]⟩) 25 25 25
  have hLd : Lits (((w.alloc (.cells #[.int .i64 ka, .int .i64 na, .string ta] 25)).alloc (.cells #[.int .i64 kb, .int .i64 nb, .string tb] 25)).alloc (.cells #[.int .i64 0, .int .i64 0, .string ⟨#[]⟩] 25)).drew := (((hL.alloc _).alloc _).alloc _).below (Below.refl _ _).drew
  have hSd := keepd3 hS
  clear hS
  go_enter Tryz.func220, Tryz.ntmps220
  go_wp2_with fail
  go_region_with (go_at_call 127; first
    | (refine (cnum_is _ _ _ _ hL1 _ _ (by assumption)).mono ?_; rintro e w2 ⟨rfl, hb2⟩; have hS2 := keep3 hS1 hb2; obtain ⟨cb0, cb1, cb2, cb3, cb4, cb5, cb6, cb7, cb8, cb9, cb10, cb11, cb12, cb13, cb14, cb15, cb16, cb17, hz2, hB2⟩ := id hS2; have hg2 : w2.cell? ⟨g, 0, none⟩ = some (.func (Fn.func fid) #[] #[]) := (hB2.cell (p := ⟨g, 0, none⟩) hgl).trans hg)
    | (refine (cnum_is _ _ _ _ hLd _ _ (by assumption)).mono ?_; rintro e w1 ⟨rfl, hb1⟩; have hS1 := keep3 hSd hb1; obtain ⟨ca0, ca1, ca2, ca3, ca4, ca5, ca6, ca7, ca8, ca9, ca10, ca11, ca12, ca13, ca14, ca15, ca16, ca17, hz, hB⟩ := id hS1; have hL1 := hLd.below hb1))
  all_goals (
    have hne0 : ¬ w.heap.size = g := by omega
    have hne1 : ¬ w.heap.size + 1 = g := by omega
    go_wp2_with (go_at_call 146; refine (cnull_any _).mono ?_; rintro e w3 ⟨rfl, hb3⟩; have hS3 := keep3 (put3_1 _ _ _ (put3_0 _ _ _ hS2)) hb3; obtain ⟨cc0, cc1, cc2, cc3, cc4, cc5, cc6, cc7, cc8, cc9, cc10, cc11, cc12, cc13, cc14, cc15, cc16, cc17, hz3, hB3⟩ := id hS3)
    exact bodyPost_ret (v := .agg #[.int .i64 0, .int .i64 0, .string ⟨#[]⟩]) (by simp only [results, Tryz.results220]; go_simp) rfl ⟨rfl, below_setg hB3 (by omega)⟩)

/-- WHAT 'both' MAKES OF AN ARITHMETIC -/
theorem both_is (fid : Nat) (q : Int → Int → Int × Bool) (eg : ∀ args w, (callFunc fid args).run Tryz.prog w = .ok (.enter fid args) w) (hf : ∀ x y w, Val.inr x → Val.inr y → Calls Tryz.prog fid #[.int .i64 x, .int .i64 y] w (DoP (q x y) w))
    (ka na : Int) (ta : ByteArray) (kb nb : Int) (tb : ByteArray) (g : Nat) (w : World) (hL : Lits w) (hg : w.cell? ⟨g, 0, none⟩ = some (.func (Fn.func fid) #[] #[])) (hgl : g < w.heap.size) (ha : Val.inr na) (hb : Val.inr nb) (k n : Int)
    (hv : Hid ((if (Val.num ⟨ka, na, ta.data.toList⟩).kind = 0 ∨ (Val.num ⟨kb, nb, tb.data.toList⟩).kind = 0 then Val.zero else doV (q (Val.num ⟨ka, na, ta.data.toList⟩).int (Val.num ⟨kb, nb, tb.data.toList⟩).int)) = ⟨k, n, []⟩)) :
    Calls Tryz.prog 220 #[.agg #[.int .i64 ka, .int .i64 na, .string ta], .agg #[.int .i64 kb, .int .i64 nb, .string tb], .pointer (some ⟨g, 0, none⟩)] w (VRet k n ⟨#[]⟩ w) := by
  have hz : ∀ {k n : Int}, Val.zero = ⟨k, n, []⟩ → k = 0 ∧ n = 0 := by intro k n h; simp only [Val.zero, Val.V.mk.injEq, and_true] at h; exact ⟨h.1.symm, h.2.symm⟩
  rcases Val.num_cases (v := ⟨ka, na, ta.data.toList⟩) ha with h1 | ⟨n1, h1, r1⟩
  · have hv' := hv.out
    rw [if_pos (.inl (by rw [h1]; rfl))] at hv'
    obtain ⟨rfl, rfl⟩ := hz hv'
    rcases Val.num_cases (v := ⟨kb, nb, tb.data.toList⟩) hb with h2 | ⟨n2, h2, r2⟩
    · exact both_null1 fid eg ka na ta kb nb tb g w hL hg hgl _ _ _ (Lib.hid h1) (Lib.hid h2)
    · exact both_null1 fid eg ka na ta kb nb tb g w hL hg hgl _ _ _ (Lib.hid h1) (Lib.hid h2)
  · rcases Val.num_cases (v := ⟨kb, nb, tb.data.toList⟩) hb with h2 | ⟨n2, h2, r2⟩
    · have hv' := hv.out
      rw [if_pos (.inr (by rw [h2]; rfl))] at hv'
      obtain ⟨rfl, rfl⟩ := hz hv'
      exact both_null2 fid eg ka na ta kb nb tb g w hL hg hgl _ _ (Lib.hid h1) (Lib.hid h2)
    · have hv' := hv.out
      rw [h1, h2, if_neg (by simp)] at hv'
      simp only at hv'
      have hd := fun w' => hf n1 n2 w' r1 r2
      generalize q n1 n2 = p at hv' hd
      obtain ⟨r, ok⟩ := p
      cases ok with
      | false =>
        obtain ⟨rfl, rfl⟩ := hz hv'
        exact both_no fid eg ka na ta kb nb tb g w hL hg hgl n1 n2 (Lib.hid h1) (Lib.hid h2) r hd
      | true =>
        have : (⟨1, r, []⟩ : Val.V) = ⟨k, n, []⟩ := hv'
        simp only [Val.V.mk.injEq, and_true] at this
        rw [← this.1, ← this.2]
        exact both_yes fid eg ka na ta kb nb tb g w hL hg hgl n1 n2 (Lib.hid h1) (Lib.hid h2) r hd

end Go.Proofs.YtmkgalcojoeniaaGreatDoor
