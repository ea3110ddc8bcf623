/- Walks: sums, products, quotients of integers; what 'both' makes of them. Walks: 'both' lets two numbers be reckoned with. Walks: a difference, two texts put together, what compares two values, the logic of three values. -/
import Derived.Test.YtmkgalcojoeniaaGreatDoorCalcRa
import Derived.Test.YtmkgalcojoeniaaGreatDoorBlk
import Derived.Deep.RegionHeld3
set_option maxRecDepth 100000
set_option linter.unusedVariables false
set_option linter.unusedSimpArgs false
namespace Go.Proofs.YtmkgalcojoeniaaGreatDoor
open Go.RowKit



/-- what an arithmetic of two integers answers: its number, whether it is one -/
def DoP (q : Int × Bool) (w : World) (e : Ending) (w' : World) : Prop := e = .returned (.tuple #[.int .i64 q.1, .bool q.2]) ∧ w = w'
def doV (q : Int × Bool) : Val.V := if q.2 = true then ⟨1, q.1, []⟩ else Val.zero
def qadd (x y : Int) : Int × Bool := (wrap64 (x + y), decide (Val.inr (x + y)))
def qsub (x y : Int) : Int × Bool := (wrap64 (x - y), decide (Val.inr (x - y)))
def qmul (x y : Int) : Int × Bool := (wrap64 (x * y), decide (Val.inr (x * y)))
def qdiv (x y : Int) : Int × Bool := if y = 0 ∨ x = -9223372036854775808 ∧ y = -1 then (0, false) else (Int.tdiv x y, true)
def qrem (x y : Int) : Int × Bool := if y = 0 then (0, false) else (Int.tmod x y, true)
theorem fit_ok {n r : Int} (hr : Val.inr n → r = n) : Val.fit n = if decide (Val.inr n) = true then ⟨1, r, []⟩ else Val.zero := by
  by_cases h : Val.inr n
  · rw [Val.fit_in h, if_pos (by simpa using h), hr h]
  · rw [Val.fit_out h, if_neg (by simpa using h)]
theorem doV_sub (x y : Int) : doV (qsub x y) = Val.fit (x - y) := (fit_ok (fun h => Val.wrap_in h)).symm
theorem csub_any (x y : Int) (w : World) (hx : Val.inr x) (hy : Val.inr y) : Calls Tryz.prog 198 #[.int .i64 x, .int .i64 y] w (DoP (qsub x y) w) := by
  have h := Val.sub_in hx hy
  unfold qsub
  obtain ⟨b, hb⟩ : ∃ b, decide (Val.inr (x - y)) = b := ⟨_, rfl⟩
  rw [hb] at h ⊢
  clear hb hx hy
  go_enter Tryz.func198, Tryz.ntmps198
  go_wp2
  go_ret2
  exact ⟨rfl, rfl⟩

end Go.Proofs.YtmkgalcojoeniaaGreatDoor

namespace Go.Proofs.YtmkgalcojoeniaaGreatDoor
open Go.RowKit

/-- a function value that holds another one -/
def BothP (fid : Nat) (w : World) (e : Ending) (w' : World) : Prop := ∃ g, e = .returned (.func (Fn.func 220) #[] #[.pointer (some ⟨g, 0, none⟩)]) ∧ w'.cell? ⟨g, 0, none⟩ = some (.func (Fn.func fid) #[] #[]) ∧ g < w'.heap.size ∧ Below w.heap.size w w'
theorem both_any (fid : Nat) (w : World) : Calls Tryz.prog 197 #[.func (Fn.func fid) #[] #[]] w (BothP fid w) := by
  go_enter Tryz.func197, Tryz.ntmps197
  go_wp2
  go_ret
  have hh := heap_new w (.cells #[.func (Fn.func fid) #[] #[]] 183)
  exact ⟨w.heap.size, rfl, cell_of_row _ _ 0 _ 183 _ hh, by simp, below_new _ _⟩

set_option maxHeartbeats 4000000 in
theorem both_yes (fid : Nat) (eg : ∀ args w, (callFunc fid args).run Tryz.prog w = .ok (.enter fid args) w) (ka na : Int) (ta : ByteArray) (kb nb : Int) (tb : ByteArray) (g : Nat) (w : World) (hL : Lits w) (hg : w.cell? ⟨g, 0, none⟩ = some (.func (Fn.func fid) #[] #[])) (hgl : g < w.heap.size) (n1 n2 : Int) (hv1 : Hid (Val.num ⟨ka, na, ta.data.toList⟩ = ⟨1, n1, []⟩)) (hv2 : Hid (Val.num ⟨kb, nb, tb.data.toList⟩ = ⟨1, n2, []⟩)) (r : Int) (hdo : ∀ w', Calls Tryz.prog fid #[.int .i64 n1, .int .i64 n2] w' fun e w'' => e = .returned (.tuple #[.int .i64 r, .bool true]) ∧ w' = w'') :
    Calls Tryz.prog 220 #[.agg #[.int .i64 ka, .int .i64 na, .string ta], .agg #[.int .i64 kb, .int .i64 nb, .string tb], .pointer (some ⟨g, 0, none⟩)] w (VRet 1 r ⟨#[]⟩ w) := by
  have hS := start3 w (.int .i64 ka) (.int .i64 na) (.string ta) (.int .i64 kb) (.int .i64 nb) (.string tb) (.int .i64 0) (.int .i64 0) (.string ⟨#[]⟩) 25 25 25
  have hLd : Lits (((w.alloc (.cells #[.int .i64 ka, .int .i64 na, .string ta] 25)).alloc (.cells #[.int .i64 kb, .int .i64 nb, .string tb] 25)).alloc (.cells #[.int .i64 0, .int .i64 0, .string ⟨#[]⟩] 25)).drew := (((hL.alloc _).alloc _).alloc _).below (Below.refl _ _).drew
  have hSd := keepd3 hS
  clear hS
  go_enter Tryz.func220, Tryz.ntmps220
  go_wp2_with fail
  go_region_with (go_at_call 127; first
    | (refine (cnum_is _ _ _ _ hL1 _ _ (by assumption)).mono ?_; rintro e w2 ⟨rfl, hb2⟩; have hS2 := keep3 hS1 hb2; obtain ⟨cb0, cb1, cb2, cb3, cb4, cb5, cb6, cb7, cb8, cb9, cb10, cb11, cb12, cb13, cb14, cb15, cb16, cb17, hz2, hB2⟩ := id hS2; have hg2 : w2.cell? ⟨g, 0, none⟩ = some (.func (Fn.func fid) #[] #[]) := (hB2.cell (p := ⟨g, 0, none⟩) hgl).trans hg)
    | (refine (cnum_is _ _ _ _ hLd _ _ (by assumption)).mono ?_; rintro e w1 ⟨rfl, hb1⟩; have hS1 := keep3 hSd hb1; obtain ⟨ca0, ca1, ca2, ca3, ca4, ca5, ca6, ca7, ca8, ca9, ca10, ca11, ca12, ca13, ca14, ca15, ca16, ca17, hz, hB⟩ := id hS1; have hL1 := hLd.below hb1))
  all_goals (
    have hne0 : ¬ w.heap.size = g := by omega
    have hne1 : ¬ w.heap.size + 1 = g := by omega
    go_wp2_with (first
      | (go_at_call 81; refine (vint_any _ _).mono ?_; rintro e w3 ⟨rfl, hb3⟩; have hS3 := keep3 (put3_1 _ _ _ (put3_0 _ _ _ hS2)) hb3; obtain ⟨cc0, cc1, cc2, cc3, cc4, cc5, cc6, cc7, cc8, cc9, cc10, cc11, cc12, cc13, cc14, cc15, cc16, cc17, hz3, hB3⟩ := id hS3)
      | (refine (hdo _).mono ?_; rintro e w4 ⟨rfl, rfl⟩))
    exact bodyPost_ret (v := .agg #[.int .i64 1, .int .i64 r, .string ⟨#[]⟩]) (by simp only [results, Tryz.results220]; go_simp) rfl ⟨rfl, below_setg hB3 (by omega)⟩)
set_option maxHeartbeats 4000000 in
theorem both_no (fid : Nat) (eg : ∀ args w, (callFunc fid args).run Tryz.prog w = .ok (.enter fid args) w) (ka na : Int) (ta : ByteArray) (kb nb : Int) (tb : ByteArray) (g : Nat) (w : World) (hL : Lits w) (hg : w.cell? ⟨g, 0, none⟩ = some (.func (Fn.func fid) #[] #[])) (hgl : g < w.heap.size) (n1 n2 : Int) (hv1 : Hid (Val.num ⟨ka, na, ta.data.toList⟩ = ⟨1, n1, []⟩)) (hv2 : Hid (Val.num ⟨kb, nb, tb.data.toList⟩ = ⟨1, n2, []⟩)) (r : Int) (hdo : ∀ w', Calls Tryz.prog fid #[.int .i64 n1, .int .i64 n2] w' fun e w'' => e = .returned (.tuple #[.int .i64 r, .bool false]) ∧ w' = w'') :
    Calls Tryz.prog 220 #[.agg #[.int .i64 ka, .int .i64 na, .string ta], .agg #[.int .i64 kb, .int .i64 nb, .string tb], .pointer (some ⟨g, 0, none⟩)] w (VRet 0 0 ⟨#[]⟩ w) := by
  have hS := start3 w (.int .i64 ka) (.int .i64 na) (.string ta) (.int .i64 kb) (.int .i64 nb) (.string tb) (.int .i64 0) (.int .i64 0) (.string ⟨#[]⟩) 25 25 25
  have hLd : Lits (((w.alloc (.cells #[.int .i64 ka, .int .i64 na, .string ta] 25)).alloc (.cells #[.int .i64 kb, .int .i64 nb, .string tb] 25)).alloc (.cells #[.int .i64 0, .int .i64 0, .string ⟨#[]⟩] 25)).drew := (((hL.alloc _).alloc _).alloc _).below (Below.refl _ _).drew
  have hSd := keepd3 hS
  clear hS
  go_enter Tryz.func220, Tryz.ntmps220
  go_wp2_with fail
  go_region_with (go_at_call 127; first
    | (refine (cnum_is _ _ _ _ hL1 _ _ (by assumption)).mono ?_; rintro e w2 ⟨rfl, hb2⟩; have hS2 := keep3 hS1 hb2; obtain ⟨cb0, cb1, cb2, cb3, cb4, cb5, cb6, cb7, cb8, cb9, cb10, cb11, cb12, cb13, cb14, cb15, cb16, cb17, hz2, hB2⟩ := id hS2; have hg2 : w2.cell? ⟨g, 0, none⟩ = some (.func (Fn.func fid) #[] #[]) := (hB2.cell (p := ⟨g, 0, none⟩) hgl).trans hg)
    | (refine (cnum_is _ _ _ _ hLd _ _ (by assumption)).mono ?_; rintro e w1 ⟨rfl, hb1⟩; have hS1 := keep3 hSd hb1; obtain ⟨ca0, ca1, ca2, ca3, ca4, ca5, ca6, ca7, ca8, ca9, ca10, ca11, ca12, ca13, ca14, ca15, ca16, ca17, hz, hB⟩ := id hS1; have hL1 := hLd.below hb1))
  all_goals (
    have hne0 : ¬ w.heap.size = g := by omega
    have hne1 : ¬ w.heap.size + 1 = g := by omega
    go_wp2_with (first
      | (go_at_call 146; refine (cnull_any _).mono ?_; rintro e w3 ⟨rfl, hb3⟩; have hS3 := keep3 (put3_1 _ _ _ (put3_0 _ _ _ hS2)) hb3; obtain ⟨cc0, cc1, cc2, cc3, cc4, cc5, cc6, cc7, cc8, cc9, cc10, cc11, cc12, cc13, cc14, cc15, cc16, cc17, hz3, hB3⟩ := id hS3)
      | (refine (hdo _).mono ?_; rintro e w4 ⟨rfl, rfl⟩))
    exact bodyPost_ret (v := .agg #[.int .i64 0, .int .i64 0, .string ⟨#[]⟩]) (by simp only [results, Tryz.results220]; go_simp) rfl ⟨rfl, below_setg hB3 (by omega)⟩)
set_option maxHeartbeats 4000000 in
theorem both_null1 (fid : Nat) (eg : ∀ args w, (callFunc fid args).run Tryz.prog w = .ok (.enter fid args) w) (ka na : Int) (ta : ByteArray) (kb nb : Int) (tb : ByteArray) (g : Nat) (w : World) (hL : Lits w) (hg : w.cell? ⟨g, 0, none⟩ = some (.func (Fn.func fid) #[] #[])) (hgl : g < w.heap.size) (n1 k2 n2 : Int) (hv1 : Hid (Val.num ⟨ka, na, ta.data.toList⟩ = ⟨0, n1, []⟩)) (hv2 : Hid (Val.num ⟨kb, nb, tb.data.toList⟩ = ⟨k2, n2, []⟩)) :
    Calls Tryz.prog 220 #[.agg #[.int .i64 ka, .int .i64 na, .string ta], .agg #[.int .i64 kb, .int .i64 nb, .string tb], .pointer (some ⟨g, 0, none⟩)] w (VRet 0 0 ⟨#[]⟩ w) := by
  have hS := start3 w (.int .i64 ka) (.int .i64 na) (.string ta) (.int .i64 kb) (.int .i64 nb) (.string tb) (.int .i64 0) (.int .i64 0) (.string ⟨#[]⟩) 25 25 25
  have hLd : Lits (((w.alloc (.cells #[.int .i64 ka, .int .i64 na, .string ta] 25)).alloc (.cells #[.int .i64 kb, .int .i64 nb, .string tb] 25)).alloc (.cells #[.int .i64 0, .int .i64 0, .string ⟨#[]⟩] 25)).drew := (((hL.alloc _).alloc _).alloc _).below (Below.refl _ _).drew
  have hSd := keepd3 hS
  clear hS
  go_enter Tryz.func220, Tryz.ntmps220
  go_wp2_with fail
  go_region_with (go_at_call 127; first
    | (refine (cnum_is _ _ _ _ hL1 _ _ (by assumption)).mono ?_; rintro e w2 ⟨rfl, hb2⟩; have hS2 := keep3 hS1 hb2; obtain ⟨cb0, cb1, cb2, cb3, cb4, cb5, cb6, cb7, cb8, cb9, cb10, cb11, cb12, cb13, cb14, cb15, cb16, cb17, hz2, hB2⟩ := id hS2; have hg2 : w2.cell? ⟨g, 0, none⟩ = some (.func (Fn.func fid) #[] #[]) := (hB2.cell (p := ⟨g, 0, none⟩) hgl).trans hg)
    | (refine (cnum_is _ _ _ _ hLd _ _ (by assumption)).mono ?_; rintro e w1 ⟨rfl, hb1⟩; have hS1 := keep3 hSd hb1; obtain ⟨ca0, ca1, ca2, ca3, ca4, ca5, ca6, ca7, ca8, ca9, ca10, ca11, ca12, ca13, ca14, ca15, ca16, ca17, hz, hB⟩ := id hS1; have hL1 := hLd.below hb1))
  all_goals (
    have hne0 : ¬ w.heap.size = g := by omega
    have hne1 : ¬ w.heap.size + 1 = g := by omega
    go_wp2_with (go_at_call 146; refine (cnull_any _).mono ?_; rintro e w3 ⟨rfl, hb3⟩; have hS3 := keep3 (put3_1 _ _ _ (put3_0 _ _ _ hS2)) hb3; obtain ⟨cc0, cc1, cc2, cc3, cc4, cc5, cc6, cc7, cc8, cc9, cc10, cc11, cc12, cc13, cc14, cc15, cc16, cc17, hz3, hB3⟩ := id hS3)
    exact bodyPost_ret (v := .agg #[.int .i64 0, .int .i64 0, .string ⟨#[]⟩]) (by simp only [results, Tryz.results220]; go_simp) rfl ⟨rfl, below_setg hB3 (by omega)⟩)
set_option maxHeartbeats 4000000 in
theorem both_null2 (fid : Nat) (eg : ∀ args w, (callFunc fid args).run Tryz.prog w = .ok (.enter fid args) w) (ka na : Int) (ta : ByteArray) (kb nb : Int) (tb : ByteArray) (g : Nat) (w : World) (hL : Lits w) (hg : w.cell? ⟨g, 0, none⟩ = some (.func (Fn.func fid) #[] #[])) (hgl : g < w.heap.size) (n1 n2 : Int) (hv1 : Hid (Val.num ⟨ka, na, ta.data.toList⟩ = ⟨1, n1, []⟩)) (hv2 : Hid (Val.num ⟨kb, nb, tb.data.toList⟩ = ⟨0, n2, []⟩)) :
    Calls Tryz.prog 220 #[.agg #[.int .i64 ka, .int .i64 na, .string ta], .agg #[.int .i64 kb, .int .i64 nb, .string tb], .pointer (some ⟨g, 0, none⟩)] w (VRet 0 0 ⟨#[]⟩ w) := by
  have hS := start3 w (.int .i64 ka) (.int .i64 na) (.string ta) (.int .i64 kb) (.int .i64 nb) (.string tb) (.int .i64 0) (.int .i64 0) (.string ⟨#[]⟩) 25 25 25
  have hLd : Lits (((w.alloc (.cells #[.int .i64 ka, .int .i64 na, .string ta] 25)).alloc (.cells #[.int .i64 kb, .int .i64 nb, .string tb] 25)).alloc (.cells #[.int .i64 0, .int .i64 0, .string ⟨#[]⟩] 25)).drew := (((hL.alloc _).alloc _).alloc _).below (Below.refl _ _).drew
  have hSd := keepd3 hS
  clear hS
  go_enter Tryz.func220, Tryz.ntmps220
  go_wp2_with fail
  go_region_with (go_at_call 127; first
    | (refine (cnum_is _ _ _ _ hL1 _ _ (by assumption)).mono ?_; rintro e w2 ⟨rfl, hb2⟩; have hS2 := keep3 hS1 hb2; obtain ⟨cb0, cb1, cb2, cb3, cb4, cb5, cb6, cb7, cb8, cb9, cb10, cb11, cb12, cb13, cb14, cb15, cb16, cb17, hz2, hB2⟩ := id hS2; have hg2 : w2.cell? ⟨g, 0, none⟩ = some (.func (Fn.func fid) #[] #[]) := (hB2.cell (p := ⟨g, 0, none⟩) hgl).trans hg)
    | (refine (cnum_is _ _ _ _ hLd _ _ (by assumption)).mono ?_; rintro e w1 ⟨rfl, hb1⟩; have hS1 := keep3 hSd hb1; obtain ⟨ca0, ca1, ca2, ca3, ca4, ca5, ca6, ca7, ca8, ca9, ca10, ca11, ca12, ca13, ca14, ca15, ca16, ca17, hz, hB⟩ := id hS1; have hL1 := hLd.below hb1))
  all_goals (
    have hne0 : ¬ w.heap.size = g := by omega
    have hne1 : ¬ w.heap.size + 1 = g := by omega
    go_wp2_with (go_at_call 146; refine (cnull_any _).mono ?_; rintro e w3 ⟨rfl, hb3⟩; have hS3 := keep3 (put3_1 _ _ _ (put3_0 _ _ _ hS2)) hb3; obtain ⟨cc0, cc1, cc2, cc3, cc4, cc5, cc6, cc7, cc8, cc9, cc10, cc11, cc12, cc13, cc14, cc15, cc16, cc17, hz3, hB3⟩ := id hS3)
    exact bodyPost_ret (v := .agg #[.int .i64 0, .int .i64 0, .string ⟨#[]⟩]) (by simp only [results, Tryz.results220]; go_simp) rfl ⟨rfl, below_setg hB3 (by omega)⟩)

/-- WHAT 'both' MAKES OF AN ARITHMETIC -/
theorem both_is (fid : Nat) (q : Int → Int → Int × Bool) (eg : ∀ args w, (callFunc fid args).run Tryz.prog w = .ok (.enter fid args) w) (hf : ∀ x y w, Val.inr x → Val.inr y → Calls Tryz.prog fid #[.int .i64 x, .int .i64 y] w (DoP (q x y) w))
    (ka na : Int) (ta : ByteArray) (kb nb : Int) (tb : ByteArray) (g : Nat) (w : World) (hL : Lits w) (hg : w.cell? ⟨g, 0, none⟩ = some (.func (Fn.func fid) #[] #[])) (hgl : g < w.heap.size) (ha : Val.inr na) (hb : Val.inr nb) (k n : Int)
    (hv : Hid ((if (Val.num ⟨ka, na, ta.data.toList⟩).kind = 0 ∨ (Val.num ⟨kb, nb, tb.data.toList⟩).kind = 0 then Val.zero else doV (q (Val.num ⟨ka, na, ta.data.toList⟩).int (Val.num ⟨kb, nb, tb.data.toList⟩).int)) = ⟨k, n, []⟩)) :
    Calls Tryz.prog 220 #[.agg #[.int .i64 ka, .int .i64 na, .string ta], .agg #[.int .i64 kb, .int .i64 nb, .string tb], .pointer (some ⟨g, 0, none⟩)] w (VRet k n ⟨#[]⟩ w) := by
  have hz : ∀ {k n : Int}, Val.zero = ⟨k, n, []⟩ → k = 0 ∧ n = 0 := by intro k n h; simp only [Val.zero, Val.V.mk.injEq, and_true] at h; exact ⟨h.1.symm, h.2.symm⟩
  rcases Val.num_cases (v := ⟨ka, na, ta.data.toList⟩) ha with h1 | ⟨n1, h1, r1⟩
  · have hv' := hv.out
    rw [if_pos (.inl (by rw [h1]; rfl))] at hv'
    obtain ⟨rfl, rfl⟩ := hz hv'
    rcases Val.num_cases (v := ⟨kb, nb, tb.data.toList⟩) hb with h2 | ⟨n2, h2, r2⟩
    · exact both_null1 fid eg ka na ta kb nb tb g w hL hg hgl _ _ _ (Lib.hid h1) (Lib.hid h2)
    · exact both_null1 fid eg ka na ta kb nb tb g w hL hg hgl _ _ _ (Lib.hid h1) (Lib.hid h2)
  · rcases Val.num_cases (v := ⟨kb, nb, tb.data.toList⟩) hb with h2 | ⟨n2, h2, r2⟩
    · have hv' := hv.out
      rw [if_pos (.inr (by rw [h2]; rfl))] at hv'
      obtain ⟨rfl, rfl⟩ := hz hv'
      exact both_null2 fid eg ka na ta kb nb tb g w hL hg hgl _ _ (Lib.hid h1) (Lib.hid h2)
    · have hv' := hv.out
      rw [h1, h2, if_neg (by simp)] at hv'
      simp only at hv'
      have hd := fun w' => hf n1 n2 w' r1 r2
      generalize q n1 n2 = p at hv' hd
      obtain ⟨r, ok⟩ := p
      cases ok with
      | false =>
        obtain ⟨rfl, rfl⟩ := hz hv'
        exact both_no fid eg ka na ta kb nb tb g w hL hg hgl n1 n2 (Lib.hid h1) (Lib.hid h2) r hd
      | true =>
        have : (⟨1, r, []⟩ : Val.V) = ⟨k, n, []⟩ := hv'
        simp only [Val.V.mk.injEq, and_true] at this
        rw [← this.1, ← this.2]
        exact both_yes fid eg ka na ta kb nb tb g w hL hg hgl n1 n2 (Lib.hid h1) (Lib.hid h2) r hd

end Go.Proofs.YtmkgalcojoeniaaGreatDoor

namespace Go.Proofs.YtmkgalcojoeniaaGreatDoor
open Go.RowKit

set_option maxHeartbeats 2000000 in
theorem csub_is (ka na : Int) (ta : ByteArray) (kb nb : Int) (tb : ByteArray) (w : World) (hL : Lits w) (ha : Val.inr na) (hb : Val.inr nb) (k n : Int)
    (hv : Hid ((if (Val.num ⟨ka, na, ta.data.toList⟩).kind = 0 ∨ (Val.num ⟨kb, nb, tb.data.toList⟩).kind = 0 then Val.zero else doV (qsub (Val.num ⟨ka, na, ta.data.toList⟩).int (Val.num ⟨kb, nb, tb.data.toList⟩).int)) = ⟨k, n, []⟩)) :
    Calls Tryz.prog 163 #[.agg #[.int .i64 ka, .int .i64 na, .string ta], .agg #[.int .i64 kb, .int .i64 nb, .string tb]] w (VRet k n ⟨#[]⟩ w) := by
  have hS := ofS2 (start3 w (.int .i64 ka) (.int .i64 na) (.string ta) (.int .i64 kb) (.int .i64 nb) (.string tb) (.int .i64 0) (.int .i64 0) (.string ⟨#[]⟩) 25 25 25)
  have hah := Lib.hid ha
  have hbh := Lib.hid hb
  clear ha hb
  go_enter Tryz.func163, Tryz.ntmps163
  go_wp2_with fail
  go_region_held3 (fun W => W.cell? ⟨w.heap.size, 0, none⟩ = some (.int .i64 ka) ∧ W.cell? ⟨w.heap.size, 1, none⟩ = some (.int .i64 na) ∧ W.cell? ⟨w.heap.size, 2, none⟩ = some (.string ta) ∧ W.frozen? ⟨w.heap.size, 0, none⟩ = false ∧ W.frozen? ⟨w.heap.size, 1, none⟩ = false ∧ W.frozen? ⟨w.heap.size, 2, none⟩ = false ∧ W.cell? ⟨w.heap.size + 1, 0, none⟩ = some (.int .i64 kb) ∧ W.cell? ⟨w.heap.size + 1, 1, none⟩ = some (.int .i64 nb) ∧ W.cell? ⟨w.heap.size + 1, 2, none⟩ = some (.string tb) ∧ W.frozen? ⟨w.heap.size + 1, 0, none⟩ = false ∧ W.frozen? ⟨w.heap.size + 1, 1, none⟩ = false ∧ W.frozen? ⟨w.heap.size + 1, 2, none⟩ = false ∧ W.cell? ⟨w.heap.size + 1 + 1, 0, none⟩ = some (peek W (w.heap.size + 1 + 1) 0) ∧ W.cell? ⟨w.heap.size + 1 + 1, 1, none⟩ = some (peek W (w.heap.size + 1 + 1) 1) ∧ W.cell? ⟨w.heap.size + 1 + 1, 2, none⟩ = some (peek W (w.heap.size + 1 + 1) 2) ∧ W.frozen? ⟨w.heap.size + 1 + 1, 0, none⟩ = false ∧ W.frozen? ⟨w.heap.size + 1 + 1, 1, none⟩ = false ∧ W.frozen? ⟨w.heap.size + 1 + 1, 2, none⟩ = false ∧ w.heap.size + 1 + 1 < W.heap.size ∧ Below w.heap.size w W) (first | assumption | exact keepP2 (by assumption) (by assumption) | exact keepPd2 (by assumption) | exact putP2 (by assumption)) (first
    | (go_at_call 197; refine (both_any _ _).mono ?_; rintro e w1 ⟨g, rfl, hg, hgl, hb1⟩)
    | (go_at_call 220; refine (both_is 198 qsub (fun _ _ => by kernel_rfl) (fun x y w hx hy => csub_any x y w hx hy) _ _ _ _ _ _ _ _ (hL.below (belowP2 (by assumption))) hg hgl hah.out hbh.out _ _ hv).mono ?_; rintro e w2 ⟨rfl, hb2⟩; have hP2 := keepP2 (w := w) (by assumption) hb2))
  all_goals (
    rename_i hh
    have hB := belowP2 hh
    clear hh
    obtain ⟨cb0, cb1, cb2, cb3, cb4, cb5, cb6, cb7, cb8, cb9, cb10, cb11, cb12, cb13, cb14, cb15, cb16, cb17, hz2, hB2⟩ := hP2
    go_wp2
    exact bodyPost_ret (v := .agg #[.int .i64 k, .int .i64 n, .string ⟨#[]⟩]) (by simp only [results, Tryz.results163]; go_simp) rfl ⟨rfl, hB⟩)

end Go.Proofs.YtmkgalcojoeniaaGreatDoor

