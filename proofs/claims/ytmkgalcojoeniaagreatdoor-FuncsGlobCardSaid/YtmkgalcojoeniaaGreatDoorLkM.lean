/- Walks: matched, Like (package funcs). Walks: matched, joined; Like (package funcs). -/
import Derived.Test.YtmkgalcojoeniaaGreatDoorLk
import Derived.Test.YtmkgalcojoeniaaGreatDoorCalcWs
import Derived.RegionTactic
import Derived.Deep.RegionWith
set_option maxRecDepth 100000
set_option linter.unusedVariables false
set_option linter.unusedSimpArgs false
namespace Go.Proofs.YtmkgalcojoeniaaGreatDoor
open Go.RowKit

/-- a value in a block of its own -/
def V3 (W : World) (g : Nat) (k n : Int) (t : ByteArray) : Prop := W.heap[g]? = some (.cells #[.int .i64 k, .int .i64 n, .string t] 25 (0, 0))
theorem V3.lt {W : World} {g : Nat} {k n : Int} {t : ByteArray} (h : V3 W g k n t) : g < W.heap.size := (Array.getElem?_eq_some_iff.1 h).1
theorem V3.on {W W' : World} {g : Nat} {k n : Int} {t : ByteArray} (h : V3 W g k n t) (hb : Below W.heap.size W W') : V3 W' g k n t := (hb.block g h.lt).trans h
theorem V3.new (W : World) (k n : Int) (t : ByteArray) : V3 (W.alloc (.cells #[.int .i64 k, .int .i64 n, .string t] 25)) W.heap.size k n t := heap_new W _
theorem V3.alloc {W : World} {g : Nat} {k n : Int} {t : ByteArray} (h : V3 W g k n t) (o : Obj) : V3 (W.alloc o) g k n t := h.on (below_new W o)
theorem heap_cell1 {W : World} {g : Nat} {cs : Array Value} {T : TypeId} (i : Nat) (v : Value) (h : W.heap[g]? = some (.cells cs T (0, 0))) : (W.setCell ⟨g, i, none⟩ v).heap[g]? = some (.cells (cs.setIfInBounds i v) T (0, 0)) := by
  show (W.heap.modify g _)[g]? = _
  rw [Array.getElem?_modify, if_pos rfl, h]
  rfl
theorem V3.put {W : World} {g : Nat} {k n : Int} {t : ByteArray} (h : V3 W g k n t) (k' n' : Int) (t' : ByteArray) : V3 (((W.setCell ⟨g, 0, none⟩ (.int .i64 k')).setCell ⟨g, 1, none⟩ (.int .i64 n')).setCell ⟨g, 2, none⟩ (.string t')) g k' n' t' :=
  heap_cell1 2 _ (heap_cell1 1 _ (heap_cell1 0 _ h))
theorem V3.other {W : World} {g g' : Nat} {k n : Int} {t : ByteArray} (h : V3 W g k n t) (hne : g ≠ g') (a b c : Value) : V3 (((W.setCell ⟨g', 0, none⟩ a).setCell ⟨g', 1, none⟩ b).setCell ⟨g', 2, none⟩ c) g k n t :=
  ((Below.heap_setCell _ _ _ _ hne).trans ((Below.heap_setCell _ _ _ _ hne).trans (Below.heap_setCell _ _ _ _ hne))).trans h
theorem V3.cells {w : World} {g : Nat} {k n : Int} {t : ByteArray} (h : V3 w g k n t) :
    w.cell? ⟨g, 0, none⟩ = some (.int .i64 k) ∧ w.cell? ⟨g, 1, none⟩ = some (.int .i64 n) ∧ w.cell? ⟨g, 2, none⟩ = some (.string t) ∧ w.frozen? ⟨g, 0, none⟩ = false ∧ w.frozen? ⟨g, 1, none⟩ = false ∧ w.frozen? ⟨g, 2, none⟩ = false := by
  refine ⟨cell_of_row w g 0 _ _ _ h, cell_of_row w g 1 _ _ _ h, cell_of_row w g 2 _ _ _ h, ?_, ?_, ?_⟩ <;> simp [World.frozen?, show w.heap[g]? = _ from h]
theorem below_put {B : Nat} {w W : World} {g : Nat} {a b c : Value} (h : Below B w W) (hg : B ≤ g) : Below B w (((W.setCell ⟨g, 0, none⟩ a).setCell ⟨g, 1, none⟩ b).setCell ⟨g, 2, none⟩ c) := ((h.setCell hg _).setCell hg _).setCell hg _
/-- what matched's blocks hold -/
def M3 (w W : World) (k1 n1 : Int) (t1 : ByteArray) (k2 n2 : Int) (t2 : ByteArray) : Prop := V3 W w.heap.size k1 n1 t1 ∧ V3 W (w.heap.size + 1) k2 n2 t2 ∧ V3 W (w.heap.size + 1 + 1) 0 0 ⟨#[]⟩ ∧ Below w.heap.size w W
theorem M3.on {w W W' : World} {k1 n1 : Int} {t1 : ByteArray} {k2 n2 : Int} {t2 : ByteArray} (h : M3 w W k1 n1 t1 k2 n2 t2) (hb : Below W.heap.size W W') : M3 w W' k1 n1 t1 k2 n2 t2 := ⟨h.1.on hb, h.2.1.on hb, h.2.2.1.on hb, below_step h.2.2.2 h.2.2.2.size hb⟩
theorem M3.put1 {w W : World} {k1 n1 : Int} {t1 : ByteArray} {k2 n2 : Int} {t2 : ByteArray} (h : M3 w W k1 n1 t1 k2 n2 t2) (k n : Int) (t : ByteArray) : M3 w (((W.setCell ⟨w.heap.size, 0, none⟩ (.int .i64 k)).setCell ⟨w.heap.size, 1, none⟩ (.int .i64 n)).setCell ⟨w.heap.size, 2, none⟩ (.string t)) k n t k2 n2 t2 :=
  ⟨h.1.put _ _ _, h.2.1.other (by omega) _ _ _, h.2.2.1.other (by omega) _ _ _, below_put h.2.2.2 (Nat.le_refl _)⟩
theorem M3.put2 {w W : World} {k1 n1 : Int} {t1 : ByteArray} {k2 n2 : Int} {t2 : ByteArray} (h : M3 w W k1 n1 t1 k2 n2 t2) (k n : Int) (t : ByteArray) : M3 w (((W.setCell ⟨w.heap.size + 1, 0, none⟩ (.int .i64 k)).setCell ⟨w.heap.size + 1, 1, none⟩ (.int .i64 n)).setCell ⟨w.heap.size + 1, 2, none⟩ (.string t)) k1 n1 t1 k n t :=
  ⟨h.1.other (by omega) _ _ _, h.2.1.put _ _ _, h.2.2.1.other (by omega) _ _ _, below_put h.2.2.2 (Nat.le_succ _)⟩

set_option maxHeartbeats 8000000 in
theorem matched_null1 (pf af : Nat) (ka na : Int) (ta : ByteArray) (kb nb : Int) (tb : ByteArray) (w : World) (hL : Lits w) (ha : Val.inr na) (hb : Val.inr nb) (s1 s2 : ByteArray) (k2 : Int) (hv1 : Hid (Val.pshow ⟨ka, na, ta.data.toList⟩ = ⟨0, 0, s1.data.toList⟩)) (hv2 : Hid (Val.pshow ⟨kb, nb, tb.data.toList⟩ = ⟨k2, 0, s2.data.toList⟩)) :
    Calls Tryz.prog 44 #[.agg #[.int .i64 ka, .int .i64 na, .string ta], .agg #[.int .i64 kb, .int .i64 nb, .string tb], .func (.func pf) #[] #[], .func (.func af) #[] #[]] w (VRet 0 0 ⟨#[]⟩ w) := by
  have hS0 : M3 w (((w.alloc (.cells #[.int .i64 ka, .int .i64 na, .string ta] 25)).alloc (.cells #[.int .i64 kb, .int .i64 nb, .string tb] 25)).alloc (.cells #[.int .i64 0, .int .i64 0, .string ⟨#[]⟩] 25)).drew ka na ta kb nb tb := by
    refine ⟨(((V3.new w _ _ _).alloc _).alloc _), ?_, ?_, ((((Below.refl _ w).alloc (Nat.le_refl _) _).alloc (by simp) _).alloc (by simp; omega) _).drew⟩
    · have := (V3.new (w.alloc (.cells #[.int .i64 ka, .int .i64 na, .string ta] 25)) kb nb tb).alloc (.cells #[.int .i64 0, .int .i64 0, .string ⟨#[]⟩] 25)
      rw [World.size_alloc] at this; exact this
    · have := V3.new ((w.alloc (.cells #[.int .i64 ka, .int .i64 na, .string ta] 25)).alloc (.cells #[.int .i64 kb, .int .i64 nb, .string tb] 25)) 0 0 ⟨#[]⟩
      rw [World.size_alloc, World.size_alloc] at this; exact this
  have hLd : Lits (((w.alloc (.cells #[.int .i64 ka, .int .i64 na, .string ta] 25)).alloc (.cells #[.int .i64 kb, .int .i64 nb, .string tb] 25)).alloc (.cells #[.int .i64 0, .int .i64 0, .string ⟨#[]⟩] 25)).drew := (((hL.alloc _).alloc _).alloc _).below (Below.refl _ _).drew
  have hah := Lib.hid ha
  have hbh := Lib.hid hb
  clear ha hb
  go_enter Tryz.func44, Tryz.ntmps44
  go_wp2_with fail
  go_region_with (go_at_call 104; first
    | (have hq := hb1; refine (cshow_is _ _ _ _ (by first | exact hah.out.1 | exact hbh.out.1) (by first | exact hah.out.2 | exact hbh.out.2) hL1 _ _ (by assumption)).mono ?_; rintro e w2 ⟨rfl, hb2⟩; have hS2 := hS1.on hb2; obtain ⟨b0, b1, b2, b3, b4, b5⟩ := hS2.1.cells; obtain ⟨b6, b7, b8, b9, b10, b11⟩ := hS2.2.1.cells)
    | (refine (cshow_is _ _ _ _ (by first | exact hah.out.1 | exact hbh.out.1) (by first | exact hah.out.2 | exact hbh.out.2) hLd _ _ (by assumption)).mono ?_; rintro e w1 ⟨rfl, hb1⟩; have hS1 := hS0.on hb1; obtain ⟨a0, a1, a2, a3, a4, a5⟩ := hS1.1.cells; obtain ⟨a6, a7, a8, a9, a10, a11⟩ := hS1.2.1.cells; have hL1 := hLd.below hb1))
  all_goals (
    have hS3 := (hS2.put1 0 0 s1).put2 k2 0 s2
    obtain ⟨W3, hW3⟩ : ∃ W, (((((w2.setCell ⟨w.heap.size, 0, none⟩ (.int .i64 0)).setCell ⟨w.heap.size, 1, none⟩ (.int .i64 0)).setCell ⟨w.heap.size, 2, none⟩ (.string s1)).setCell ⟨w.heap.size + 1, 0, none⟩ (.int .i64 k2)).setCell ⟨w.heap.size + 1, 1, none⟩ (.int .i64 0)).setCell ⟨w.heap.size + 1, 2, none⟩ (.string s2) = W := ⟨_, rfl⟩
    rw [hW3] at hS3
    first | rw [hW3] | skip
    clear hS0 hS1 hS2 hLd hL1 hb1 hb2 hW3 a0 a1 a2 a3 a4 a5 a6 a7 a8 a9 a10 a11 b0 b1 b2 b3 b4 b5 b6 b7 b8 b9 b10 b11
    obtain ⟨c0, c1, c2, c3, c4, c5⟩ := hS3.1.cells
    obtain ⟨c6, c7, c8, c9, c10, c11⟩ := hS3.2.1.cells
    obtain ⟨d0, d1, d2, d3, d4, d5⟩ := hS3.2.2.1.cells
    go_wp2
    exact bodyPost_ret (v := .agg #[.int .i64 0, .int .i64 0, .string ⟨#[]⟩]) (by simp only [results, Tryz.results44]; go_simp) rfl ⟨rfl, below_put hS3.2.2.2 (by omega)⟩)
set_option maxHeartbeats 8000000 in
theorem matched_null2 (pf af : Nat) (ka na : Int) (ta : ByteArray) (kb nb : Int) (tb : ByteArray) (w : World) (hL : Lits w) (ha : Val.inr na) (hb : Val.inr nb) (s1 s2 : ByteArray) (hv1 : Hid (Val.pshow ⟨ka, na, ta.data.toList⟩ = ⟨2, 0, s1.data.toList⟩)) (hv2 : Hid (Val.pshow ⟨kb, nb, tb.data.toList⟩ = ⟨0, 0, s2.data.toList⟩)) :
    Calls Tryz.prog 44 #[.agg #[.int .i64 ka, .int .i64 na, .string ta], .agg #[.int .i64 kb, .int .i64 nb, .string tb], .func (.func pf) #[] #[], .func (.func af) #[] #[]] w (VRet 0 0 ⟨#[]⟩ w) := by
  have hS0 : M3 w (((w.alloc (.cells #[.int .i64 ka, .int .i64 na, .string ta] 25)).alloc (.cells #[.int .i64 kb, .int .i64 nb, .string tb] 25)).alloc (.cells #[.int .i64 0, .int .i64 0, .string ⟨#[]⟩] 25)).drew ka na ta kb nb tb := by
    refine ⟨(((V3.new w _ _ _).alloc _).alloc _), ?_, ?_, ((((Below.refl _ w).alloc (Nat.le_refl _) _).alloc (by simp) _).alloc (by simp; omega) _).drew⟩
    · have := (V3.new (w.alloc (.cells #[.int .i64 ka, .int .i64 na, .string ta] 25)) kb nb tb).alloc (.cells #[.int .i64 0, .int .i64 0, .string ⟨#[]⟩] 25)
      rw [World.size_alloc] at this; exact this
    · have := V3.new ((w.alloc (.cells #[.int .i64 ka, .int .i64 na, .string ta] 25)).alloc (.cells #[.int .i64 kb, .int .i64 nb, .string tb] 25)) 0 0 ⟨#[]⟩
      rw [World.size_alloc, World.size_alloc] at this; exact this
  have hLd : Lits (((w.alloc (.cells #[.int .i64 ka, .int .i64 na, .string ta] 25)).alloc (.cells #[.int .i64 kb, .int .i64 nb, .string tb] 25)).alloc (.cells #[.int .i64 0, .int .i64 0, .string ⟨#[]⟩] 25)).drew := (((hL.alloc _).alloc _).alloc _).below (Below.refl _ _).drew
  have hah := Lib.hid ha
  have hbh := Lib.hid hb
  clear ha hb
  go_enter Tryz.func44, Tryz.ntmps44
  go_wp2_with fail
  go_region_with (go_at_call 104; first
    | (have hq := hb1; refine (cshow_is _ _ _ _ (by first | exact hah.out.1 | exact hbh.out.1) (by first | exact hah.out.2 | exact hbh.out.2) hL1 _ _ (by assumption)).mono ?_; rintro e w2 ⟨rfl, hb2⟩; have hS2 := hS1.on hb2; obtain ⟨b0, b1, b2, b3, b4, b5⟩ := hS2.1.cells; obtain ⟨b6, b7, b8, b9, b10, b11⟩ := hS2.2.1.cells)
    | (refine (cshow_is _ _ _ _ (by first | exact hah.out.1 | exact hbh.out.1) (by first | exact hah.out.2 | exact hbh.out.2) hLd _ _ (by assumption)).mono ?_; rintro e w1 ⟨rfl, hb1⟩; have hS1 := hS0.on hb1; obtain ⟨a0, a1, a2, a3, a4, a5⟩ := hS1.1.cells; obtain ⟨a6, a7, a8, a9, a10, a11⟩ := hS1.2.1.cells; have hL1 := hLd.below hb1))
  all_goals (
    have hS3 := (hS2.put1 2 0 s1).put2 0 0 s2
    obtain ⟨W3, hW3⟩ : ∃ W, (((((w2.setCell ⟨w.heap.size, 0, none⟩ (.int .i64 2)).setCell ⟨w.heap.size, 1, none⟩ (.int .i64 0)).setCell ⟨w.heap.size, 2, none⟩ (.string s1)).setCell ⟨w.heap.size + 1, 0, none⟩ (.int .i64 0)).setCell ⟨w.heap.size + 1, 1, none⟩ (.int .i64 0)).setCell ⟨w.heap.size + 1, 2, none⟩ (.string s2) = W := ⟨_, rfl⟩
    rw [hW3] at hS3
    first | rw [hW3] | skip
    clear hS0 hS1 hS2 hLd hL1 hb1 hb2 hW3 a0 a1 a2 a3 a4 a5 a6 a7 a8 a9 a10 a11 b0 b1 b2 b3 b4 b5 b6 b7 b8 b9 b10 b11
    obtain ⟨c0, c1, c2, c3, c4, c5⟩ := hS3.1.cells
    obtain ⟨c6, c7, c8, c9, c10, c11⟩ := hS3.2.1.cells
    obtain ⟨d0, d1, d2, d3, d4, d5⟩ := hS3.2.2.1.cells
    go_wp2
    exact bodyPost_ret (v := .agg #[.int .i64 0, .int .i64 0, .string ⟨#[]⟩]) (by simp only [results, Tryz.results44]; go_simp) rfl ⟨rfl, below_put hS3.2.2.2 (by omega)⟩)
set_option maxHeartbeats 8000000 in
theorem matched_both (pf af : Nat) (ka na : Int) (ta : ByteArray) (kb nb : Int) (tb : ByteArray) (w : World) (hL : Lits w) (ha : Val.inr na) (hb : Val.inr nb) (s1 s2 : ByteArray) (ega : ∀ args w, (callFunc af args).run Tryz.prog w = .ok (.enter af args) w) (egp : ∀ args w, (callFunc pf args).run Tryz.prog w = .ok (.enter pf args) w) (a1 : ByteArray) (ps : List Fit.P)
    (has : ∀ W, Calls Tryz.prog af #[.string s1] W fun e w' => e = .returned (.string a1) ∧ Below W.heap.size W w') (has1 : Hid (a1.size ≤ 1048576))
    (hps : ∀ W, Calls Tryz.prog pf #[.string s2] W fun e w' => ∃ v xs, e = .returned v ∧ w'.ownsRow W.heap.size 124 2 v xs.length (flat xs) ∧ PartsAt w' xs ps ∧ Below W.heap.size W w') (hpl : ps.length ≤ 1048576) (r : Bool) (hfit : Hid (Fit.fit ps a1.data.toList = r)) (nr : Int) (hnr : Hid ((if r = true then (1 : Int) else 0) = nr)) (hv1 : Hid (Val.pshow ⟨ka, na, ta.data.toList⟩ = ⟨2, 0, s1.data.toList⟩)) (hv2 : Hid (Val.pshow ⟨kb, nb, tb.data.toList⟩ = ⟨2, 0, s2.data.toList⟩)) :
    Calls Tryz.prog 44 #[.agg #[.int .i64 ka, .int .i64 na, .string ta], .agg #[.int .i64 kb, .int .i64 nb, .string tb], .func (.func pf) #[] #[], .func (.func af) #[] #[]] w (VRet 1 nr ⟨#[]⟩ w) := by
  have hxs : ∀ (xs : List (Bool × Value)) W, PartsAt W xs ps → xs.length ≤ 1048576 := fun xs W h => by rw [h.1]; exact hpl
  replace hxs := Lib.hid hxs
  replace has := Lib.hid has
  replace hps := Lib.hid hps
  replace ega := Lib.hid ega
  replace egp := Lib.hid egp
  replace hpl := Lib.hid hpl
  have hS0 : M3 w (((w.alloc (.cells #[.int .i64 ka, .int .i64 na, .string ta] 25)).alloc (.cells #[.int .i64 kb, .int .i64 nb, .string tb] 25)).alloc (.cells #[.int .i64 0, .int .i64 0, .string ⟨#[]⟩] 25)).drew ka na ta kb nb tb := by
    refine ⟨(((V3.new w _ _ _).alloc _).alloc _), ?_, ?_, ((((Below.refl _ w).alloc (Nat.le_refl _) _).alloc (by simp) _).alloc (by simp; omega) _).drew⟩
    · have := (V3.new (w.alloc (.cells #[.int .i64 ka, .int .i64 na, .string ta] 25)) kb nb tb).alloc (.cells #[.int .i64 0, .int .i64 0, .string ⟨#[]⟩] 25)
      rw [World.size_alloc] at this; exact this
    · have := V3.new ((w.alloc (.cells #[.int .i64 ka, .int .i64 na, .string ta] 25)).alloc (.cells #[.int .i64 kb, .int .i64 nb, .string tb] 25)) 0 0 ⟨#[]⟩
      rw [World.size_alloc, World.size_alloc] at this; exact this
  have hLd : Lits (((w.alloc (.cells #[.int .i64 ka, .int .i64 na, .string ta] 25)).alloc (.cells #[.int .i64 kb, .int .i64 nb, .string tb] 25)).alloc (.cells #[.int .i64 0, .int .i64 0, .string ⟨#[]⟩] 25)).drew := (((hL.alloc _).alloc _).alloc _).below (Below.refl _ _).drew
  have hah := Lib.hid ha
  have hbh := Lib.hid hb
  clear ha hb
  go_enter Tryz.func44, Tryz.ntmps44
  go_wp2_with fail
  go_region_with (go_at_call 104; first
    | (have hq := hb1; refine (cshow_is _ _ _ _ (by first | exact hah.out.1 | exact hbh.out.1) (by first | exact hah.out.2 | exact hbh.out.2) hL1 _ _ (by assumption)).mono ?_; rintro e w2 ⟨rfl, hb2⟩; have hS2 := hS1.on hb2; obtain ⟨b0, b1, b2, b3, b4, b5⟩ := hS2.1.cells; obtain ⟨b6, b7, b8, b9, b10, b11⟩ := hS2.2.1.cells)
    | (refine (cshow_is _ _ _ _ (by first | exact hah.out.1 | exact hbh.out.1) (by first | exact hah.out.2 | exact hbh.out.2) hLd _ _ (by assumption)).mono ?_; rintro e w1 ⟨rfl, hb1⟩; have hS1 := hS0.on hb1; obtain ⟨a0, a1, a2, a3, a4, a5⟩ := hS1.1.cells; obtain ⟨a6, a7, a8, a9, a10, a11⟩ := hS1.2.1.cells; have hL1 := hLd.below hb1))
  all_goals (
    have hS3 := (hS2.put1 2 0 s1).put2 2 0 s2
    obtain ⟨W3, hW3⟩ : ∃ W, (((((w2.setCell ⟨w.heap.size, 0, none⟩ (.int .i64 2)).setCell ⟨w.heap.size, 1, none⟩ (.int .i64 0)).setCell ⟨w.heap.size, 2, none⟩ (.string s1)).setCell ⟨w.heap.size + 1, 0, none⟩ (.int .i64 2)).setCell ⟨w.heap.size + 1, 1, none⟩ (.int .i64 0)).setCell ⟨w.heap.size + 1, 2, none⟩ (.string s2) = W := ⟨_, rfl⟩
    rw [hW3] at hS3
    first | rw [hW3] | skip
    clear hS0 hS1 hS2 hLd hL1 hb1 hb2 hW3 a0 a1 a2 a3 a4 a5 a6 a7 a8 a9 a10 a11 b0 b1 b2 b3 b4 b5 b6 b7 b8 b9 b10 b11
    obtain ⟨c0, c1, c2, c3, c4, c5⟩ := hS3.1.cells
    obtain ⟨c6, c7, c8, c9, c10, c11⟩ := hS3.2.1.cells
    obtain ⟨d0, d1, d2, d3, d4, d5⟩ := hS3.2.2.1.cells
    have ega := ega.out
    have egp := egp.out
    go_wp2_with fail
    obtain ⟨W1, hW1⟩ : ∃ W, W3.drew = W := ⟨_, rfl⟩
    have hS4 : M3 w W1 2 0 s1 2 0 s2 := by rw [← hW1]; exact ⟨hS3.1, hS3.2.1, hS3.2.2.1, hS3.2.2.2.drew⟩
    refine wp_region_held_drew (S := fun W => M3 w W 2 0 s1 2 0 s2) (by kernel_rfl) ?_ (fun hH => ?_)
    · rw [hW1]; exact hS4
    rw [hW1] at hH ⊢
    clear hW1 hS4 c0 c1 c2 c3 c4 c5 c6 c7 c8 c9 c10 c11 d0 d1 d2 d3 d4 d5
    refine wpAnyH_take (i := 0) (v := ?_) rfl (by kernel_rfl) (by kernel_rfl) (by kernel_rfl) (fun _ _ _ h => h) (Or.inl ⟨by rfl, ?_⟩) hH ?_
    rotate_left
    · (intro W hSw; (try dsimp only at hSw); go_simp; try with_reducible rfl)
    try simp only [List.getElem_toArray, List.getElem_cons_zero, List.getElem_cons_succ, Act.put, List.setIfInBounds_toArray, List.set_cons_zero, List.set_cons_succ]
    refine wpAnyH_take (i := 1) (v := ?_) rfl (by kernel_rfl) (by kernel_rfl) (by kernel_rfl) (fun _ _ _ h => h) (Or.inl ⟨by rfl, ?_⟩) hH ?_
    rotate_left
    · (intro W hSw; (try dsimp only at hSw); go_simp; try with_reducible rfl)
    try simp only [List.getElem_toArray, List.getElem_cons_zero, List.getElem_cons_succ, Act.put, List.setIfInBounds_toArray, List.set_cons_zero, List.set_cons_succ]
    refine wpAnyH_take (i := 2) (v := ?_) rfl (by kernel_rfl) (by kernel_rfl) (by kernel_rfl) (fun _ _ _ h => h) (Or.inl ⟨by rfl, ?_⟩) hH ?_
    rotate_left
    · (intro W hSw; (try dsimp only at hSw); obtain ⟨z0, z1, z2, z3, z4, z5⟩ := hSw.1.cells; obtain ⟨y0, y1, y2, y3, y4, y5⟩ := hSw.2.1.cells; go_simp; try with_reducible rfl)
    try simp only [List.getElem_toArray, List.getElem_cons_zero, List.getElem_cons_succ, Act.put, List.setIfInBounds_toArray, List.set_cons_zero, List.set_cons_succ]
    refine wpAnyH_take (i := 4) (v := ?_) rfl (by kernel_rfl) (by kernel_rfl) (by kernel_rfl) (fun _ _ _ h => h) (Or.inl ⟨by rfl, ?_⟩) hH ?_
    rotate_left
    · (intro W hSw; (try dsimp only at hSw); go_simp; try with_reducible rfl)
    try simp only [List.getElem_toArray, List.getElem_cons_zero, List.getElem_cons_succ, Act.put, List.setIfInBounds_toArray, List.set_cons_zero, List.set_cons_succ]
    refine wpAnyH_take (i := 5) (v := ?_) rfl (by kernel_rfl) (by kernel_rfl) (by kernel_rfl) (fun _ _ _ h => h) (Or.inl ⟨by rfl, ?_⟩) hH ?_
    rotate_left
    · (intro W hSw; (try dsimp only at hSw); go_simp; try with_reducible rfl)
    try simp only [List.getElem_toArray, List.getElem_cons_zero, List.getElem_cons_succ, Act.put, List.setIfInBounds_toArray, List.set_cons_zero, List.set_cons_succ]
    refine wpAnyH_take (i := 6) (v := ?_) rfl (by kernel_rfl) (by kernel_rfl) (by kernel_rfl) (fun _ _ _ h => h) (Or.inl ⟨by rfl, ?_⟩) hH ?_
    rotate_left
    · (intro W hSw; (try dsimp only at hSw); obtain ⟨z0, z1, z2, z3, z4, z5⟩ := hSw.1.cells; obtain ⟨y0, y1, y2, y3, y4, y5⟩ := hSw.2.1.cells; go_simp; try with_reducible rfl)
    try simp only [List.getElem_toArray, List.getElem_cons_zero, List.getElem_cons_succ, Act.put, List.setIfInBounds_toArray, List.set_cons_zero, List.set_cons_succ]
    refine wpAnyH_ready (rs := [3]) (by kernel_rfl) (by simp) ?_
    refine AllReadyH.cons rfl (fun K hK => ?_) AllReadyH.nil
    go_simp
    refine (has.out _).mono ?_; rintro e w4 ⟨rfl, hb4⟩
    refine hK.out _ _ ?_ (fun hH4 => ?_)
    · exact hH.on hb4
    clear hK K
    try simp only [List.getElem_toArray, List.getElem_cons_zero, List.getElem_cons_succ, Act.put, List.setIfInBounds_toArray, List.set_cons_zero, List.set_cons_succ]
    refine wpAnyH_ready (rs := [7]) (by kernel_rfl) (by simp) ?_
    refine AllReadyH.cons rfl (fun K hK => ?_) AllReadyH.nil
    go_simp
    refine (hps.out _).mono ?_; rintro e w5 ⟨v, xs, rfl, hrow, hP, hb5⟩
    refine hK.out _ _ ?_ (fun hH5 => ?_)
    · exact hH4.on hb5
    clear hK K
    try simp only [List.getElem_toArray, List.getElem_cons_zero, List.getElem_cons_succ, Act.put, List.setIfInBounds_toArray, List.set_cons_zero, List.set_cons_succ]
    refine wpAnyH_ready (rs := [8]) (by kernel_rfl) (by simp) ?_
    refine AllReadyH.cons rfl (fun K hK => ?_) AllReadyH.nil
    go_simp
    refine (fits_any _ _ xs _ _ _ has1.out (hxs.out xs _ hP) hrow hP).mono ?_; rintro e w6 ⟨rfl, hb6⟩
    refine hK.out _ _ ?_ (fun hH6 => ?_)
    · exact hH5.on hb6
    clear hK K
    try simp only [List.getElem_toArray, List.getElem_cons_zero, List.getElem_cons_succ, Act.put, List.setIfInBounds_toArray, List.set_cons_zero, List.set_cons_succ]
    refine wpAnyH_take (i := 9) (v := ?_) rfl (by kernel_rfl) (by kernel_rfl) (by kernel_rfl) (fun _ _ _ h => h) (Or.inl ⟨by rfl, ?_⟩) hH6 ?_
    rotate_left
    · (intro W hSw; (try dsimp only at hSw); go_simp; try with_reducible rfl)
    try simp only [List.getElem_toArray, List.getElem_cons_zero, List.getElem_cons_succ, Act.put, List.setIfInBounds_toArray, List.set_cons_zero, List.set_cons_succ]
    refine wpAnyH_done (by kernel_rfl) ?_ _
    obtain ⟨d0, d1, d2, d3, d4, d5⟩ := hH6.2.2.1.cells
    rw [hfit.out]
    clear hrow hP hps has hxs
    cases r with
    | true =>
      obtain rfl : nr = 1 := by rw [← hnr.out]; rfl
      go_wp2_with (go_at_call 81; refine (vint_any _ _).mono ?_; rintro e w7 ⟨rfl, hb7⟩; obtain ⟨g0, g1, g2, g3, g4, g5⟩ := (hH6.2.2.1.on hb7).cells)
      exact bodyPost_ret (v := .agg #[.int .i64 1, .int .i64 1, .string ⟨#[]⟩]) (by simp only [results, Tryz.results44]; go_simp) rfl ⟨rfl, below_put (hH6.on hb7).2.2.2 (by omega)⟩
    | false =>
      obtain rfl : nr = 0 := by rw [← hnr.out]; rfl
      go_wp2_with (go_at_call 81; refine (vint_any _ _).mono ?_; rintro e w7 ⟨rfl, hb7⟩; obtain ⟨g0, g1, g2, g3, g4, g5⟩ := (hH6.2.2.1.on hb7).cells)
      exact bodyPost_ret (v := .agg #[.int .i64 1, .int .i64 0, .string ⟨#[]⟩]) (by simp only [results, Tryz.results44]; go_simp) rfl ⟨rfl, below_put (hH6.on hb7).2.2.2 (by omega)⟩)

end Go.Proofs.YtmkgalcojoeniaaGreatDoor

namespace Go.Proofs.YtmkgalcojoeniaaGreatDoor
open Go.RowKit

theorem M3.new (w : World) (k1 n1 : Int) (t1 : ByteArray) (k2 n2 : Int) (t2 : ByteArray) : M3 w (((w.alloc (.cells #[.int .i64 k1, .int .i64 n1, .string t1] 25)).alloc (.cells #[.int .i64 k2, .int .i64 n2, .string t2] 25)).alloc (.cells #[.int .i64 0, .int .i64 0, .string ⟨#[]⟩] 25)) k1 n1 t1 k2 n2 t2 := by
  refine ⟨(((V3.new w _ _ _).alloc _).alloc _), ?_, ?_, (((Below.refl _ w).alloc (Nat.le_refl _) _).alloc (by simp) _).alloc (by simp; omega) _⟩
  · have := (V3.new (w.alloc (.cells #[.int .i64 k1, .int .i64 n1, .string t1] 25)) k2 n2 t2).alloc (.cells #[.int .i64 0, .int .i64 0, .string ⟨#[]⟩] 25)
    rw [World.size_alloc] at this; exact this
  · have := V3.new ((w.alloc (.cells #[.int .i64 k1, .int .i64 n1, .string t1] 25)).alloc (.cells #[.int .i64 k2, .int .i64 n2, .string t2] 25)) 0 0 ⟨#[]⟩
    rw [World.size_alloc, World.size_alloc] at this; exact this
/-- whether a value's text fits another one's pattern, as a value -/
def matchV (AS : List UInt8 → List UInt8) (PS : List UInt8 → List Fit.P) (a b : Val.V) : Val.V :=
  if (Val.pshow a).kind = 0 ∨ (Val.pshow b).kind = 0 then Val.zero else Val.pbool (Fit.fit (PS (Val.pshow b).text) (AS (Val.pshow a).text))
theorem pshow_form (v : Val.V) (hi : Val.inr v.int) : Val.pshow v = ⟨0, 0, (⟨#[]⟩ : ByteArray).data.toList⟩ ∨ ∃ t : ByteArray, Val.pshow v = ⟨2, 0, t.data.toList⟩ ∧ t.size ≤ 400 := by
  by_cases h : Val.may v = true ∧ v.kind ≠ 0
  · by_cases h1 : v.kind = 1
    · exact .inr ⟨bs (Lib.itoa v.int), Val.pshow_int h.1 h1, by have := Val.itoa_len v.int hi.1 hi.2; rw [bs_size]; omega⟩
    · refine .inr ⟨bs v.text, Val.pshow_text h.1 h.2 h1, ?_⟩
      rw [bs_size]
      rcases Val.may_iff.1 h.1 with ⟨a, _⟩ | ⟨a, _⟩ | ⟨_, _, a⟩
      · exact absurd a h.2
      · exact absurd a h1
      · exact a
  · refine .inl (Val.pshow_not ?_)
    by_cases hm : Val.may v = true
    · right; apply Classical.byContradiction; intro h0; exact h ⟨hm, h0⟩
    · left; simpa using hm

set_option maxHeartbeats 1000000 in
theorem matched_is {PS : List UInt8 → List Fit.P} {AS : List UInt8 → List UInt8} (pf af : Nat) (ega : ∀ args w, (callFunc af args).run Tryz.prog w = .ok (.enter af args) w) (egp : ∀ args w, (callFunc pf args).run Tryz.prog w = .ok (.enter pf args) w)
    (has : ∀ (t : ByteArray) W, t.size ≤ 400 → Calls Tryz.prog af #[.string t] W fun e w' => (e = .returned (.string (bs (AS t.data.toList))) ∧ Below W.heap.size W w') ∧ (AS t.data.toList).length ≤ 400)
    (hps : ∀ (t : ByteArray) W, t.size ≤ 400 → Calls Tryz.prog pf #[.string t] W fun e w' => ∃ v xs, e = .returned v ∧ w'.ownsRow W.heap.size 124 2 v xs.length (flat xs) ∧ PartsAt w' xs (PS t.data.toList) ∧ Below W.heap.size W w') (hsz : (∀ t : ByteArray, t.size ≤ 400 → (AS t.data.toList).length ≤ 400) ∧ ∀ t : ByteArray, t.size ≤ 400 → (PS t.data.toList).length ≤ 400)
    (ka na : Int) (ta : ByteArray) (kb nb : Int) (tb : ByteArray) (w : World) (hL : Lits w) (ha : Val.inr na) (hb : Val.inr nb) (k n : Int) (hv : Hid (matchV AS PS ⟨ka, na, ta.data.toList⟩ ⟨kb, nb, tb.data.toList⟩ = ⟨k, n, []⟩)) :
    Calls Tryz.prog 44 #[.agg #[.int .i64 ka, .int .i64 na, .string ta], .agg #[.int .i64 kb, .int .i64 nb, .string tb], .func (.func pf) #[] #[], .func (.func af) #[] #[]] w (VRet k n ⟨#[]⟩ w) := by
  have hv' := hv.out
  unfold matchV at hv'
  rcases pshow_form ⟨ka, na, ta.data.toList⟩ ha with h1 | ⟨s1, h1, l1⟩
  · rw [if_pos (.inl (by rw [h1]))] at hv'
    cases hv'
    rcases pshow_form ⟨kb, nb, tb.data.toList⟩ hb with h2 | ⟨s2, h2, l2⟩
    · exact matched_null1 pf af ka na ta kb nb tb w hL ha hb ⟨#[]⟩ ⟨#[]⟩ 0 (Lib.hid h1) (Lib.hid h2)
    · exact matched_null1 pf af ka na ta kb nb tb w hL ha hb ⟨#[]⟩ s2 2 (Lib.hid h1) (Lib.hid h2)
  · rcases pshow_form ⟨kb, nb, tb.data.toList⟩ hb with h2 | ⟨s2, h2, l2⟩
    · rw [if_pos (.inr (by rw [h2]))] at hv'
      cases hv'
      exact matched_null2 pf af ka na ta kb nb tb w hL ha hb s1 ⟨#[]⟩ (Lib.hid h1) (Lib.hid h2)
    · rw [if_neg (by rw [h1, h2]; simp), h1, h2] at hv'
      cases hv'
      exact matched_both pf af ka na ta kb nb tb w hL ha hb s1 s2 ega egp (bs (AS s1.data.toList)) (PS s2.data.toList) (fun W => (has s1 W l1).mono fun _ _ h => h.1) (Lib.hid (by rw [bs_size]; have := hsz.1 s1 l1; omega)) (fun W => hps s2 W l2) (by have := hsz.2 s2 l2; omega) _ (Lib.hid rfl) _ (Lib.hid rfl) (Lib.hid h1) (Lib.hid h2)

theorem likeas_any (t : ByteArray) (W : World) (ht : t.size ≤ 400) : Calls Tryz.prog 46 #[.string t] W fun e w' => (e = .returned (.string (bs (t.data.toList.map Txt.lower))) ∧ Below W.heap.size W w') ∧ (t.data.toList.map Txt.lower).length ≤ 400 := by
  have hl : (t.data.toList.map Txt.lower).length ≤ 400 := by rw [List.length_map]; exact ht
  have hf := fold_low t W (by omega)
  obtain ⟨R, hR⟩ : ∃ R, bs (t.data.toList.map Txt.lower) = R := ⟨_, rfl⟩
  rw [hR] at hf ⊢
  replace hl := Lib.hid hl
  clear hR
  go_enter Tryz.func46, Tryz.ntmps46
  go_wp2_with (go_at_call 47; refine hf.mono ?_; rintro e w1 ⟨rfl, hb1⟩)
  go_ret
  exact ⟨⟨rfl, hb1⟩, hl.out⟩

set_option maxHeartbeats 2000000 in
theorem flike_is (ka na : Int) (ta : ByteArray) (kb nb : Int) (tb : ByteArray) (w : World) (hL : Lits w) (ha : Val.inr na) (hb : Val.inr nb) (k n : Int) (hv : Hid (matchV (fun l => l.map Txt.lower) (fun l => Fit.like (l.map Txt.lower)) ⟨ka, na, ta.data.toList⟩ ⟨kb, nb, tb.data.toList⟩ = ⟨k, n, []⟩)) :
    Calls Tryz.prog 22 #[.agg #[.int .i64 ka, .int .i64 na, .string ta], .agg #[.int .i64 kb, .int .i64 nb, .string tb]] w (VRet k n ⟨#[]⟩ w) := by
  have hS0 : M3 w (((w.alloc (.cells #[.int .i64 ka, .int .i64 na, .string ta] 25)).alloc (.cells #[.int .i64 kb, .int .i64 nb, .string tb] 25)).alloc (.cells #[.int .i64 0, .int .i64 0, .string ⟨#[]⟩] 25)) ka na ta kb nb tb := M3.new ..
  have hmt := matched_is (PS := (fun l => Fit.like (l.map Txt.lower))) (AS := (fun l => l.map Txt.lower)) 45 46 (enters_of Tryz.func46 (by kernel_rfl) rfl) (enters_of Tryz.func45 (by kernel_rfl) rfl) (fun t W h => likeas_any t W h) (fun t W h => like_any t W (by omega)) ⟨fun t h => by rw [List.length_map]; exact h, fun t h => by rw [Fit.like, List.length_map, List.length_map]; exact h⟩ ka na ta kb nb tb _ (((hL.alloc (.cells #[.int .i64 ka, .int .i64 na, .string ta] 25)).alloc (.cells #[.int .i64 kb, .int .i64 nb, .string tb] 25)).alloc (.cells #[.int .i64 0, .int .i64 0, .string ⟨#[]⟩] 25)) ha hb k n hv
  obtain ⟨a0, a1, a2, a3, a4, a5⟩ := hS0.1.cells
  obtain ⟨a6, a7, a8, a9, a10, a11⟩ := hS0.2.1.cells
  replace hmt := Lib.hid hmt
  clear ha hb hv hL
  go_enter Tryz.func22, Tryz.ntmps22
  go_wp2_with (go_at_call 44; refine hmt.out.mono ?_; rintro e w1 ⟨rfl, hb1⟩; have hS1 := hS0.on hb1; obtain ⟨b0, b1, b2, b3, b4, b5⟩ := hS1.2.2.1.cells)
  exact bodyPost_ret (v := .agg #[.int .i64 k, .int .i64 n, .string ⟨#[]⟩]) (by simp only [results, Tryz.results22]; go_simp) rfl ⟨rfl, below_put hS1.2.2.2 (by omega)⟩

end Go.Proofs.YtmkgalcojoeniaaGreatDoor

