/- Walks: Texts of the reference of layer 18. Walks: Choose of the reference of layer 18. -/
import Derived.Test.YtmkgalcojoeniaaGreatDoorFrB
import Derived.Deep.CutRange
set_option maxRecDepth 100000
set_option linter.unusedVariables false
set_option linter.unusedSimpArgs false
namespace Go.Proofs.YtmkgalcojoeniaaGreatDoor
open Go.RowKit
attribute [local go_sem] run_store_fn run_store_nofn

theorem rtext18_is (t : ByteArray) (w : World) (k' : Int) (t' : ByteArray) (hv : Hid (Val.ptext t.data.toList = ⟨k', 0, t'.data.toList⟩)) : Calls Tryz.prog 61 #[.string t] w (VRet k' 0 t' w) := by
  have hv' := hv.out
  have e : t.data.toList.length = t.size := rfl
  unfold Val.ptext at hv'
  by_cases h : 400 < t.data.toList.length
  · rw [if_pos h] at hv'
    obtain ⟨rfl, _, rfl⟩ := v_inj hv'
    exact rtext_long t w (by omega)
  · rw [if_neg h] at hv'
    obtain ⟨rfl, _, e2⟩ := v_inj hv'
    rw [bs_of] at e2
    subst e2
    exact rtext_ok t w (by omega)

set_option maxHeartbeats 4000000 in
theorem rtx_hex (b off cap : Nat) (k0 n0 : Int) (t0 : ByteArray) (w : World) (hL : Lits w) (v0 : VAt w b (off + 0) k0 n0 t0) (i0 : Val.inr n0) (s : ByteArray) (hs : s.size ≤ 400) (hsh : Hid (Val.pshow ⟨k0, n0, t0.data.toList⟩ = ⟨2, 0, s.data.toList⟩)) (r : ByteArray) (hr : Hid (bs (hexU s.data.toList) = r)) (k' : Int) (t' : ByteArray) (hv : Hid (Val.ptext r.data.toList = ⟨k', 0, t'.data.toList⟩)) :
    Calls Tryz.prog 37 #[.string ⟨#[104, 101, 120]⟩, .slice (some ⟨b, off, none⟩) 1 cap] w (VRet k' 0 t' w) := by
  obtain ⟨g0, hg0⟩ : ∃ g, w.heap.size = g := ⟨_, rfl⟩
  have hA0 := AgS.one w 0 0 ⟨#[]⟩
  rw [hg0] at hA0
  have hw0 : w.heap.size ≤ g0 := Nat.le_of_eq hg0
  replace i0 := Lib.hid i0
  simp only [Nat.add_zero] at v0
  obtain ⟨c0, c1, c2, _⟩ := v0.on hA0.2
  replace hw0 := Lib.hid hw0
  replace hg0 := Lib.hid hg0
  go_enter Tryz.func37, Tryz.ntmps37
  go_upto_region 1 with fail
  rw [hg0.out]
  go_wp2_with fail
  refine (rbytes18_is _ _ _ _ i0.out (hL.below hA0.2) _ _ hsh).mono ?_
  rintro e w1 ⟨rfl, hb1⟩
  have hA1 := hA0.on hb1
  clear c0 c1 c2
  go_wp2_with fail
  refine (rhex18_any s _ (by omega) r hr).mono ?_
  rintro e w2 ⟨rfl, hb2⟩
  have hA2 := hA1.on hb2
  go_wp2_with fail
  refine (rtext18_is r _ k' t' hv).mono ?_
  rintro e w3 ⟨rfl, hb3⟩
  have hA3 := hA2.on hb3
  obtain ⟨y0, y1, y2, y3, y4, y5⟩ := (AgS.get hA3 (g := g0) (k := 0) (n := 0) (t := ⟨#[]⟩) List.mem_cons_self).cells
  go_wp2
  exact bodyPost_ret (v := .agg #[.int .i64 k', .int .i64 0, .string t']) (by simp only [results, Tryz.results37]; go_simp) rfl ⟨rfl, below_put hA3.2 hw0.out⟩

set_option maxHeartbeats 4000000 in
theorem rtx_lower (b off cap : Nat) (k0 n0 : Int) (t0 : ByteArray) (w : World) (hL : Lits w) (v0 : VAt w b (off + 0) k0 n0 t0) (i0 : Val.inr n0) (s : ByteArray) (hs : s.size ≤ 400) (hsh : Hid (Val.pshow ⟨k0, n0, t0.data.toList⟩ = ⟨2, 0, s.data.toList⟩)) (r : ByteArray) (hr : Hid (bs (s.data.toList.map Txt.lower) = r)) (k' : Int) (t' : ByteArray) (hv : Hid (Val.ptext r.data.toList = ⟨k', 0, t'.data.toList⟩)) :
    Calls Tryz.prog 37 #[.string ⟨#[108, 111, 119, 101, 114]⟩, .slice (some ⟨b, off, none⟩) 1 cap] w (VRet k' 0 t' w) := by
  obtain ⟨g0, hg0⟩ : ∃ g, w.heap.size = g := ⟨_, rfl⟩
  have hA0 := AgS.one w 0 0 ⟨#[]⟩
  rw [hg0] at hA0
  have hw0 : w.heap.size ≤ g0 := Nat.le_of_eq hg0
  replace i0 := Lib.hid i0
  simp only [Nat.add_zero] at v0
  obtain ⟨c0, c1, c2, _⟩ := v0.on hA0.2
  replace hw0 := Lib.hid hw0
  replace hg0 := Lib.hid hg0
  go_enter Tryz.func37, Tryz.ntmps37
  go_upto_region 1 with fail
  rw [hg0.out]
  go_wp2_with fail
  refine (rbytes18_is _ _ _ _ i0.out (hL.below hA0.2) _ _ hsh).mono ?_
  rintro e w1 ⟨rfl, hb1⟩
  have hA1 := hA0.on hb1
  clear c0 c1 c2
  go_wp2_with fail
  refine (rlower_any s _ (by omega) r hr).mono ?_
  rintro e w2 ⟨rfl, hb2⟩
  have hA2 := hA1.on hb2
  go_wp2_with fail
  refine (rtext18_is r _ k' t' hv).mono ?_
  rintro e w3 ⟨rfl, hb3⟩
  have hA3 := hA2.on hb3
  obtain ⟨y0, y1, y2, y3, y4, y5⟩ := (AgS.get hA3 (g := g0) (k := 0) (n := 0) (t := ⟨#[]⟩) List.mem_cons_self).cells
  go_wp2
  exact bodyPost_ret (v := .agg #[.int .i64 k', .int .i64 0, .string t']) (by simp only [results, Tryz.results37]; go_simp) rfl ⟨rfl, below_put hA3.2 hw0.out⟩

set_option maxHeartbeats 4000000 in
theorem rtx_upper (b off cap : Nat) (k0 n0 : Int) (t0 : ByteArray) (w : World) (hL : Lits w) (v0 : VAt w b (off + 0) k0 n0 t0) (i0 : Val.inr n0) (s : ByteArray) (hs : s.size ≤ 400) (hsh : Hid (Val.pshow ⟨k0, n0, t0.data.toList⟩ = ⟨2, 0, s.data.toList⟩)) (r : ByteArray) (hr : Hid (bs (s.data.toList.map upper) = r)) (k' : Int) (t' : ByteArray) (hv : Hid (Val.ptext r.data.toList = ⟨k', 0, t'.data.toList⟩)) :
    Calls Tryz.prog 37 #[.string ⟨#[117, 112, 112, 101, 114]⟩, .slice (some ⟨b, off, none⟩) 1 cap] w (VRet k' 0 t' w) := by
  obtain ⟨g0, hg0⟩ : ∃ g, w.heap.size = g := ⟨_, rfl⟩
  have hA0 := AgS.one w 0 0 ⟨#[]⟩
  rw [hg0] at hA0
  have hw0 : w.heap.size ≤ g0 := Nat.le_of_eq hg0
  replace i0 := Lib.hid i0
  simp only [Nat.add_zero] at v0
  obtain ⟨c0, c1, c2, _⟩ := v0.on hA0.2
  replace hw0 := Lib.hid hw0
  replace hg0 := Lib.hid hg0
  go_enter Tryz.func37, Tryz.ntmps37
  go_upto_region 1 with fail
  rw [hg0.out]
  go_wp2_with fail
  refine (rbytes18_is _ _ _ _ i0.out (hL.below hA0.2) _ _ hsh).mono ?_
  rintro e w1 ⟨rfl, hb1⟩
  have hA1 := hA0.on hb1
  clear c0 c1 c2
  go_wp2_with fail
  refine (rupper18_any s _ (by omega) r hr).mono ?_
  rintro e w2 ⟨rfl, hb2⟩
  have hA2 := hA1.on hb2
  go_wp2_with fail
  refine (rtext18_is r _ k' t' hv).mono ?_
  rintro e w3 ⟨rfl, hb3⟩
  have hA3 := hA2.on hb3
  obtain ⟨y0, y1, y2, y3, y4, y5⟩ := (AgS.get hA3 (g := g0) (k := 0) (n := 0) (t := ⟨#[]⟩) List.mem_cons_self).cells
  go_wp2
  exact bodyPost_ret (v := .agg #[.int .i64 k', .int .i64 0, .string t']) (by simp only [results, Tryz.results37]; go_simp) rfl ⟨rfl, below_put hA3.2 hw0.out⟩

set_option maxHeartbeats 4000000 in
theorem rtx_length (b off cap : Nat) (k0 n0 : Int) (t0 : ByteArray) (w : World) (hL : Lits w) (v0 : VAt w b (off + 0) k0 n0 t0) (i0 : Val.inr n0) (s : ByteArray) (hs : s.size ≤ 400) (hsh : Hid (Val.pshow ⟨k0, n0, t0.data.toList⟩ = ⟨2, 0, s.data.toList⟩)) :
    Calls Tryz.prog 37 #[.string ⟨#[108, 101, 110, 103, 116, 104]⟩, .slice (some ⟨b, off, none⟩) 1 cap] w (VRet 1 (s.size : Int) ⟨#[]⟩ w) := by
  obtain ⟨g0, hg0⟩ : ∃ g, w.heap.size = g := ⟨_, rfl⟩
  have hA0 := AgS.one w 0 0 ⟨#[]⟩
  rw [hg0] at hA0
  have hw0 : w.heap.size ≤ g0 := Nat.le_of_eq hg0
  replace i0 := Lib.hid i0
  simp only [Nat.add_zero] at v0
  obtain ⟨c0, c1, c2, _⟩ := v0.on hA0.2
  replace hw0 := Lib.hid hw0
  replace hg0 := Lib.hid hg0
  go_enter Tryz.func37, Tryz.ntmps37
  go_upto_region 1 with fail
  rw [hg0.out]
  go_wp2_with fail
  refine (rbytes18_is _ _ _ _ i0.out (hL.below hA0.2) _ _ hsh).mono ?_
  rintro e w1 ⟨rfl, hb1⟩
  have hA1 := hA0.on hb1
  clear c0 c1 c2
  go_wp2_with fail
  refine (rint_any _ _).mono ?_
  rintro e w2 ⟨rfl, hb2⟩
  have hA2 := hA1.on hb2
  obtain ⟨y0, y1, y2, y3, y4, y5⟩ := (AgS.get hA2 (g := g0) (k := 0) (n := 0) (t := ⟨#[]⟩) List.mem_cons_self).cells
  go_wp2
  exact bodyPost_ret (v := .agg #[.int .i64 1, .int .i64 (s.size : Int), .string ⟨#[]⟩]) (by simp only [results, Tryz.results37]; go_simp) rfl ⟨rfl, below_put hA2.2 hw0.out⟩

set_option maxHeartbeats 4000000 in
theorem rtx_instr (b off cap : Nat) (k0 n0 : Int) (t0 : ByteArray) (k1 n1 : Int) (t1 : ByteArray) (w : World) (hL : Lits w) (v0 : VAt w b (off + 0) k0 n0 t0) (v1 : VAt w b (off + 3) k1 n1 t1) (i0 : Val.inr n0) (i1 : Val.inr n1) (s : ByteArray) (hs : s.size ≤ 400) (hsh : Hid (Val.pshow ⟨k0, n0, t0.data.toList⟩ = ⟨2, 0, s.data.toList⟩)) (s1 : ByteArray) (hs1 : s1.size ≤ 400) (hsh1 : Hid (Val.pshow ⟨k1, n1, t1.data.toList⟩ = ⟨2, 0, s1.data.toList⟩)) (r : Int) (hr : Hid (Lib.index s.data.toList s1.data.toList = r)) (hr0 : -1 ≤ r) (hr1 : r ≤ 400) :
    Calls Tryz.prog 37 #[.string ⟨#[105, 110, 115, 116, 114]⟩, .slice (some ⟨b, off, none⟩) 2 cap] w (VRet 1 (r + 1) ⟨#[]⟩ w) := by
  obtain ⟨g0, hg0⟩ : ∃ g, w.heap.size = g := ⟨_, rfl⟩
  have hA0 := AgS.one w 0 0 ⟨#[]⟩
  rw [hg0] at hA0
  have hw0 : w.heap.size ≤ g0 := Nat.le_of_eq hg0
  replace i0 := Lib.hid i0
  replace i1 := Lib.hid i1
  simp only [Nat.add_zero] at v0
  obtain ⟨c0, c1, c2, _⟩ := v0.on hA0.2
  replace hw0 := Lib.hid hw0
  replace hg0 := Lib.hid hg0
  go_enter Tryz.func37, Tryz.ntmps37
  go_upto_region 1 with fail
  rw [hg0.out]
  go_wp2_with fail
  refine (rbytes18_is _ _ _ _ i0.out (hL.below hA0.2) _ _ hsh).mono ?_
  rintro e w1 ⟨rfl, hb1⟩
  have hA1 := hA0.on hb1
  clear c0 c1 c2
  obtain ⟨d0, d1, d2, _⟩ := v1.on hA1.2
  go_wp2_with fail
  refine (rbytes18_is _ _ _ _ i1.out (hL.below hA1.2) _ _ hsh1).mono ?_
  rintro e w2 ⟨rfl, hb2⟩
  have hA2 := hA1.on hb2
  clear d0 d1 d2
  go_wp2_with fail
  refine (rfind18_any s s1 _ (by omega) (by omega) r hr).mono ?_
  rintro e w3 ⟨rfl, rfl⟩
  go_wp2_with fail
  refine (rint_any _ _).mono ?_
  rintro e w4 ⟨rfl, hb4⟩
  have hA4 := hA2.on hb4
  obtain ⟨y0, y1, y2, y3, y4, y5⟩ := (AgS.get hA4 (g := g0) (k := 0) (n := 0) (t := ⟨#[]⟩) List.mem_cons_self).cells
  go_wp2
  exact bodyPost_ret (v := .agg #[.int .i64 1, .int .i64 (r + 1), .string ⟨#[]⟩]) (by simp only [results, Tryz.results37]; go_simp) rfl ⟨rfl, below_put hA4.2 hw0.out⟩

set_option maxHeartbeats 4000000 in
theorem rtx_ltrim1 (b off cap : Nat) (k0 n0 : Int) (t0 : ByteArray) (w : World) (hL : Lits w) (v0 : VAt w b (off + 0) k0 n0 t0) (i0 : Val.inr n0) (s : ByteArray) (hs : s.size ≤ 400) (hsh : Hid (Val.pshow ⟨k0, n0, t0.data.toList⟩ = ⟨2, 0, s.data.toList⟩)) (r : ByteArray) (hr : Hid (bs (trimT [32] true false s.data.toList) = r)) (hrs : r.size ≤ 400) :
    Calls Tryz.prog 37 #[.string ⟨#[108, 116, 114, 105, 109]⟩, .slice (some ⟨b, off, none⟩) 1 cap] w (VRet 2 0 r w) := by
  obtain ⟨g0, hg0⟩ : ∃ g, w.heap.size = g := ⟨_, rfl⟩
  have hA0 := AgS.one w 0 0 ⟨#[]⟩
  rw [hg0] at hA0
  have hw0 : w.heap.size ≤ g0 := Nat.le_of_eq hg0
  replace i0 := Lib.hid i0
  simp only [Nat.add_zero] at v0
  obtain ⟨c0, c1, c2, _⟩ := v0.on hA0.2
  replace hw0 := Lib.hid hw0
  replace hg0 := Lib.hid hg0
  go_enter Tryz.func37, Tryz.ntmps37
  go_upto_region 1 with fail
  rw [hg0.out]
  go_wp2_with fail
  refine (rbytes18_is _ _ _ _ i0.out (hL.below hA0.2) _ _ hsh).mono ?_
  rintro e w1 ⟨rfl, hb1⟩
  have hA1 := hA0.on hb1
  clear c0 c1 c2
  go_wp2_with fail
  refine (rtrim18_any s ⟨#[32]⟩ true false _ (by omega) (by decide) r hr).mono ?_
  rintro e w7 ⟨rfl, rfl⟩
  go_wp2_with fail
  refine (rtext_ok r _ hrs).mono ?_
  rintro e w8 ⟨rfl, hb8⟩
  have hA8 := hA1.on hb8
  obtain ⟨y0, y1, y2, y3, y4, y5⟩ := (AgS.get hA8 (g := g0) (k := 0) (n := 0) (t := ⟨#[]⟩) List.mem_cons_self).cells
  go_wp2
  exact bodyPost_ret (v := .agg #[.int .i64 2, .int .i64 0, .string r]) (by simp only [results, Tryz.results37]; go_simp) rfl ⟨rfl, below_put hA8.2 hw0.out⟩

set_option maxHeartbeats 4000000 in
theorem rtx_ltrim2 (b off cap : Nat) (k0 n0 : Int) (t0 : ByteArray) (k1 n1 : Int) (t1 : ByteArray) (w : World) (hL : Lits w) (v0 : VAt w b (off + 0) k0 n0 t0) (v1 : VAt w b (off + 3) k1 n1 t1) (i0 : Val.inr n0) (i1 : Val.inr n1) (s : ByteArray) (hs : s.size ≤ 400) (hsh : Hid (Val.pshow ⟨k0, n0, t0.data.toList⟩ = ⟨2, 0, s.data.toList⟩)) (s1 : ByteArray) (hs1 : s1.size ≤ 400) (hsh1 : Hid (Val.pshow ⟨k1, n1, t1.data.toList⟩ = ⟨2, 0, s1.data.toList⟩)) (r : ByteArray) (hr : Hid (bs (trimT s1.data.toList true false s.data.toList) = r)) (hrs : r.size ≤ 400) :
    Calls Tryz.prog 37 #[.string ⟨#[108, 116, 114, 105, 109]⟩, .slice (some ⟨b, off, none⟩) 2 cap] w (VRet 2 0 r w) := by
  obtain ⟨g0, hg0⟩ : ∃ g, w.heap.size = g := ⟨_, rfl⟩
  have hA0 := AgS.one w 0 0 ⟨#[]⟩
  rw [hg0] at hA0
  have hw0 : w.heap.size ≤ g0 := Nat.le_of_eq hg0
  replace i0 := Lib.hid i0
  replace i1 := Lib.hid i1
  simp only [Nat.add_zero] at v0
  obtain ⟨c0, c1, c2, _⟩ := v0.on hA0.2
  replace hw0 := Lib.hid hw0
  replace hg0 := Lib.hid hg0
  go_enter Tryz.func37, Tryz.ntmps37
  go_upto_region 1 with fail
  rw [hg0.out]
  go_wp2_with fail
  refine (rbytes18_is _ _ _ _ i0.out (hL.below hA0.2) _ _ hsh).mono ?_
  rintro e w1 ⟨rfl, hb1⟩
  have hA1 := hA0.on hb1
  clear c0 c1 c2
  obtain ⟨d0, d1, d2, _⟩ := v1.on hA1.2
  go_wp2_with fail
  refine (rbytes18_is _ _ _ _ i1.out (hL.below hA1.2) _ _ hsh1).mono ?_
  rintro e w2 ⟨rfl, hb2⟩
  have hA2 := hA1.on hb2
  clear d0 d1 d2
  go_wp2_with fail
  refine (rtrim18_any s s1 true false _ (by omega) (by omega) r hr).mono ?_
  rintro e w7 ⟨rfl, rfl⟩
  go_wp2_with fail
  refine (rtext_ok r _ hrs).mono ?_
  rintro e w8 ⟨rfl, hb8⟩
  have hA8 := hA2.on hb8
  obtain ⟨y0, y1, y2, y3, y4, y5⟩ := (AgS.get hA8 (g := g0) (k := 0) (n := 0) (t := ⟨#[]⟩) List.mem_cons_self).cells
  go_wp2
  exact bodyPost_ret (v := .agg #[.int .i64 2, .int .i64 0, .string r]) (by simp only [results, Tryz.results37]; go_simp) rfl ⟨rfl, below_put hA8.2 hw0.out⟩

set_option maxHeartbeats 4000000 in
theorem rtx_rtrim1 (b off cap : Nat) (k0 n0 : Int) (t0 : ByteArray) (w : World) (hL : Lits w) (v0 : VAt w b (off + 0) k0 n0 t0) (i0 : Val.inr n0) (s : ByteArray) (hs : s.size ≤ 400) (hsh : Hid (Val.pshow ⟨k0, n0, t0.data.toList⟩ = ⟨2, 0, s.data.toList⟩)) (r : ByteArray) (hr : Hid (bs (trimT [32] false true s.data.toList) = r)) (hrs : r.size ≤ 400) :
    Calls Tryz.prog 37 #[.string ⟨#[114, 116, 114, 105, 109]⟩, .slice (some ⟨b, off, none⟩) 1 cap] w (VRet 2 0 r w) := by
  obtain ⟨g0, hg0⟩ : ∃ g, w.heap.size = g := ⟨_, rfl⟩
  have hA0 := AgS.one w 0 0 ⟨#[]⟩
  rw [hg0] at hA0
  have hw0 : w.heap.size ≤ g0 := Nat.le_of_eq hg0
  replace i0 := Lib.hid i0
  simp only [Nat.add_zero] at v0
  obtain ⟨c0, c1, c2, _⟩ := v0.on hA0.2
  replace hw0 := Lib.hid hw0
  replace hg0 := Lib.hid hg0
  go_enter Tryz.func37, Tryz.ntmps37
  go_upto_region 1 with fail
  rw [hg0.out]
  go_wp2_with fail
  refine (rbytes18_is _ _ _ _ i0.out (hL.below hA0.2) _ _ hsh).mono ?_
  rintro e w1 ⟨rfl, hb1⟩
  have hA1 := hA0.on hb1
  clear c0 c1 c2
  go_wp2_with fail
  refine (rtrim18_any s ⟨#[32]⟩ false true _ (by omega) (by decide) r hr).mono ?_
  rintro e w7 ⟨rfl, rfl⟩
  go_wp2_with fail
  refine (rtext_ok r _ hrs).mono ?_
  rintro e w8 ⟨rfl, hb8⟩
  have hA8 := hA1.on hb8
  obtain ⟨y0, y1, y2, y3, y4, y5⟩ := (AgS.get hA8 (g := g0) (k := 0) (n := 0) (t := ⟨#[]⟩) List.mem_cons_self).cells
  go_wp2
  exact bodyPost_ret (v := .agg #[.int .i64 2, .int .i64 0, .string r]) (by simp only [results, Tryz.results37]; go_simp) rfl ⟨rfl, below_put hA8.2 hw0.out⟩

set_option maxHeartbeats 4000000 in
theorem rtx_rtrim2 (b off cap : Nat) (k0 n0 : Int) (t0 : ByteArray) (k1 n1 : Int) (t1 : ByteArray) (w : World) (hL : Lits w) (v0 : VAt w b (off + 0) k0 n0 t0) (v1 : VAt w b (off + 3) k1 n1 t1) (i0 : Val.inr n0) (i1 : Val.inr n1) (s : ByteArray) (hs : s.size ≤ 400) (hsh : Hid (Val.pshow ⟨k0, n0, t0.data.toList⟩ = ⟨2, 0, s.data.toList⟩)) (s1 : ByteArray) (hs1 : s1.size ≤ 400) (hsh1 : Hid (Val.pshow ⟨k1, n1, t1.data.toList⟩ = ⟨2, 0, s1.data.toList⟩)) (r : ByteArray) (hr : Hid (bs (trimT s1.data.toList false true s.data.toList) = r)) (hrs : r.size ≤ 400) :
    Calls Tryz.prog 37 #[.string ⟨#[114, 116, 114, 105, 109]⟩, .slice (some ⟨b, off, none⟩) 2 cap] w (VRet 2 0 r w) := by
  obtain ⟨g0, hg0⟩ : ∃ g, w.heap.size = g := ⟨_, rfl⟩
  have hA0 := AgS.one w 0 0 ⟨#[]⟩
  rw [hg0] at hA0
  have hw0 : w.heap.size ≤ g0 := Nat.le_of_eq hg0
  replace i0 := Lib.hid i0
  replace i1 := Lib.hid i1
  simp only [Nat.add_zero] at v0
  obtain ⟨c0, c1, c2, _⟩ := v0.on hA0.2
  replace hw0 := Lib.hid hw0
  replace hg0 := Lib.hid hg0
  go_enter Tryz.func37, Tryz.ntmps37
  go_upto_region 1 with fail
  rw [hg0.out]
  go_wp2_with fail
  refine (rbytes18_is _ _ _ _ i0.out (hL.below hA0.2) _ _ hsh).mono ?_
  rintro e w1 ⟨rfl, hb1⟩
  have hA1 := hA0.on hb1
  clear c0 c1 c2
  obtain ⟨d0, d1, d2, _⟩ := v1.on hA1.2
  go_wp2_with fail
  refine (rbytes18_is _ _ _ _ i1.out (hL.below hA1.2) _ _ hsh1).mono ?_
  rintro e w2 ⟨rfl, hb2⟩
  have hA2 := hA1.on hb2
  clear d0 d1 d2
  go_wp2_with fail
  refine (rtrim18_any s s1 false true _ (by omega) (by omega) r hr).mono ?_
  rintro e w7 ⟨rfl, rfl⟩
  go_wp2_with fail
  refine (rtext_ok r _ hrs).mono ?_
  rintro e w8 ⟨rfl, hb8⟩
  have hA8 := hA2.on hb8
  obtain ⟨y0, y1, y2, y3, y4, y5⟩ := (AgS.get hA8 (g := g0) (k := 0) (n := 0) (t := ⟨#[]⟩) List.mem_cons_self).cells
  go_wp2
  exact bodyPost_ret (v := .agg #[.int .i64 2, .int .i64 0, .string r]) (by simp only [results, Tryz.results37]; go_simp) rfl ⟨rfl, below_put hA8.2 hw0.out⟩

set_option maxHeartbeats 4000000 in
theorem rtx_trim1 (b off cap : Nat) (k0 n0 : Int) (t0 : ByteArray) (w : World) (hL : Lits w) (v0 : VAt w b (off + 0) k0 n0 t0) (i0 : Val.inr n0) (s : ByteArray) (hs : s.size ≤ 400) (hsh : Hid (Val.pshow ⟨k0, n0, t0.data.toList⟩ = ⟨2, 0, s.data.toList⟩)) (r : ByteArray) (hr : Hid (bs (trimT [32] true true s.data.toList) = r)) (hrs : r.size ≤ 400) :
    Calls Tryz.prog 37 #[.string ⟨#[116, 114, 105, 109]⟩, .slice (some ⟨b, off, none⟩) 1 cap] w (VRet 2 0 r w) := by
  obtain ⟨g0, hg0⟩ : ∃ g, w.heap.size = g := ⟨_, rfl⟩
  have hA0 := AgS.one w 0 0 ⟨#[]⟩
  rw [hg0] at hA0
  have hw0 : w.heap.size ≤ g0 := Nat.le_of_eq hg0
  replace i0 := Lib.hid i0
  simp only [Nat.add_zero] at v0
  obtain ⟨c0, c1, c2, _⟩ := v0.on hA0.2
  replace hw0 := Lib.hid hw0
  replace hg0 := Lib.hid hg0
  go_enter Tryz.func37, Tryz.ntmps37
  go_upto_region 1 with fail
  rw [hg0.out]
  go_wp2_with fail
  refine (rbytes18_is _ _ _ _ i0.out (hL.below hA0.2) _ _ hsh).mono ?_
  rintro e w1 ⟨rfl, hb1⟩
  have hA1 := hA0.on hb1
  clear c0 c1 c2
  go_wp2_with fail
  refine (rtrim18_any s ⟨#[32]⟩ true true _ (by omega) (by decide) r hr).mono ?_
  rintro e w7 ⟨rfl, rfl⟩
  go_wp2_with fail
  refine (rtext_ok r _ hrs).mono ?_
  rintro e w8 ⟨rfl, hb8⟩
  have hA8 := hA1.on hb8
  obtain ⟨y0, y1, y2, y3, y4, y5⟩ := (AgS.get hA8 (g := g0) (k := 0) (n := 0) (t := ⟨#[]⟩) List.mem_cons_self).cells
  go_wp2
  exact bodyPost_ret (v := .agg #[.int .i64 2, .int .i64 0, .string r]) (by simp only [results, Tryz.results37]; go_simp) rfl ⟨rfl, below_put hA8.2 hw0.out⟩

set_option maxHeartbeats 4000000 in
theorem rtx_trim2 (b off cap : Nat) (k0 n0 : Int) (t0 : ByteArray) (k1 n1 : Int) (t1 : ByteArray) (w : World) (hL : Lits w) (v0 : VAt w b (off + 0) k0 n0 t0) (v1 : VAt w b (off + 3) k1 n1 t1) (i0 : Val.inr n0) (i1 : Val.inr n1) (s : ByteArray) (hs : s.size ≤ 400) (hsh : Hid (Val.pshow ⟨k0, n0, t0.data.toList⟩ = ⟨2, 0, s.data.toList⟩)) (s1 : ByteArray) (hs1 : s1.size ≤ 400) (hsh1 : Hid (Val.pshow ⟨k1, n1, t1.data.toList⟩ = ⟨2, 0, s1.data.toList⟩)) (r : ByteArray) (hr : Hid (bs (trimT s1.data.toList true true s.data.toList) = r)) (hrs : r.size ≤ 400) :
    Calls Tryz.prog 37 #[.string ⟨#[116, 114, 105, 109]⟩, .slice (some ⟨b, off, none⟩) 2 cap] w (VRet 2 0 r w) := by
  obtain ⟨g0, hg0⟩ : ∃ g, w.heap.size = g := ⟨_, rfl⟩
  have hA0 := AgS.one w 0 0 ⟨#[]⟩
  rw [hg0] at hA0
  have hw0 : w.heap.size ≤ g0 := Nat.le_of_eq hg0
  replace i0 := Lib.hid i0
  replace i1 := Lib.hid i1
  simp only [Nat.add_zero] at v0
  obtain ⟨c0, c1, c2, _⟩ := v0.on hA0.2
  replace hw0 := Lib.hid hw0
  replace hg0 := Lib.hid hg0
  go_enter Tryz.func37, Tryz.ntmps37
  go_upto_region 1 with fail
  rw [hg0.out]
  go_wp2_with fail
  refine (rbytes18_is _ _ _ _ i0.out (hL.below hA0.2) _ _ hsh).mono ?_
  rintro e w1 ⟨rfl, hb1⟩
  have hA1 := hA0.on hb1
  clear c0 c1 c2
  obtain ⟨d0, d1, d2, _⟩ := v1.on hA1.2
  go_wp2_with fail
  refine (rbytes18_is _ _ _ _ i1.out (hL.below hA1.2) _ _ hsh1).mono ?_
  rintro e w2 ⟨rfl, hb2⟩
  have hA2 := hA1.on hb2
  clear d0 d1 d2
  go_wp2_with fail
  refine (rtrim18_any s s1 true true _ (by omega) (by omega) r hr).mono ?_
  rintro e w7 ⟨rfl, rfl⟩
  go_wp2_with fail
  refine (rtext_ok r _ hrs).mono ?_
  rintro e w8 ⟨rfl, hb8⟩
  have hA8 := hA2.on hb8
  obtain ⟨y0, y1, y2, y3, y4, y5⟩ := (AgS.get hA8 (g := g0) (k := 0) (n := 0) (t := ⟨#[]⟩) List.mem_cons_self).cells
  go_wp2
  exact bodyPost_ret (v := .agg #[.int .i64 2, .int .i64 0, .string r]) (by simp only [results, Tryz.results37]; go_simp) rfl ⟨rfl, below_put hA8.2 hw0.out⟩

/-- the result's block is there, nothing older has changed -/
def RepS (w : World) (g0 : Nat) (W : World) : Prop := (∃ k n t, V3 W g0 k n t) ∧ Below w.heap.size w W
theorem RepS.on {w W W' : World} {g0 : Nat} (h : RepS w g0 W) (hb : Below W.heap.size W W') : RepS w g0 W' := by
  obtain ⟨⟨k, n, t, hg⟩, hB⟩ := h
  exact ⟨⟨k, n, t, hg.on hb⟩, below_step hB hB.size hb⟩
set_option maxHeartbeats 4000000 in
theorem rtx_replace_some (b off cap : Nat) (k0 n0 : Int) (t0 : ByteArray) (k1 n1 : Int) (t1 : ByteArray) (k2 n2 : Int) (t2 : ByteArray) (w : World) (hL : Lits w) (v0 : VAt w b (off + 0) k0 n0 t0) (v1 : VAt w b (off + 3) k1 n1 t1) (v2 : VAt w b (off + 6) k2 n2 t2) (i0 : Val.inr n0) (i1 : Val.inr n1) (i2 : Val.inr n2) (s : ByteArray) (hs : s.size ≤ 400) (hsh : Hid (Val.pshow ⟨k0, n0, t0.data.toList⟩ = ⟨2, 0, s.data.toList⟩)) (s1 : ByteArray) (hs1 : s1.size ≤ 400) (hsh1 : Hid (Val.pshow ⟨k1, n1, t1.data.toList⟩ = ⟨2, 0, s1.data.toList⟩)) (s2 : ByteArray) (hs2 : s2.size ≤ 400) (hsh2 : Hid (Val.pshow ⟨k2, n2, t2.data.toList⟩ = ⟨2, 0, s2.data.toList⟩)) (hy0 : s1.data.toList ≠ []) (R : List UInt8) (hR : Hid (repAll s1.data.toList s2.data.toList s.data.toList = R)) (k' : Int) (t' : ByteArray) (hv : Hid (Val.ptext R = ⟨k', 0, t'.data.toList⟩)) :
    Calls Tryz.prog 37 #[.string ⟨#[114, 101, 112, 108, 97, 99, 101]⟩, .slice (some ⟨b, off, none⟩) 3 cap] w (VRet k' 0 t' w) := by
  obtain ⟨g0, hg0⟩ : ∃ g, w.heap.size = g := ⟨_, rfl⟩
  have hA0 := AgS.one w 0 0 ⟨#[]⟩
  rw [hg0] at hA0
  have hw0 : w.heap.size ≤ g0 := Nat.le_of_eq hg0
  replace i0 := Lib.hid i0
  replace i1 := Lib.hid i1
  replace i2 := Lib.hid i2
  simp only [Nat.add_zero] at v0
  obtain ⟨c0, c1, c2, _⟩ := v0.on hA0.2
  replace hw0 := Lib.hid hw0
  replace hg0 := Lib.hid hg0
  replace hy0 := Lib.hid hy0
  go_enter Tryz.func37, Tryz.ntmps37
  go_upto_region 1 with fail
  rw [hg0.out]
  go_wp2_with fail
  refine (rbytes18_is _ _ _ _ i0.out (hL.below hA0.2) _ _ hsh).mono ?_
  rintro e w1 ⟨rfl, hb1⟩
  have hA1 := hA0.on hb1
  clear c0 c1 c2
  go_wp2_with fail
  obtain ⟨W1, hW1⟩ : ∃ W, w1.drew = W := ⟨_, rfl⟩
  have hX : RepS w g0 W1 := by
    rw [← hW1]
    exact ⟨⟨0, 0, ⟨#[]⟩, AgS.get hA1.drew (k := 0) (n := 0) (t := ⟨#[]⟩) List.mem_cons_self⟩, hA1.drew.2⟩
  refine wp_region_held_drew (S := fun W => RepS w g0 W) (by kernel_rfl) ?_ (fun hH => ?_)
  · rw [hW1]; exact hX
  rw [hW1] at hH ⊢
  clear hW1 hX
  refine wpAnyH_take (i := 0) (v := ?_) rfl (by kernel_rfl) (by kernel_rfl) (by kernel_rfl) (fun _ _ _ h => h) (Or.inl ⟨by rfl, ?_⟩) hH ?_
  rotate_left
  · (intro W hSw; (try dsimp only at hSw); go_simp; try with_reducible rfl)
  try simp only [List.getElem_toArray, List.getElem_cons_zero, List.getElem_cons_succ, Act.put, List.setIfInBounds_toArray, List.set_cons_zero, List.set_cons_succ]
  refine wpAnyH_take (i := 1) (v := ?_) rfl (by kernel_rfl) (by kernel_rfl) (by kernel_rfl) (fun _ _ _ h => h) (Or.inl ⟨by rfl, ?_⟩) hH ?_
  rotate_left
  · (intro W hSw; (try dsimp only at hSw); go_simp; try with_reducible rfl)
  try simp only [List.getElem_toArray, List.getElem_cons_zero, List.getElem_cons_succ, Act.put, List.setIfInBounds_toArray, List.set_cons_zero, List.set_cons_succ]
  refine wpAnyH_take (i := 2) (v := ?_) rfl (by kernel_rfl) (by kernel_rfl) (by kernel_rfl) (fun _ _ _ h => h) (Or.inl ⟨by rfl, ?_⟩) hH ?_
  rotate_left
  · (intro W hSw; (try dsimp only at hSw); go_simp; try with_reducible rfl)
  try simp only [List.getElem_toArray, List.getElem_cons_zero, List.getElem_cons_succ, Act.put, List.setIfInBounds_toArray, List.set_cons_zero, List.set_cons_succ]
  refine wpAnyH_take (i := 3) (v := ?_) rfl (by kernel_rfl) (by kernel_rfl) (by kernel_rfl) (fun _ _ _ h => h) (Or.inl ⟨by rfl, ?_⟩) hH ?_
  rotate_left
  · (intro W hSw; (try dsimp only at hSw); obtain ⟨d0, d1, d2, _⟩ := v1.on hSw.2; go_simp; try with_reducible rfl)
  try simp only [List.getElem_toArray, List.getElem_cons_zero, List.getElem_cons_succ, Act.put, List.setIfInBounds_toArray, List.set_cons_zero, List.set_cons_succ]
  refine wpAnyH_take (i := 5) (v := ?_) rfl (by kernel_rfl) (by kernel_rfl) (by kernel_rfl) (fun _ _ _ h => h) (Or.inl ⟨by rfl, ?_⟩) hH ?_
  rotate_left
  · (intro W hSw; (try dsimp only at hSw); go_simp; try with_reducible rfl)
  try simp only [List.getElem_toArray, List.getElem_cons_zero, List.getElem_cons_succ, Act.put, List.setIfInBounds_toArray, List.set_cons_zero, List.set_cons_succ]
  refine wpAnyH_take (i := 6) (v := ?_) rfl (by kernel_rfl) (by kernel_rfl) (by kernel_rfl) (fun _ _ _ h => h) (Or.inl ⟨by rfl, ?_⟩) hH ?_
  rotate_left
  · (intro W hSw; (try dsimp only at hSw); go_simp; try with_reducible rfl)
  try simp only [List.getElem_toArray, List.getElem_cons_zero, List.getElem_cons_succ, Act.put, List.setIfInBounds_toArray, List.set_cons_zero, List.set_cons_succ]
  refine wpAnyH_take (i := 7) (v := ?_) rfl (by kernel_rfl) (by kernel_rfl) (by kernel_rfl) (fun _ _ _ h => h) (Or.inl ⟨by rfl, ?_⟩) hH ?_
  rotate_left
  · (intro W hSw; (try dsimp only at hSw); obtain ⟨d0, d1, d2, _⟩ := v2.on hSw.2; go_simp; try with_reducible rfl)
  try simp only [List.getElem_toArray, List.getElem_cons_zero, List.getElem_cons_succ, Act.put, List.setIfInBounds_toArray, List.set_cons_zero, List.set_cons_succ]
  refine wpAnyH_ready (rs := [4]) (by kernel_rfl) (by simp) ?_
  refine AllReadyH.cons rfl (fun K hK => ?_) AllReadyH.nil
  go_simp
  refine (rbytes18_is _ _ _ _ i1.out (hL.below hH.2) _ _ hsh1).mono ?_
  rintro e w2 ⟨rfl, hb2⟩
  refine hK.out _ _ ?_ (fun hH2 => ?_)
  · exact hH.on hb2
  clear hK K
  try simp only [List.getElem_toArray, List.getElem_cons_zero, List.getElem_cons_succ, Act.put, List.setIfInBounds_toArray, List.set_cons_zero, List.set_cons_succ]
  refine wpAnyH_ready (rs := [8]) (by kernel_rfl) (by simp) ?_
  refine AllReadyH.cons rfl (fun K hK => ?_) AllReadyH.nil
  go_simp
  refine (rbytes18_is _ _ _ _ i2.out (hL.below hH2.2) _ _ hsh2).mono ?_
  rintro e w3 ⟨rfl, hb3⟩
  refine hK.out _ _ ?_ (fun hH3 => ?_)
  · exact hH2.on hb3
  clear hK K
  try simp only [List.getElem_toArray, List.getElem_cons_zero, List.getElem_cons_succ, Act.put, List.setIfInBounds_toArray, List.set_cons_zero, List.set_cons_succ]
  refine wpAnyH_ready (rs := [9]) (by kernel_rfl) (by simp) ?_
  refine AllReadyH.cons rfl (fun K hK => ?_) AllReadyH.nil
  go_simp
  refine (rrepl18_some s s1 s2 _ hs hs1 hs2 hy0.out R hR).mono ?_
  rintro e w4 ⟨r, rfl, hr2, hrz, rfl⟩
  have hvr : Val.ptext r.data.toList = ⟨k', 0, t'.data.toList⟩ := (ptext_two (hr2.imp (fun h => h) (fun h => ⟨h.1, h.2⟩))).trans hv.out
  replace hvr := Lib.hid hvr
  refine hK.out _ _ ?_ (fun hH4 => ?_)
  · exact hH3
  clear hK K hr2
  try simp only [List.getElem_toArray, List.getElem_cons_zero, List.getElem_cons_succ, Act.put, List.setIfInBounds_toArray, List.set_cons_zero, List.set_cons_succ]
  refine wpAnyH_ready (rs := [10]) (by kernel_rfl) (by simp) ?_
  refine AllReadyH.cons rfl (fun K hK => ?_) AllReadyH.nil
  go_simp
  refine (rtext18_is r _ k' t' hvr).mono ?_
  rintro e w5 ⟨rfl, hb5⟩
  refine hK.out _ _ ?_ (fun hH5 => ?_)
  · exact hH4.on hb5
  clear hK K
  try simp only [List.getElem_toArray, List.getElem_cons_zero, List.getElem_cons_succ, Act.put, List.setIfInBounds_toArray, List.set_cons_zero, List.set_cons_succ]
  obtain ⟨⟨kk, nn, tt, hg⟩, hB5⟩ := id hH5
  obtain ⟨y0, y1, y2, y3, y4, y5⟩ := hg.cells
  refine wpAnyH_ready (rs := [11]) (by kernel_rfl) (by simp) ?_
  refine AllReadyH.cons rfl (fun K hK => ?_) AllReadyH.nil
  go_simp
  refine hK.out _ _ ?_ (fun hH6 => ?_)
  · exact ⟨⟨_, _, _, hg.put k' 0 t'⟩, below_put hB5 hw0.out⟩
  clear hK K hH6
  try simp only [List.getElem_toArray, List.getElem_cons_zero, List.getElem_cons_succ, Act.put, List.setIfInBounds_toArray, List.set_cons_zero, List.set_cons_succ]
  refine wpAnyH_done (by kernel_rfl) ?_ _
  go_wp2
  exact bodyPost_ret (v := .agg #[.int .i64 k', .int .i64 0, .string t']) (by simp only [results, Tryz.results37]; go_simp) rfl ⟨rfl, below_put hB5 hw0.out⟩

set_option maxHeartbeats 4000000 in
theorem rtx_replace_none (b off cap : Nat) (k0 n0 : Int) (t0 : ByteArray) (k1 n1 : Int) (t1 : ByteArray) (k2 n2 : Int) (t2 : ByteArray) (w : World) (hL : Lits w) (v0 : VAt w b (off + 0) k0 n0 t0) (v1 : VAt w b (off + 3) k1 n1 t1) (v2 : VAt w b (off + 6) k2 n2 t2) (i0 : Val.inr n0) (i1 : Val.inr n1) (i2 : Val.inr n2) (s : ByteArray) (hs : s.size ≤ 400) (hsh : Hid (Val.pshow ⟨k0, n0, t0.data.toList⟩ = ⟨2, 0, s.data.toList⟩)) (s1 : ByteArray) (hs1 : s1.size ≤ 400) (hsh1 : Hid (Val.pshow ⟨k1, n1, t1.data.toList⟩ = ⟨2, 0, s1.data.toList⟩)) (s2 : ByteArray) (hs2 : s2.size ≤ 400) (hsh2 : Hid (Val.pshow ⟨k2, n2, t2.data.toList⟩ = ⟨2, 0, s2.data.toList⟩)) (hy0 : s1 = ⟨#[]⟩) (k' : Int) (t' : ByteArray) (hv : Hid (Val.ptext s.data.toList = ⟨k', 0, t'.data.toList⟩)) :
    Calls Tryz.prog 37 #[.string ⟨#[114, 101, 112, 108, 97, 99, 101]⟩, .slice (some ⟨b, off, none⟩) 3 cap] w (VRet k' 0 t' w) := by
  obtain ⟨g0, hg0⟩ : ∃ g, w.heap.size = g := ⟨_, rfl⟩
  have hA0 := AgS.one w 0 0 ⟨#[]⟩
  rw [hg0] at hA0
  have hw0 : w.heap.size ≤ g0 := Nat.le_of_eq hg0
  replace i0 := Lib.hid i0
  replace i1 := Lib.hid i1
  replace i2 := Lib.hid i2
  simp only [Nat.add_zero] at v0
  obtain ⟨c0, c1, c2, _⟩ := v0.on hA0.2
  replace hw0 := Lib.hid hw0
  replace hg0 := Lib.hid hg0
  subst hy0
  go_enter Tryz.func37, Tryz.ntmps37
  go_upto_region 1 with fail
  rw [hg0.out]
  go_wp2_with fail
  refine (rbytes18_is _ _ _ _ i0.out (hL.below hA0.2) _ _ hsh).mono ?_
  rintro e w1 ⟨rfl, hb1⟩
  have hA1 := hA0.on hb1
  clear c0 c1 c2
  go_wp2_with fail
  obtain ⟨W1, hW1⟩ : ∃ W, w1.drew = W := ⟨_, rfl⟩
  have hX : RepS w g0 W1 := by
    rw [← hW1]
    exact ⟨⟨0, 0, ⟨#[]⟩, AgS.get hA1.drew (k := 0) (n := 0) (t := ⟨#[]⟩) List.mem_cons_self⟩, hA1.drew.2⟩
  refine wp_region_held_drew (S := fun W => RepS w g0 W) (by kernel_rfl) ?_ (fun hH => ?_)
  · rw [hW1]; exact hX
  rw [hW1] at hH ⊢
  clear hW1 hX
  refine wpAnyH_take (i := 0) (v := ?_) rfl (by kernel_rfl) (by kernel_rfl) (by kernel_rfl) (fun _ _ _ h => h) (Or.inl ⟨by rfl, ?_⟩) hH ?_
  rotate_left
  · (intro W hSw; (try dsimp only at hSw); go_simp; try with_reducible rfl)
  try simp only [List.getElem_toArray, List.getElem_cons_zero, List.getElem_cons_succ, Act.put, List.setIfInBounds_toArray, List.set_cons_zero, List.set_cons_succ]
  refine wpAnyH_take (i := 1) (v := ?_) rfl (by kernel_rfl) (by kernel_rfl) (by kernel_rfl) (fun _ _ _ h => h) (Or.inl ⟨by rfl, ?_⟩) hH ?_
  rotate_left
  · (intro W hSw; (try dsimp only at hSw); go_simp; try with_reducible rfl)
  try simp only [List.getElem_toArray, List.getElem_cons_zero, List.getElem_cons_succ, Act.put, List.setIfInBounds_toArray, List.set_cons_zero, List.set_cons_succ]
  refine wpAnyH_take (i := 2) (v := ?_) rfl (by kernel_rfl) (by kernel_rfl) (by kernel_rfl) (fun _ _ _ h => h) (Or.inl ⟨by rfl, ?_⟩) hH ?_
  rotate_left
  · (intro W hSw; (try dsimp only at hSw); go_simp; try with_reducible rfl)
  try simp only [List.getElem_toArray, List.getElem_cons_zero, List.getElem_cons_succ, Act.put, List.setIfInBounds_toArray, List.set_cons_zero, List.set_cons_succ]
  refine wpAnyH_take (i := 3) (v := ?_) rfl (by kernel_rfl) (by kernel_rfl) (by kernel_rfl) (fun _ _ _ h => h) (Or.inl ⟨by rfl, ?_⟩) hH ?_
  rotate_left
  · (intro W hSw; (try dsimp only at hSw); obtain ⟨d0, d1, d2, _⟩ := v1.on hSw.2; go_simp; try with_reducible rfl)
  try simp only [List.getElem_toArray, List.getElem_cons_zero, List.getElem_cons_succ, Act.put, List.setIfInBounds_toArray, List.set_cons_zero, List.set_cons_succ]
  refine wpAnyH_take (i := 5) (v := ?_) rfl (by kernel_rfl) (by kernel_rfl) (by kernel_rfl) (fun _ _ _ h => h) (Or.inl ⟨by rfl, ?_⟩) hH ?_
  rotate_left
  · (intro W hSw; (try dsimp only at hSw); go_simp; try with_reducible rfl)
  try simp only [List.getElem_toArray, List.getElem_cons_zero, List.getElem_cons_succ, Act.put, List.setIfInBounds_toArray, List.set_cons_zero, List.set_cons_succ]
  refine wpAnyH_take (i := 6) (v := ?_) rfl (by kernel_rfl) (by kernel_rfl) (by kernel_rfl) (fun _ _ _ h => h) (Or.inl ⟨by rfl, ?_⟩) hH ?_
  rotate_left
  · (intro W hSw; (try dsimp only at hSw); go_simp; try with_reducible rfl)
  try simp only [List.getElem_toArray, List.getElem_cons_zero, List.getElem_cons_succ, Act.put, List.setIfInBounds_toArray, List.set_cons_zero, List.set_cons_succ]
  refine wpAnyH_take (i := 7) (v := ?_) rfl (by kernel_rfl) (by kernel_rfl) (by kernel_rfl) (fun _ _ _ h => h) (Or.inl ⟨by rfl, ?_⟩) hH ?_
  rotate_left
  · (intro W hSw; (try dsimp only at hSw); obtain ⟨d0, d1, d2, _⟩ := v2.on hSw.2; go_simp; try with_reducible rfl)
  try simp only [List.getElem_toArray, List.getElem_cons_zero, List.getElem_cons_succ, Act.put, List.setIfInBounds_toArray, List.set_cons_zero, List.set_cons_succ]
  refine wpAnyH_ready (rs := [4]) (by kernel_rfl) (by simp) ?_
  refine AllReadyH.cons rfl (fun K hK => ?_) AllReadyH.nil
  go_simp
  refine (rbytes18_is _ _ _ _ i1.out (hL.below hH.2) 2 ⟨#[]⟩ hsh1).mono ?_
  rintro e w2 ⟨rfl, hb2⟩
  refine hK.out _ _ ?_ (fun hH2 => ?_)
  · exact hH.on hb2
  clear hK K
  try simp only [List.getElem_toArray, List.getElem_cons_zero, List.getElem_cons_succ, Act.put, List.setIfInBounds_toArray, List.set_cons_zero, List.set_cons_succ]
  refine wpAnyH_ready (rs := [8]) (by kernel_rfl) (by simp) ?_
  refine AllReadyH.cons rfl (fun K hK => ?_) AllReadyH.nil
  go_simp
  refine (rbytes18_is _ _ _ _ i2.out (hL.below hH2.2) _ _ hsh2).mono ?_
  rintro e w3 ⟨rfl, hb3⟩
  refine hK.out _ _ ?_ (fun hH3 => ?_)
  · exact hH2.on hb3
  clear hK K
  try simp only [List.getElem_toArray, List.getElem_cons_zero, List.getElem_cons_succ, Act.put, List.setIfInBounds_toArray, List.set_cons_zero, List.set_cons_succ]
  refine wpAnyH_ready (rs := [9]) (by kernel_rfl) (by simp) ?_
  refine AllReadyH.cons rfl (fun K hK => ?_) AllReadyH.nil
  go_simp
  refine (rrepl18_none s s2 _ hs).mono ?_
  rintro e w4 ⟨rfl, rfl⟩
  refine hK.out _ _ ?_ (fun hH4 => ?_)
  · exact hH3
  clear hK K
  try simp only [List.getElem_toArray, List.getElem_cons_zero, List.getElem_cons_succ, Act.put, List.setIfInBounds_toArray, List.set_cons_zero, List.set_cons_succ]
  refine wpAnyH_ready (rs := [10]) (by kernel_rfl) (by simp) ?_
  refine AllReadyH.cons rfl (fun K hK => ?_) AllReadyH.nil
  go_simp
  refine (rtext18_is s _ k' t' hv).mono ?_
  rintro e w5 ⟨rfl, hb5⟩
  refine hK.out _ _ ?_ (fun hH5 => ?_)
  · exact hH4.on hb5
  clear hK K
  try simp only [List.getElem_toArray, List.getElem_cons_zero, List.getElem_cons_succ, Act.put, List.setIfInBounds_toArray, List.set_cons_zero, List.set_cons_succ]
  obtain ⟨⟨kk, nn, tt, hg⟩, hB5⟩ := id hH5
  obtain ⟨y0, y1, y2, y3, y4, y5⟩ := hg.cells
  refine wpAnyH_ready (rs := [11]) (by kernel_rfl) (by simp) ?_
  refine AllReadyH.cons rfl (fun K hK => ?_) AllReadyH.nil
  go_simp
  refine hK.out _ _ ?_ (fun hH6 => ?_)
  · exact ⟨⟨_, _, _, hg.put k' 0 t'⟩, below_put hB5 hw0.out⟩
  clear hK K hH6
  try simp only [List.getElem_toArray, List.getElem_cons_zero, List.getElem_cons_succ, Act.put, List.setIfInBounds_toArray, List.set_cons_zero, List.set_cons_succ]
  refine wpAnyH_done (by kernel_rfl) ?_ _
  go_wp2
  exact bodyPost_ret (v := .agg #[.int .i64 k', .int .i64 0, .string t']) (by simp only [results, Tryz.results37]; go_simp) rfl ⟨rfl, below_put hB5 hw0.out⟩

end Go.Proofs.YtmkgalcojoeniaaGreatDoor

namespace Go.Proofs.YtmkgalcojoeniaaGreatDoor
open Go.RowKit
attribute [local go_sem] run_store_fn run_store_nofn

theorem rbool_is (b : Bool) (n : Int) (hn : Hid ((if b = true then (1 : Int) else 0) = n)) (w : World) : Calls Tryz.prog 50 #[.bool b] w (VRet 1 n ⟨#[]⟩ w) :=
  (rbool_any b w).mono fun _ _ ⟨h1, h2⟩ => ⟨by rw [h1, hn.out], h2⟩
set_option maxHeartbeats 2000000 in
theorem rbinary_cmp_null1 (op : Int) (ka na : Int) (ta : ByteArray) (kb nb : Int) (tb : ByteArray) (c : Int) (w : World) (hm1 : Val.may ⟨ka, na, ta.data.toList⟩ = true) (hm2 : Val.may ⟨kb, nb, tb.data.toList⟩ = true) (h : 13 ≤ op ∧ op ≤ 18) (h1 : ka = 0) : Calls Tryz.prog 59 #[.int .i64 op, .agg #[.int .i64 ka, .int .i64 na, .string ta], .agg #[.int .i64 kb, .int .i64 nb, .string tb], .int .i64 c] w (VRet2 0 0 ⟨#[]⟩ 0 w) := by
  have hS := start3 w (.int .i64 ka) (.int .i64 na) (.string ta) (.int .i64 kb) (.int .i64 nb) (.string tb) (.int .i64 0) (.int .i64 0) (.string ⟨#[]⟩) 25 25 25
  have s1 := may_len hm1
  have s2 := may_len hm2
  have b1 : decide (op < 7) = false := decide_eq_false (by omega)
  have b2 : decide (op > 22) = false := decide_eq_false (by omega)
  have b3 : decide (op ≤ 11) = false := decide_eq_false (by omega)
  have b6 : (op == 12) = false := by simp; omega
  have b7 : (op == 21) = false := by simp; omega
  have b8 : (op == 22) = false := by simp; omega
  have b9 : decide (op ≤ 18) = true := decide_eq_true h.2
  have b4 : (ka == 0) = true := by simp [h1]
  replace hm1 := Lib.hid hm1
  replace hm2 := Lib.hid hm2
  have hc : 13 ≤ op ∧ op ≤ 20 := by omega
  clear h h1
  go_enter Tryz.func59, Tryz.ntmps59
  go_wp2_with (first
    | (go_at_call 57; first | (have hq := hS1; refine (rmay_is _ _ _ _ hm2).mono ?_; rintro e w2 ⟨rfl, hb2⟩; have hS2 := keep3 hS1 hb2; obtain ⟨cb0, cb1, cb2, cb3, cb4, cb5, cb6, cb7, cb8, cb9, cb10, cb11, cb12, cb13, cb14, cb15, cb16, cb17, hz2, hB2⟩ := id hS2) | (refine (rmay_is _ _ _ _ hm1).mono ?_; rintro e w1 ⟨rfl, hb1⟩; have hS1 := keep3 hS hb1; obtain ⟨ca0, ca1, ca2, ca3, ca4, ca5, ca6, ca7, ca8, ca9, ca10, ca11, ca12, ca13, ca14, ca15, ca16, ca17, hz, hB⟩ := id hS1))
    | (go_at_call 108; refine (rnull_any _).mono ?_; rintro e w9 ⟨rfl, hb9⟩; have hS9 := keep3 hS2 hb9; obtain ⟨cz0, cz1, cz2, cz3, cz4, cz5, cz6, cz7, cz8, cz9, cz10, cz11, cz12, cz13, cz14, cz15, cz16, cz17, hz9, hB9⟩ := id hS9))
  exact bodyPost_ret (v := .tuple #[.agg #[.int .i64 0, .int .i64 0, .string ⟨#[]⟩], .int .i64 0]) (by simp only [results, Tryz.results59]; go_simp) rfl ⟨rfl, below_setg hB9 (by omega)⟩
set_option maxHeartbeats 2000000 in
theorem rbinary_cmp_null2 (op : Int) (ka na : Int) (ta : ByteArray) (kb nb : Int) (tb : ByteArray) (c : Int) (w : World) (hm1 : Val.may ⟨ka, na, ta.data.toList⟩ = true) (hm2 : Val.may ⟨kb, nb, tb.data.toList⟩ = true) (h : 13 ≤ op ∧ op ≤ 18) (h1 : ka ≠ 0) (h2 : kb = 0) : Calls Tryz.prog 59 #[.int .i64 op, .agg #[.int .i64 ka, .int .i64 na, .string ta], .agg #[.int .i64 kb, .int .i64 nb, .string tb], .int .i64 c] w (VRet2 0 0 ⟨#[]⟩ 0 w) := by
  have hS := start3 w (.int .i64 ka) (.int .i64 na) (.string ta) (.int .i64 kb) (.int .i64 nb) (.string tb) (.int .i64 0) (.int .i64 0) (.string ⟨#[]⟩) 25 25 25
  have s1 := may_len hm1
  have s2 := may_len hm2
  have b1 : decide (op < 7) = false := decide_eq_false (by omega)
  have b2 : decide (op > 22) = false := decide_eq_false (by omega)
  have b3 : decide (op ≤ 11) = false := decide_eq_false (by omega)
  have b6 : (op == 12) = false := by simp; omega
  have b7 : (op == 21) = false := by simp; omega
  have b8 : (op == 22) = false := by simp; omega
  have b9 : decide (op ≤ 18) = true := decide_eq_true h.2
  have b4 : (ka == 0) = false := by simp [h1]
  have b5 : (kb == 0) = true := by simp [h2]
  replace hm1 := Lib.hid hm1
  replace hm2 := Lib.hid hm2
  have hc : 13 ≤ op ∧ op ≤ 20 := by omega
  clear h h1 h2
  go_enter Tryz.func59, Tryz.ntmps59
  go_wp2_with (first
    | (go_at_call 57; first | (have hq := hS1; refine (rmay_is _ _ _ _ hm2).mono ?_; rintro e w2 ⟨rfl, hb2⟩; have hS2 := keep3 hS1 hb2; obtain ⟨cb0, cb1, cb2, cb3, cb4, cb5, cb6, cb7, cb8, cb9, cb10, cb11, cb12, cb13, cb14, cb15, cb16, cb17, hz2, hB2⟩ := id hS2) | (refine (rmay_is _ _ _ _ hm1).mono ?_; rintro e w1 ⟨rfl, hb1⟩; have hS1 := keep3 hS hb1; obtain ⟨ca0, ca1, ca2, ca3, ca4, ca5, ca6, ca7, ca8, ca9, ca10, ca11, ca12, ca13, ca14, ca15, ca16, ca17, hz, hB⟩ := id hS1))
    | (go_at_call 108; refine (rnull_any _).mono ?_; rintro e w9 ⟨rfl, hb9⟩; have hS9 := keep3 hS2 hb9; obtain ⟨cz0, cz1, cz2, cz3, cz4, cz5, cz6, cz7, cz8, cz9, cz10, cz11, cz12, cz13, cz14, cz15, cz16, cz17, hz9, hB9⟩ := id hS9))
  exact bodyPost_ret (v := .tuple #[.agg #[.int .i64 0, .int .i64 0, .string ⟨#[]⟩], .int .i64 0]) (by simp only [results, Tryz.results59]; go_simp) rfl ⟨rfl, below_setg hB9 (by omega)⟩
set_option maxHeartbeats 2000000 in
theorem rbinary_cmp_ok (op : Int) (ka na : Int) (ta : ByteArray) (kb nb : Int) (tb : ByteArray) (c : Int) (w : World) (hm1 : Val.may ⟨ka, na, ta.data.toList⟩ = true) (hm2 : Val.may ⟨kb, nb, tb.data.toList⟩ = true) (h : 13 ≤ op ∧ op ≤ 18) (h1 : ka ≠ 0) (h2 : kb ≠ 0) (r : Int) (hr : Hid (Val.cmp ⟨ka, na, ta.data.toList⟩ ⟨kb, nb, tb.data.toList⟩ c = r)) (bo : Bool) (hbo : Hid (Val.compare op r = bo)) (m : Int) (hm : Hid ((if bo = true then (1 : Int) else 0) = m)) : Calls Tryz.prog 59 #[.int .i64 op, .agg #[.int .i64 ka, .int .i64 na, .string ta], .agg #[.int .i64 kb, .int .i64 nb, .string tb], .int .i64 c] w (VRet2 1 m ⟨#[]⟩ 0 w) := by
  have hS := start3 w (.int .i64 ka) (.int .i64 na) (.string ta) (.int .i64 kb) (.int .i64 nb) (.string tb) (.int .i64 0) (.int .i64 0) (.string ⟨#[]⟩) 25 25 25
  have s1 := may_len hm1
  have s2 := may_len hm2
  have b1 : decide (op < 7) = false := decide_eq_false (by omega)
  have b2 : decide (op > 22) = false := decide_eq_false (by omega)
  have b3 : decide (op ≤ 11) = false := decide_eq_false (by omega)
  have b6 : (op == 12) = false := by simp; omega
  have b7 : (op == 21) = false := by simp; omega
  have b8 : (op == 22) = false := by simp; omega
  have b9 : decide (op ≤ 18) = true := decide_eq_true h.2
  have b4 : (ka == 0) = false := by simp [h1]
  have b5 : (kb == 0) = false := by simp [h2]
  replace hm1 := Lib.hid hm1
  replace hm2 := Lib.hid hm2
  have hc : 13 ≤ op ∧ op ≤ 20 := by omega
  clear h h1 h2
  go_enter Tryz.func59, Tryz.ntmps59
  go_wp2_with (first
    | (go_at_call 57; first | (have hq := hS1; refine (rmay_is _ _ _ _ hm2).mono ?_; rintro e w2 ⟨rfl, hb2⟩; have hS2 := keep3 hS1 hb2; obtain ⟨cb0, cb1, cb2, cb3, cb4, cb5, cb6, cb7, cb8, cb9, cb10, cb11, cb12, cb13, cb14, cb15, cb16, cb17, hz2, hB2⟩ := id hS2) | (refine (rmay_is _ _ _ _ hm1).mono ?_; rintro e w1 ⟨rfl, hb1⟩; have hS1 := keep3 hS hb1; obtain ⟨ca0, ca1, ca2, ca3, ca4, ca5, ca6, ca7, ca8, ca9, ca10, ca11, ca12, ca13, ca14, ca15, ca16, ca17, hz, hB⟩ := id hS1))
    | (go_at_call 65; refine (rcmp_is _ _ _ _ _ _ _ _ (by omega) (by omega) _ hr).mono ?_; rintro e w3 ⟨rfl, hb3⟩; have hS3 := keep3 hS2 hb3)
    | (go_at_call 118; refine (rcompare_is _ _ _ hc _ hbo).mono ?_; rintro e w4 ⟨rfl, rfl⟩)
    | (go_at_call 50; refine (rbool_is _ _ hm _).mono ?_; rintro e w9 ⟨rfl, hb9⟩; have hS9 := keep3 hS3 hb9; obtain ⟨cz0, cz1, cz2, cz3, cz4, cz5, cz6, cz7, cz8, cz9, cz10, cz11, cz12, cz13, cz14, cz15, cz16, cz17, hz9, hB9⟩ := id hS9))
  exact bodyPost_ret (v := .tuple #[.agg #[.int .i64 1, .int .i64 m, .string ⟨#[]⟩], .int .i64 0]) (by simp only [results, Tryz.results59]; go_simp) rfl ⟨rfl, below_setg hB9 (by omega)⟩

/-- is a value another one, as a value -/
def eqV (v v1 : Val.V) (c : Int) : Val.V := if v.kind = 0 ∨ v1.kind = 0 then Val.zero else ⟨1, if Val.cmp v v1 c = 0 then 1 else 0, []⟩
theorem rbin13_is (k0 n0 : Int) (t0 : ByteArray) (k1 n1 : Int) (t1 : ByteArray) (c : Int) (w : World) (hm0 : Val.may ⟨k0, n0, t0.data.toList⟩ = true) (hm1 : Val.may ⟨k1, n1, t1.data.toList⟩ = true) (k m : Int) (hv : Hid (eqV ⟨k0, n0, t0.data.toList⟩ ⟨k1, n1, t1.data.toList⟩ c = ⟨k, m, []⟩)) :
    Calls Tryz.prog 59 #[.int .i64 13, .agg #[.int .i64 k0, .int .i64 n0, .string t0], .agg #[.int .i64 k1, .int .i64 n1, .string t1], .int .i64 c] w (VRet2 k m ⟨#[]⟩ 0 w) := by
  have hv' := hv.out
  unfold eqV at hv'
  by_cases h0 : k0 = 0
  · rw [if_pos (.inl h0)] at hv'
    injection hv' with e1 e2 _
    subst e1 e2
    exact rbinary_cmp_null1 13 k0 n0 t0 k1 n1 t1 c w hm0 hm1 (by decide) h0
  · by_cases h1 : k1 = 0
    · rw [if_pos (.inr h1)] at hv'
      injection hv' with e1 e2 _
      subst e1 e2
      exact rbinary_cmp_null2 13 k0 n0 t0 k1 n1 t1 c w hm0 hm1 (by decide) h0 h1
    · rw [if_neg (fun h => h.elim h0 h1)] at hv'
      injection hv' with e1 e2 _
      subst e1
      by_cases hc : Val.cmp ⟨k0, n0, t0.data.toList⟩ ⟨k1, n1, t1.data.toList⟩ c = 0
      · rw [if_pos hc] at e2
        subst e2
        exact rbinary_cmp_ok 13 k0 n0 t0 k1 n1 t1 c w hm0 hm1 (by decide) h0 h1 0 (Lib.hid hc) true (Lib.hid rfl) 1 (Lib.hid rfl)
      · rw [if_neg hc] at e2
        subst e2
        exact rbinary_cmp_ok 13 k0 n0 t0 k1 n1 t1 c w hm0 hm1 (by decide) h0 h1 _ (Lib.hid rfl) false (Lib.hid (by unfold Val.compare; rw [if_pos (.inl rfl), decide_eq_false hc])) 0 (Lib.hid rfl)

set_option maxHeartbeats 4000000 in
theorem rch_iif_yes (b off cap : Nat) (k0 n0 : Int) (t0 : ByteArray) (k1 n1 : Int) (t1 : ByteArray) (k2 n2 : Int) (t2 : ByteArray) (w : World) (hL : Lits w) (v0 : VAt w b (off + 0) k0 n0 t0) (v1 : VAt w b (off + 3) k1 n1 t1) (v2 : VAt w b (off + 6) k2 n2 t2) (i0 : Val.inr n0) (i1 : Val.inr n1) (i2 : Val.inr n2) (c : Int) (hr : Hid (Val.tru ⟨k0, n0, t0.data.toList⟩ = 1)) :
    Calls Tryz.prog 33 #[.string ⟨#[105, 105, 102]⟩, .int .i64 c, .slice (some ⟨b, off, none⟩) 3 cap] w (VRet k1 n1 t1 w) := by
  obtain ⟨g0, hg0⟩ : ∃ g, w.heap.size = g := ⟨_, rfl⟩
  have hA0 := AgS.one w 0 0 ⟨#[]⟩
  rw [hg0] at hA0
  have hw0 : w.heap.size ≤ g0 := Nat.le_of_eq hg0
  replace i0 := Lib.hid i0
  replace i1 := Lib.hid i1
  replace i2 := Lib.hid i2
  simp only [Nat.add_zero] at v0
  obtain ⟨c0, c1, c2, _⟩ := v0.on hA0.2
  replace hw0 := Lib.hid hw0
  replace hg0 := Lib.hid hg0
  go_enter Tryz.func33, Tryz.ntmps33
  go_upto_region 1 with fail
  rw [hg0.out]
  go_wp2_with fail
  refine (rtru_is _ _ _ _ i0.out.1 i0.out.2 (hL.below hA0.2) 1 hr).mono ?_
  rintro e w1 ⟨rfl, hb1⟩
  have hA1 := hA0.on hb1
  clear c0 c1 c2
  obtain ⟨d0, d1, d2, _⟩ := v1.on hA1.2
  obtain ⟨y0, y1, y2, y3, y4, y5⟩ := (AgS.get hA1 (g := g0) (k := 0) (n := 0) (t := ⟨#[]⟩) List.mem_cons_self).cells
  go_wp2
  exact bodyPost_ret (v := .agg #[.int .i64 k1, .int .i64 n1, .string t1]) (by simp only [results, Tryz.results33]; go_simp) rfl ⟨rfl, below_put hA1.2 hw0.out⟩

set_option maxHeartbeats 4000000 in
theorem rch_iif_no (b off cap : Nat) (k0 n0 : Int) (t0 : ByteArray) (k1 n1 : Int) (t1 : ByteArray) (k2 n2 : Int) (t2 : ByteArray) (w : World) (hL : Lits w) (v0 : VAt w b (off + 0) k0 n0 t0) (v1 : VAt w b (off + 3) k1 n1 t1) (v2 : VAt w b (off + 6) k2 n2 t2) (i0 : Val.inr n0) (i1 : Val.inr n1) (i2 : Val.inr n2) (c : Int) (r : Int) (hr : Hid (Val.tru ⟨k0, n0, t0.data.toList⟩ = r)) (hr1 : r ≠ 1) :
    Calls Tryz.prog 33 #[.string ⟨#[105, 105, 102]⟩, .int .i64 c, .slice (some ⟨b, off, none⟩) 3 cap] w (VRet k2 n2 t2 w) := by
  obtain ⟨g0, hg0⟩ : ∃ g, w.heap.size = g := ⟨_, rfl⟩
  have hA0 := AgS.one w 0 0 ⟨#[]⟩
  rw [hg0] at hA0
  have hw0 : w.heap.size ≤ g0 := Nat.le_of_eq hg0
  replace i0 := Lib.hid i0
  replace i1 := Lib.hid i1
  replace i2 := Lib.hid i2
  simp only [Nat.add_zero] at v0
  obtain ⟨c0, c1, c2, _⟩ := v0.on hA0.2
  replace hw0 := Lib.hid hw0
  replace hg0 := Lib.hid hg0
  have b1 : (r == 1) = false := by simpa using hr1
  clear hr1
  go_enter Tryz.func33, Tryz.ntmps33
  go_upto_region 1 with fail
  rw [hg0.out]
  go_wp2_with fail
  refine (rtru_is _ _ _ _ i0.out.1 i0.out.2 (hL.below hA0.2) r hr).mono ?_
  rintro e w1 ⟨rfl, hb1⟩
  have hA1 := hA0.on hb1
  clear c0 c1 c2
  obtain ⟨d0, d1, d2, _⟩ := v2.on hA1.2
  obtain ⟨y0, y1, y2, y3, y4, y5⟩ := (AgS.get hA1 (g := g0) (k := 0) (n := 0) (t := ⟨#[]⟩) List.mem_cons_self).cells
  go_wp2
  exact bodyPost_ret (v := .agg #[.int .i64 k2, .int .i64 n2, .string t2]) (by simp only [results, Tryz.results33]; go_simp) rfl ⟨rfl, below_put hA1.2 hw0.out⟩

set_option maxHeartbeats 4000000 in
theorem rch_quote (b off cap : Nat) (k0 n0 : Int) (t0 : ByteArray) (w : World) (hL : Lits w) (v0 : VAt w b (off + 0) k0 n0 t0) (i0 : Val.inr n0) (c : Int) (y : List UInt8) (E : Nat) (hp : Hid (Val.print ⟨k0, n0, t0.data.toList⟩ = (y, E))) (k' : Int) (t' : ByteArray) (hv : Hid (Val.ptext y = ⟨k', 0, t'.data.toList⟩)) :
    Calls Tryz.prog 33 #[.string ⟨#[113, 117, 111, 116, 101]⟩, .int .i64 c, .slice (some ⟨b, off, none⟩) 1 cap] w (VRet k' 0 t' w) := by
  obtain ⟨g0, hg0⟩ : ∃ g, w.heap.size = g := ⟨_, rfl⟩
  have hA0 := AgS.one w 0 0 ⟨#[]⟩
  rw [hg0] at hA0
  have hw0 : w.heap.size ≤ g0 := Nat.le_of_eq hg0
  replace i0 := Lib.hid i0
  simp only [Nat.add_zero] at v0
  obtain ⟨c0, c1, c2, _⟩ := v0.on hA0.2
  replace hw0 := Lib.hid hw0
  replace hg0 := Lib.hid hg0
  go_enter Tryz.func33, Tryz.ntmps33
  go_upto_region 1 with fail
  rw [hg0.out]
  go_wp2_with fail
  refine (rprint_it _ _ _ _ hp i0.out.1 i0.out.2 (hL.below hA0.2)).mono ?_
  rintro e w1 ⟨rfl, hb1⟩
  have hA1 := hA0.on hb1
  clear c0 c1 c2
  obtain ⟨Y, hY⟩ : ∃ Y, bs y = Y := ⟨_, rfl⟩
  have hv2 : Val.ptext Y.data.toList = ⟨k', 0, t'.data.toList⟩ := by rw [← hY, bs_data]; exact hv.out
  rw [hY]
  replace hv2 := Lib.hid hv2
  clear hY hv
  go_wp2_with fail
  refine (rtext18_is Y _ k' t' hv2).mono ?_
  rintro e w2 ⟨rfl, hb2⟩
  have hA2 := hA1.on hb2
  obtain ⟨y0, y1, y2, y3, y4, y5⟩ := (AgS.get hA2 (g := g0) (k := 0) (n := 0) (t := ⟨#[]⟩) List.mem_cons_self).cells
  go_wp2
  exact bodyPost_ret (v := .agg #[.int .i64 k', .int .i64 0, .string t']) (by simp only [results, Tryz.results33]; go_simp) rfl ⟨rfl, below_put hA2.2 hw0.out⟩

set_option maxHeartbeats 4000000 in
theorem rch_typeof (b off cap : Nat) (k0 n0 : Int) (t0 : ByteArray) (w : World) (hL : Lits w) (v0 : VAt w b (off + 0) k0 n0 t0) (i0 : Val.inr n0) (c : Int) (hk : k0 = 0 ∨ k0 = 1 ∨ k0 = 2 ∨ k0 = 3) (r : ByteArray) (hr : Hid (bs (kindName k0) = r)) :
    Calls Tryz.prog 33 #[.string ⟨#[116, 121, 112, 101, 111, 102]⟩, .int .i64 c, .slice (some ⟨b, off, none⟩) 1 cap] w (VRet 2 0 r w) := by
  obtain ⟨g0, hg0⟩ : ∃ g, w.heap.size = g := ⟨_, rfl⟩
  have hA0 := AgS.one w 0 0 ⟨#[]⟩
  rw [hg0] at hA0
  have hw0 : w.heap.size ≤ g0 := Nat.le_of_eq hg0
  replace i0 := Lib.hid i0
  simp only [Nat.add_zero] at v0
  obtain ⟨c0, c1, c2, _⟩ := v0.on hA0.2
  replace hw0 := Lib.hid hw0
  replace hg0 := Lib.hid hg0
  have hrs : r.size ≤ 400 := by
    rw [← hr.out]
    rcases hk with rfl | rfl | rfl | rfl <;> decide
  replace hk := Lib.hid hk
  go_enter Tryz.func33, Tryz.ntmps33
  go_upto_region 1 with fail
  rw [hg0.out]
  go_wp2_with fail
  refine (rkind18 _ hk.out _).mono ?_
  rintro e w1 ⟨rfl, rfl⟩
  rw [hr.out]
  clear c0 c1 c2
  go_wp2_with fail
  refine (rtext_ok r _ hrs).mono ?_
  rintro e w2 ⟨rfl, hb2⟩
  have hA2 := hA0.on hb2
  obtain ⟨y0, y1, y2, y3, y4, y5⟩ := (AgS.get hA2 (g := g0) (k := 0) (n := 0) (t := ⟨#[]⟩) List.mem_cons_self).cells
  go_wp2
  exact bodyPost_ret (v := .agg #[.int .i64 2, .int .i64 0, .string r]) (by simp only [results, Tryz.results33]; go_simp) rfl ⟨rfl, below_put hA2.2 hw0.out⟩

set_option maxHeartbeats 4000000 in
theorem rch_nullif_null (b off cap : Nat) (k0 n0 : Int) (t0 : ByteArray) (k1 n1 : Int) (t1 : ByteArray) (w : World) (hL : Lits w) (v0 : VAt w b (off + 0) k0 n0 t0) (v1 : VAt w b (off + 3) k1 n1 t1) (i0 : Val.inr n0) (i1 : Val.inr n1) (c : Int) (hm0 : Val.may ⟨k0, n0, t0.data.toList⟩ = true) (hm1 : Val.may ⟨k1, n1, t1.data.toList⟩ = true) (hv : Hid (eqV ⟨k0, n0, t0.data.toList⟩ ⟨k1, n1, t1.data.toList⟩ c = ⟨0, 0, []⟩)) :
    Calls Tryz.prog 33 #[.string ⟨#[110, 117, 108, 108, 105, 102]⟩, .int .i64 c, .slice (some ⟨b, off, none⟩) 2 cap] w (VRet k0 n0 t0 w) := by
  obtain ⟨g0, hg0⟩ : ∃ g, w.heap.size = g := ⟨_, rfl⟩
  have hA0 := AgS.one w 0 0 ⟨#[]⟩
  rw [hg0] at hA0
  have hw0 : w.heap.size ≤ g0 := Nat.le_of_eq hg0
  replace i0 := Lib.hid i0
  replace i1 := Lib.hid i1
  simp only [Nat.add_zero] at v0
  obtain ⟨c0, c1, c2, _⟩ := v0.on hA0.2
  replace hw0 := Lib.hid hw0
  replace hg0 := Lib.hid hg0
  replace hm0 := Lib.hid hm0
  replace hm1 := Lib.hid hm1
  go_enter Tryz.func33, Tryz.ntmps33
  go_upto_region 1 with fail
  rw [hg0.out]
  go_upto_region 7 with fail
  clear c0 c1 c2
  go_cut [7] from 28 to 38 (fun v W => ∃ g7, v = .pointer (some ⟨g7, 0, none⟩) ∧ AgS w [(g7, ⟨0, 0, (⟨#[]⟩ : ByteArray).data.toList⟩), (g0, ⟨0, 0, (⟨#[]⟩ : ByteArray).data.toList⟩)] W)
  case first =>
    obtain ⟨Wd, hWd⟩ : ∃ W, (w.alloc (.cells #[.int .i64 0, .int .i64 0, .string ⟨#[]⟩] 25)).drew = W := ⟨_, rfl⟩
    have hSd : AgS w [(g0, ⟨0, 0, (⟨#[]⟩ : ByteArray).data.toList⟩)] Wd := by rw [← hWd]; exact hA0.drew
    refine wp_region_held_drew (S := fun W => AgS w [(g0, ⟨0, 0, (⟨#[]⟩ : ByteArray).data.toList⟩)] W) (by kernel_rfl) ?_ (fun hH => ?_)
    · rw [hWd]; exact hSd
    rw [hWd] at hH ⊢
    clear hWd hSd
    refine wpAnyH_take (i := 0) (v := ?_) rfl (by kernel_rfl) (by kernel_rfl) (by kernel_rfl) (fun _ _ _ h => h) (Or.inl ⟨by rfl, ?_⟩) hH ?_
    rotate_left
    · (intro W hSw; (try dsimp only at hSw); go_simp; try with_reducible rfl)
    try simp only [List.getElem_toArray, List.getElem_cons_zero, List.getElem_cons_succ, Act.put, List.setIfInBounds_toArray, List.set_cons_zero, List.set_cons_succ]
    refine wpAnyH_take (i := 1) (v := ?_) rfl (by kernel_rfl) (by kernel_rfl) (by kernel_rfl) (fun _ _ _ h => h) (Or.inl ⟨by rfl, ?_⟩) hH ?_
    rotate_left
    · (intro W hSw; (try dsimp only at hSw); go_simp; try with_reducible rfl)
    try simp only [List.getElem_toArray, List.getElem_cons_zero, List.getElem_cons_succ, Act.put, List.setIfInBounds_toArray, List.set_cons_zero, List.set_cons_succ]
    refine wpAnyH_take (i := 2) (v := ?_) rfl (by kernel_rfl) (by kernel_rfl) (by kernel_rfl) (fun _ _ _ h => h) (Or.inl ⟨by rfl, ?_⟩) hH ?_
    rotate_left
    · (intro W hSw; (try dsimp only at hSw); obtain ⟨d0, d1, d2, _⟩ := v0.on hSw.2; go_simp; try with_reducible rfl)
    try simp only [List.getElem_toArray, List.getElem_cons_zero, List.getElem_cons_succ, Act.put, List.setIfInBounds_toArray, List.set_cons_zero, List.set_cons_succ]
    refine wpAnyH_take (i := 3) (v := ?_) rfl (by kernel_rfl) (by kernel_rfl) (by kernel_rfl) (fun _ _ _ h => h) (Or.inl ⟨by rfl, ?_⟩) hH ?_
    rotate_left
    · (intro W hSw; (try dsimp only at hSw); go_simp; try with_reducible rfl)
    try simp only [List.getElem_toArray, List.getElem_cons_zero, List.getElem_cons_succ, Act.put, List.setIfInBounds_toArray, List.set_cons_zero, List.set_cons_succ]
    refine wpAnyH_take (i := 4) (v := ?_) rfl (by kernel_rfl) (by kernel_rfl) (by kernel_rfl) (fun _ _ _ h => h) (Or.inl ⟨by rfl, ?_⟩) hH ?_
    rotate_left
    · (intro W hSw; (try dsimp only at hSw); go_simp; try with_reducible rfl)
    try simp only [List.getElem_toArray, List.getElem_cons_zero, List.getElem_cons_succ, Act.put, List.setIfInBounds_toArray, List.set_cons_zero, List.set_cons_succ]
    refine wpAnyH_take (i := 5) (v := ?_) rfl (by kernel_rfl) (by kernel_rfl) (by kernel_rfl) (fun _ _ _ h => h) (Or.inl ⟨by rfl, ?_⟩) hH ?_
    rotate_left
    · (intro W hSw; (try dsimp only at hSw); obtain ⟨d0, d1, d2, _⟩ := v1.on hSw.2; go_simp; try with_reducible rfl)
    try simp only [List.getElem_toArray, List.getElem_cons_zero, List.getElem_cons_succ, Act.put, List.setIfInBounds_toArray, List.set_cons_zero, List.set_cons_succ]
    refine wpAnyH_take (i := 6) (v := ?_) rfl (by kernel_rfl) (by kernel_rfl) (by kernel_rfl) (fun _ _ _ h => h) (Or.inl ⟨by rfl, ?_⟩) hH ?_
    rotate_left
    · (intro W hSw; (try dsimp only at hSw); go_simp; try with_reducible rfl)
    try simp only [List.getElem_toArray, List.getElem_cons_zero, List.getElem_cons_succ, Act.put, List.setIfInBounds_toArray, List.set_cons_zero, List.set_cons_succ]
    refine wpAnyH_ready (rs := [7, 11]) (by kernel_rfl) (by simp) ?_
    refine AllReadyH.cons rfl (fun K hK => ?_) (AllReadyH.cons rfl (fun K hK => ?_) (AllReadyH.nil))
    · go_simp
      refine (rbin13_is _ _ _ _ _ _ _ _ hm0.out hm1.out 0 0 hv).mono ?_
      rintro e w2 ⟨rfl, hb2⟩
      refine hK.out _ _ ?_ (fun hH2 => ?_)
      · exact hH.on hb2
      clear hK K
      try simp only [List.getElem_toArray, List.getElem_cons_zero, List.getElem_cons_succ, Act.put, List.setIfInBounds_toArray, List.set_cons_zero, List.set_cons_succ]
      refine wpAnyH_take (i := 8) (v := ?_) rfl (by kernel_rfl) (by kernel_rfl) (by kernel_rfl) (fun _ _ _ h => h) (Or.inl ⟨by rfl, ?_⟩) hH2 ?_
      rotate_left
      · (intro W hSw; (try dsimp only at hSw); go_simp; try with_reducible rfl)
      try simp only [List.getElem_toArray, List.getElem_cons_zero, List.getElem_cons_succ, Act.put, List.setIfInBounds_toArray, List.set_cons_zero, List.set_cons_succ]
      refine wpAnyH_take (i := 9) (v := ?_) rfl (by kernel_rfl) (by kernel_rfl) (by kernel_rfl) (fun _ _ _ h => h) (Or.inl ⟨by rfl, ?_⟩) hH2 ?_
      rotate_left
      · (intro W hSw; (try dsimp only at hSw); go_simp; try with_reducible rfl)
      try simp only [List.getElem_toArray, List.getElem_cons_zero, List.getElem_cons_succ, Act.put, List.setIfInBounds_toArray, List.set_cons_zero, List.set_cons_succ]
      refine wpAnyH_take (i := 10) (v := ?_) rfl (by kernel_rfl) (by kernel_rfl) (by kernel_rfl) (fun _ _ _ h => h) (Or.inl ⟨by rfl, ?_⟩) hH2 ?_
      rotate_left
      · (intro W hSw; (try dsimp only at hSw); go_simp; try with_reducible rfl)
      try simp only [List.getElem_toArray, List.getElem_cons_zero, List.getElem_cons_succ, Act.put, List.setIfInBounds_toArray, List.set_cons_zero, List.set_cons_succ]
      refine wpAnyH_ready (rs := [11]) (by kernel_rfl) (by simp) ?_
      refine AllReadyH.cons rfl (fun K hK => ?_) AllReadyH.nil
      go_simp
      refine hK.out _ _ ?_ (fun hH3 => ?_)
      · exact hH2.alloc _
      clear hK K
      try simp only [List.getElem_toArray, List.getElem_cons_zero, List.getElem_cons_succ, Act.put, List.setIfInBounds_toArray, List.set_cons_zero, List.set_cons_succ]
      have hQ := hH2.new 0 0 ⟨#[]⟩
      obtain ⟨W3, hW3⟩ : ∃ W, w2.alloc (.cells #[.int .i64 0, .int .i64 0, .string ⟨#[]⟩] 25) = W := ⟨_, rfl⟩
      obtain ⟨g7, hg7⟩ : ∃ g, w2.heap.size = g := ⟨_, rfl⟩
      have hge : w.heap.size ≤ g7 := by rw [← hg7]; exact hH2.2.size
      have hne : g0 ≠ g7 := by rw [← hg7]; have := hH2.lt List.mem_cons_self; omega
      rw [hW3, hg7] at hQ
      rw [hW3] at hH3
      rw [hW3, hg7]
      clear hW3 hg7
      obtain ⟨q0, q1, q2, q3, q4, q5⟩ := (AgS.get hQ (g := g7) (k := 0) (n := 0) (t := ⟨#[]⟩) List.mem_cons_self).cells
      have hP := AgS.set (w := w) (W := W3) (k0 := 0) (n0 := 0) (t0 := ⟨#[]⟩) hQ (g := g7) hge (fun x hx => by rw [List.mem_singleton.1 hx]; exact hne) 0 0 ⟨#[]⟩
      refine wpAnyH_ready (rs := [12]) (by kernel_rfl) (by simp) ?_
      refine AllReadyH.cons rfl (fun K hK => ?_) AllReadyH.nil
      go_simp
      refine hK.out _ _ ?_ (fun hH5 => ?_)
      · exact ⟨fun y hy => hP.1 y (List.mem_cons_of_mem _ hy), hP.2⟩
      clear hK K
      try simp only [List.getElem_toArray, List.getElem_cons_zero, List.getElem_cons_succ, Act.put, List.setIfInBounds_toArray, List.set_cons_zero, List.set_cons_succ]
      refine wpAnyH_take (i := 13) (v := ?_) rfl (by kernel_rfl) (by kernel_rfl) (by kernel_rfl) (fun _ _ _ h => h) (Or.inl ⟨by rfl, ?_⟩) hH5 ?_
      rotate_left
      · (intro W hSw; (try dsimp only at hSw); go_simp; try with_reducible rfl)
      try simp only [List.getElem_toArray, List.getElem_cons_zero, List.getElem_cons_succ, Act.put, List.setIfInBounds_toArray, List.set_cons_zero, List.set_cons_succ]
      refine wpAnyH_done (by kernel_rfl) ?_ _
      go_wp2_with fail
      go_meet
      exact ⟨g7, rfl, hP⟩
    · go_simp
      refine hK.out _ _ ?_ (fun hH2 => ?_)
      · exact hH.alloc _
      clear hK K
      try simp only [List.getElem_toArray, List.getElem_cons_zero, List.getElem_cons_succ, Act.put, List.setIfInBounds_toArray, List.set_cons_zero, List.set_cons_succ]
      have hQ0 := hH.new 0 0 ⟨#[]⟩
      obtain ⟨W3, hW3⟩ : ∃ W, Wd.alloc (.cells #[.int .i64 0, .int .i64 0, .string ⟨#[]⟩] 25) = W := ⟨_, rfl⟩
      obtain ⟨g7, hg7⟩ : ∃ g, Wd.heap.size = g := ⟨_, rfl⟩
      have hge : w.heap.size ≤ g7 := by rw [← hg7]; exact hH.2.size
      have hne : g0 ≠ g7 := by rw [← hg7]; have := hH.lt List.mem_cons_self; omega
      rw [hW3, hg7] at hQ0
      rw [hW3] at hH2
      rw [hW3, hg7]
      clear hW3 hg7
      refine wpAnyH_ready (rs := [7]) (by kernel_rfl) (by simp) ?_
      refine AllReadyH.cons rfl (fun K hK => ?_) AllReadyH.nil
      go_simp
      refine (rbin13_is _ _ _ _ _ _ _ _ hm0.out hm1.out 0 0 hv).mono ?_
      rintro e w2 ⟨rfl, hb2⟩
      refine hK.out _ _ ?_ (fun hH3 => ?_)
      · exact hH2.on hb2
      clear hK K
      try simp only [List.getElem_toArray, List.getElem_cons_zero, List.getElem_cons_succ, Act.put, List.setIfInBounds_toArray, List.set_cons_zero, List.set_cons_succ]
      refine wpAnyH_take (i := 8) (v := ?_) rfl (by kernel_rfl) (by kernel_rfl) (by kernel_rfl) (fun _ _ _ h => h) (Or.inl ⟨by rfl, ?_⟩) hH3 ?_
      rotate_left
      · (intro W hSw; (try dsimp only at hSw); go_simp; try with_reducible rfl)
      try simp only [List.getElem_toArray, List.getElem_cons_zero, List.getElem_cons_succ, Act.put, List.setIfInBounds_toArray, List.set_cons_zero, List.set_cons_succ]
      refine wpAnyH_take (i := 9) (v := ?_) rfl (by kernel_rfl) (by kernel_rfl) (by kernel_rfl) (fun _ _ _ h => h) (Or.inl ⟨by rfl, ?_⟩) hH3 ?_
      rotate_left
      · (intro W hSw; (try dsimp only at hSw); go_simp; try with_reducible rfl)
      try simp only [List.getElem_toArray, List.getElem_cons_zero, List.getElem_cons_succ, Act.put, List.setIfInBounds_toArray, List.set_cons_zero, List.set_cons_succ]
      refine wpAnyH_take (i := 10) (v := ?_) rfl (by kernel_rfl) (by kernel_rfl) (by kernel_rfl) (fun _ _ _ h => h) (Or.inl ⟨by rfl, ?_⟩) hH3 ?_
      rotate_left
      · (intro W hSw; (try dsimp only at hSw); go_simp; try with_reducible rfl)
      try simp only [List.getElem_toArray, List.getElem_cons_zero, List.getElem_cons_succ, Act.put, List.setIfInBounds_toArray, List.set_cons_zero, List.set_cons_succ]
      have hQ := hQ0.on hb2
      obtain ⟨q0, q1, q2, q3, q4, q5⟩ := (AgS.get hQ (g := g7) (k := 0) (n := 0) (t := ⟨#[]⟩) List.mem_cons_self).cells
      have hP := AgS.set (w := w) (W := w2) (k0 := 0) (n0 := 0) (t0 := ⟨#[]⟩) hQ (g := g7) hge (fun x hx => by rw [List.mem_singleton.1 hx]; exact hne) 0 0 ⟨#[]⟩
      refine wpAnyH_ready (rs := [12]) (by kernel_rfl) (by simp) ?_
      refine AllReadyH.cons rfl (fun K hK => ?_) AllReadyH.nil
      go_simp
      refine hK.out _ _ ?_ (fun hH5 => ?_)
      · exact ⟨fun y hy => hP.1 y (List.mem_cons_of_mem _ hy), hP.2⟩
      clear hK K
      try simp only [List.getElem_toArray, List.getElem_cons_zero, List.getElem_cons_succ, Act.put, List.setIfInBounds_toArray, List.set_cons_zero, List.set_cons_succ]
      refine wpAnyH_take (i := 13) (v := ?_) rfl (by kernel_rfl) (by kernel_rfl) (by kernel_rfl) (fun _ _ _ h => h) (Or.inl ⟨by rfl, ?_⟩) hH5 ?_
      rotate_left
      · (intro W hSw; (try dsimp only at hSw); go_simp; try with_reducible rfl)
      try simp only [List.getElem_toArray, List.getElem_cons_zero, List.getElem_cons_succ, Act.put, List.setIfInBounds_toArray, List.set_cons_zero, List.set_cons_succ]
      refine wpAnyH_done (by kernel_rfl) ?_ _
      go_wp2_with fail
      go_meet
      exact ⟨g7, rfl, hP⟩
  case rest =>
  obtain ⟨g7, rfl, hA1⟩ := hcut
  clear hv
  go_upto_region 8 with fail
  go_cut [41] from 39 to 41 (fun v W => v = .bool false ∧ AgS w [(g7, ⟨0, 0, (⟨#[]⟩ : ByteArray).data.toList⟩), (g0, ⟨0, 0, (⟨#[]⟩ : ByteArray).data.toList⟩)] W)
  case first =>
    obtain ⟨Wd, hWd⟩ : ∃ W, wc.drew = W := ⟨_, rfl⟩
    have hSd : AgS w [(g7, ⟨0, 0, (⟨#[]⟩ : ByteArray).data.toList⟩), (g0, ⟨0, 0, (⟨#[]⟩ : ByteArray).data.toList⟩)] Wd := by rw [← hWd]; exact hA1.drew
    refine wp_region_held_drew (S := fun W => AgS w [(g7, ⟨0, 0, (⟨#[]⟩ : ByteArray).data.toList⟩), (g0, ⟨0, 0, (⟨#[]⟩ : ByteArray).data.toList⟩)] W) (by kernel_rfl) ?_ (fun hH => ?_)
    · rw [hWd]; exact hSd
    rw [hWd] at hH ⊢
    clear hWd hSd
    refine wpAnyH_take (i := 0) (v := ?_) rfl (by kernel_rfl) (by kernel_rfl) (by kernel_rfl) (fun _ _ _ h => h) (Or.inl ⟨by rfl, ?_⟩) hH ?_
    rotate_left
    · (intro W hSw; (try dsimp only at hSw); obtain ⟨z0, z1, z2, z3, z4, z5⟩ := (AgS.get hSw (g := g7) (k := 0) (n := 0) (t := ⟨#[]⟩) List.mem_cons_self).cells; go_simp; try with_reducible rfl)
    try simp only [List.getElem_toArray, List.getElem_cons_zero, List.getElem_cons_succ, Act.put, List.setIfInBounds_toArray, List.set_cons_zero, List.set_cons_succ]
    refine wpAnyH_ready (rs := [1]) (by kernel_rfl) (by simp) ?_
    refine AllReadyH.cons rfl (fun K hK => ?_) AllReadyH.nil
    go_simp
    refine (rint_any _ _).mono ?_
    rintro e w2 ⟨rfl, hb2⟩
    refine hK.out _ _ ?_ (fun hH2 => ?_)
    · exact hH.on hb2
    clear hK K
    try simp only [List.getElem_toArray, List.getElem_cons_zero, List.getElem_cons_succ, Act.put, List.setIfInBounds_toArray, List.set_cons_zero, List.set_cons_succ]
    refine wpAnyH_take (i := 2) (v := ?_) rfl (by kernel_rfl) (by kernel_rfl) (by kernel_rfl) (fun _ _ _ h => h) (Or.inl ⟨by rfl, ?_⟩) hH2 ?_
    rotate_left
    · (intro W hSw; (try dsimp only at hSw); go_simp; try with_reducible rfl)
    try simp only [List.getElem_toArray, List.getElem_cons_zero, List.getElem_cons_succ, Act.put, List.setIfInBounds_toArray, List.set_cons_zero, List.set_cons_succ]
    refine wpAnyH_done (by kernel_rfl) ?_ _
    go_wp2_with fail
    go_meet
    exact ⟨rfl, hH2⟩
  case rest =>
  obtain ⟨rfl, hA2⟩ := hcut
  clear hA1
  obtain ⟨y0, y1, y2, y3, y4, y5⟩ := (AgS.get hA2 (g := g0) (k := 0) (n := 0) (t := ⟨#[]⟩) (List.mem_cons_of_mem _ List.mem_cons_self)).cells
  obtain ⟨d0, d1, d2, _⟩ := v0.on hA2.2
  go_wp2
  exact bodyPost_ret (v := .agg #[.int .i64 k0, .int .i64 n0, .string t0]) (by simp only [results, Tryz.results33]; go_simp) rfl ⟨rfl, below_put hA2.2 hw0.out⟩

set_option maxHeartbeats 4000000 in
theorem rch_nullif_no (b off cap : Nat) (k0 n0 : Int) (t0 : ByteArray) (k1 n1 : Int) (t1 : ByteArray) (w : World) (hL : Lits w) (v0 : VAt w b (off + 0) k0 n0 t0) (v1 : VAt w b (off + 3) k1 n1 t1) (i0 : Val.inr n0) (i1 : Val.inr n1) (c : Int) (hm0 : Val.may ⟨k0, n0, t0.data.toList⟩ = true) (hm1 : Val.may ⟨k1, n1, t1.data.toList⟩ = true) (hv : Hid (eqV ⟨k0, n0, t0.data.toList⟩ ⟨k1, n1, t1.data.toList⟩ c = ⟨1, 0, []⟩)) :
    Calls Tryz.prog 33 #[.string ⟨#[110, 117, 108, 108, 105, 102]⟩, .int .i64 c, .slice (some ⟨b, off, none⟩) 2 cap] w (VRet k0 n0 t0 w) := by
  obtain ⟨g0, hg0⟩ : ∃ g, w.heap.size = g := ⟨_, rfl⟩
  have hA0 := AgS.one w 0 0 ⟨#[]⟩
  rw [hg0] at hA0
  have hw0 : w.heap.size ≤ g0 := Nat.le_of_eq hg0
  replace i0 := Lib.hid i0
  replace i1 := Lib.hid i1
  simp only [Nat.add_zero] at v0
  obtain ⟨c0, c1, c2, _⟩ := v0.on hA0.2
  replace hw0 := Lib.hid hw0
  replace hg0 := Lib.hid hg0
  replace hm0 := Lib.hid hm0
  replace hm1 := Lib.hid hm1
  go_enter Tryz.func33, Tryz.ntmps33
  go_upto_region 1 with fail
  rw [hg0.out]
  go_upto_region 7 with fail
  clear c0 c1 c2
  go_cut [7] from 28 to 38 (fun v W => ∃ g7, v = .pointer (some ⟨g7, 0, none⟩) ∧ AgS w [(g7, ⟨1, 0, (⟨#[]⟩ : ByteArray).data.toList⟩), (g0, ⟨0, 0, (⟨#[]⟩ : ByteArray).data.toList⟩)] W)
  case first =>
    obtain ⟨Wd, hWd⟩ : ∃ W, (w.alloc (.cells #[.int .i64 0, .int .i64 0, .string ⟨#[]⟩] 25)).drew = W := ⟨_, rfl⟩
    have hSd : AgS w [(g0, ⟨0, 0, (⟨#[]⟩ : ByteArray).data.toList⟩)] Wd := by rw [← hWd]; exact hA0.drew
    refine wp_region_held_drew (S := fun W => AgS w [(g0, ⟨0, 0, (⟨#[]⟩ : ByteArray).data.toList⟩)] W) (by kernel_rfl) ?_ (fun hH => ?_)
    · rw [hWd]; exact hSd
    rw [hWd] at hH ⊢
    clear hWd hSd
    refine wpAnyH_take (i := 0) (v := ?_) rfl (by kernel_rfl) (by kernel_rfl) (by kernel_rfl) (fun _ _ _ h => h) (Or.inl ⟨by rfl, ?_⟩) hH ?_
    rotate_left
    · (intro W hSw; (try dsimp only at hSw); go_simp; try with_reducible rfl)
    try simp only [List.getElem_toArray, List.getElem_cons_zero, List.getElem_cons_succ, Act.put, List.setIfInBounds_toArray, List.set_cons_zero, List.set_cons_succ]
    refine wpAnyH_take (i := 1) (v := ?_) rfl (by kernel_rfl) (by kernel_rfl) (by kernel_rfl) (fun _ _ _ h => h) (Or.inl ⟨by rfl, ?_⟩) hH ?_
    rotate_left
    · (intro W hSw; (try dsimp only at hSw); go_simp; try with_reducible rfl)
    try simp only [List.getElem_toArray, List.getElem_cons_zero, List.getElem_cons_succ, Act.put, List.setIfInBounds_toArray, List.set_cons_zero, List.set_cons_succ]
    refine wpAnyH_take (i := 2) (v := ?_) rfl (by kernel_rfl) (by kernel_rfl) (by kernel_rfl) (fun _ _ _ h => h) (Or.inl ⟨by rfl, ?_⟩) hH ?_
    rotate_left
    · (intro W hSw; (try dsimp only at hSw); obtain ⟨d0, d1, d2, _⟩ := v0.on hSw.2; go_simp; try with_reducible rfl)
    try simp only [List.getElem_toArray, List.getElem_cons_zero, List.getElem_cons_succ, Act.put, List.setIfInBounds_toArray, List.set_cons_zero, List.set_cons_succ]
    refine wpAnyH_take (i := 3) (v := ?_) rfl (by kernel_rfl) (by kernel_rfl) (by kernel_rfl) (fun _ _ _ h => h) (Or.inl ⟨by rfl, ?_⟩) hH ?_
    rotate_left
    · (intro W hSw; (try dsimp only at hSw); go_simp; try with_reducible rfl)
    try simp only [List.getElem_toArray, List.getElem_cons_zero, List.getElem_cons_succ, Act.put, List.setIfInBounds_toArray, List.set_cons_zero, List.set_cons_succ]
    refine wpAnyH_take (i := 4) (v := ?_) rfl (by kernel_rfl) (by kernel_rfl) (by kernel_rfl) (fun _ _ _ h => h) (Or.inl ⟨by rfl, ?_⟩) hH ?_
    rotate_left
    · (intro W hSw; (try dsimp only at hSw); go_simp; try with_reducible rfl)
    try simp only [List.getElem_toArray, List.getElem_cons_zero, List.getElem_cons_succ, Act.put, List.setIfInBounds_toArray, List.set_cons_zero, List.set_cons_succ]
    refine wpAnyH_take (i := 5) (v := ?_) rfl (by kernel_rfl) (by kernel_rfl) (by kernel_rfl) (fun _ _ _ h => h) (Or.inl ⟨by rfl, ?_⟩) hH ?_
    rotate_left
    · (intro W hSw; (try dsimp only at hSw); obtain ⟨d0, d1, d2, _⟩ := v1.on hSw.2; go_simp; try with_reducible rfl)
    try simp only [List.getElem_toArray, List.getElem_cons_zero, List.getElem_cons_succ, Act.put, List.setIfInBounds_toArray, List.set_cons_zero, List.set_cons_succ]
    refine wpAnyH_take (i := 6) (v := ?_) rfl (by kernel_rfl) (by kernel_rfl) (by kernel_rfl) (fun _ _ _ h => h) (Or.inl ⟨by rfl, ?_⟩) hH ?_
    rotate_left
    · (intro W hSw; (try dsimp only at hSw); go_simp; try with_reducible rfl)
    try simp only [List.getElem_toArray, List.getElem_cons_zero, List.getElem_cons_succ, Act.put, List.setIfInBounds_toArray, List.set_cons_zero, List.set_cons_succ]
    refine wpAnyH_ready (rs := [7, 11]) (by kernel_rfl) (by simp) ?_
    refine AllReadyH.cons rfl (fun K hK => ?_) (AllReadyH.cons rfl (fun K hK => ?_) (AllReadyH.nil))
    · go_simp
      refine (rbin13_is _ _ _ _ _ _ _ _ hm0.out hm1.out 1 0 hv).mono ?_
      rintro e w2 ⟨rfl, hb2⟩
      refine hK.out _ _ ?_ (fun hH2 => ?_)
      · exact hH.on hb2
      clear hK K
      try simp only [List.getElem_toArray, List.getElem_cons_zero, List.getElem_cons_succ, Act.put, List.setIfInBounds_toArray, List.set_cons_zero, List.set_cons_succ]
      refine wpAnyH_take (i := 8) (v := ?_) rfl (by kernel_rfl) (by kernel_rfl) (by kernel_rfl) (fun _ _ _ h => h) (Or.inl ⟨by rfl, ?_⟩) hH2 ?_
      rotate_left
      · (intro W hSw; (try dsimp only at hSw); go_simp; try with_reducible rfl)
      try simp only [List.getElem_toArray, List.getElem_cons_zero, List.getElem_cons_succ, Act.put, List.setIfInBounds_toArray, List.set_cons_zero, List.set_cons_succ]
      refine wpAnyH_take (i := 9) (v := ?_) rfl (by kernel_rfl) (by kernel_rfl) (by kernel_rfl) (fun _ _ _ h => h) (Or.inl ⟨by rfl, ?_⟩) hH2 ?_
      rotate_left
      · (intro W hSw; (try dsimp only at hSw); go_simp; try with_reducible rfl)
      try simp only [List.getElem_toArray, List.getElem_cons_zero, List.getElem_cons_succ, Act.put, List.setIfInBounds_toArray, List.set_cons_zero, List.set_cons_succ]
      refine wpAnyH_take (i := 10) (v := ?_) rfl (by kernel_rfl) (by kernel_rfl) (by kernel_rfl) (fun _ _ _ h => h) (Or.inl ⟨by rfl, ?_⟩) hH2 ?_
      rotate_left
      · (intro W hSw; (try dsimp only at hSw); go_simp; try with_reducible rfl)
      try simp only [List.getElem_toArray, List.getElem_cons_zero, List.getElem_cons_succ, Act.put, List.setIfInBounds_toArray, List.set_cons_zero, List.set_cons_succ]
      refine wpAnyH_ready (rs := [11]) (by kernel_rfl) (by simp) ?_
      refine AllReadyH.cons rfl (fun K hK => ?_) AllReadyH.nil
      go_simp
      refine hK.out _ _ ?_ (fun hH3 => ?_)
      · exact hH2.alloc _
      clear hK K
      try simp only [List.getElem_toArray, List.getElem_cons_zero, List.getElem_cons_succ, Act.put, List.setIfInBounds_toArray, List.set_cons_zero, List.set_cons_succ]
      have hQ := hH2.new 0 0 ⟨#[]⟩
      obtain ⟨W3, hW3⟩ : ∃ W, w2.alloc (.cells #[.int .i64 0, .int .i64 0, .string ⟨#[]⟩] 25) = W := ⟨_, rfl⟩
      obtain ⟨g7, hg7⟩ : ∃ g, w2.heap.size = g := ⟨_, rfl⟩
      have hge : w.heap.size ≤ g7 := by rw [← hg7]; exact hH2.2.size
      have hne : g0 ≠ g7 := by rw [← hg7]; have := hH2.lt List.mem_cons_self; omega
      rw [hW3, hg7] at hQ
      rw [hW3] at hH3
      rw [hW3, hg7]
      clear hW3 hg7
      obtain ⟨q0, q1, q2, q3, q4, q5⟩ := (AgS.get hQ (g := g7) (k := 0) (n := 0) (t := ⟨#[]⟩) List.mem_cons_self).cells
      have hP := AgS.set (w := w) (W := W3) (k0 := 0) (n0 := 0) (t0 := ⟨#[]⟩) hQ (g := g7) hge (fun x hx => by rw [List.mem_singleton.1 hx]; exact hne) 1 0 ⟨#[]⟩
      refine wpAnyH_ready (rs := [12]) (by kernel_rfl) (by simp) ?_
      refine AllReadyH.cons rfl (fun K hK => ?_) AllReadyH.nil
      go_simp
      refine hK.out _ _ ?_ (fun hH5 => ?_)
      · exact ⟨fun y hy => hP.1 y (List.mem_cons_of_mem _ hy), hP.2⟩
      clear hK K
      try simp only [List.getElem_toArray, List.getElem_cons_zero, List.getElem_cons_succ, Act.put, List.setIfInBounds_toArray, List.set_cons_zero, List.set_cons_succ]
      refine wpAnyH_take (i := 13) (v := ?_) rfl (by kernel_rfl) (by kernel_rfl) (by kernel_rfl) (fun _ _ _ h => h) (Or.inl ⟨by rfl, ?_⟩) hH5 ?_
      rotate_left
      · (intro W hSw; (try dsimp only at hSw); go_simp; try with_reducible rfl)
      try simp only [List.getElem_toArray, List.getElem_cons_zero, List.getElem_cons_succ, Act.put, List.setIfInBounds_toArray, List.set_cons_zero, List.set_cons_succ]
      refine wpAnyH_done (by kernel_rfl) ?_ _
      go_wp2_with fail
      go_meet
      exact ⟨g7, rfl, hP⟩
    · go_simp
      refine hK.out _ _ ?_ (fun hH2 => ?_)
      · exact hH.alloc _
      clear hK K
      try simp only [List.getElem_toArray, List.getElem_cons_zero, List.getElem_cons_succ, Act.put, List.setIfInBounds_toArray, List.set_cons_zero, List.set_cons_succ]
      have hQ0 := hH.new 0 0 ⟨#[]⟩
      obtain ⟨W3, hW3⟩ : ∃ W, Wd.alloc (.cells #[.int .i64 0, .int .i64 0, .string ⟨#[]⟩] 25) = W := ⟨_, rfl⟩
      obtain ⟨g7, hg7⟩ : ∃ g, Wd.heap.size = g := ⟨_, rfl⟩
      have hge : w.heap.size ≤ g7 := by rw [← hg7]; exact hH.2.size
      have hne : g0 ≠ g7 := by rw [← hg7]; have := hH.lt List.mem_cons_self; omega
      rw [hW3, hg7] at hQ0
      rw [hW3] at hH2
      rw [hW3, hg7]
      clear hW3 hg7
      refine wpAnyH_ready (rs := [7]) (by kernel_rfl) (by simp) ?_
      refine AllReadyH.cons rfl (fun K hK => ?_) AllReadyH.nil
      go_simp
      refine (rbin13_is _ _ _ _ _ _ _ _ hm0.out hm1.out 1 0 hv).mono ?_
      rintro e w2 ⟨rfl, hb2⟩
      refine hK.out _ _ ?_ (fun hH3 => ?_)
      · exact hH2.on hb2
      clear hK K
      try simp only [List.getElem_toArray, List.getElem_cons_zero, List.getElem_cons_succ, Act.put, List.setIfInBounds_toArray, List.set_cons_zero, List.set_cons_succ]
      refine wpAnyH_take (i := 8) (v := ?_) rfl (by kernel_rfl) (by kernel_rfl) (by kernel_rfl) (fun _ _ _ h => h) (Or.inl ⟨by rfl, ?_⟩) hH3 ?_
      rotate_left
      · (intro W hSw; (try dsimp only at hSw); go_simp; try with_reducible rfl)
      try simp only [List.getElem_toArray, List.getElem_cons_zero, List.getElem_cons_succ, Act.put, List.setIfInBounds_toArray, List.set_cons_zero, List.set_cons_succ]
      refine wpAnyH_take (i := 9) (v := ?_) rfl (by kernel_rfl) (by kernel_rfl) (by kernel_rfl) (fun _ _ _ h => h) (Or.inl ⟨by rfl, ?_⟩) hH3 ?_
      rotate_left
      · (intro W hSw; (try dsimp only at hSw); go_simp; try with_reducible rfl)
      try simp only [List.getElem_toArray, List.getElem_cons_zero, List.getElem_cons_succ, Act.put, List.setIfInBounds_toArray, List.set_cons_zero, List.set_cons_succ]
      refine wpAnyH_take (i := 10) (v := ?_) rfl (by kernel_rfl) (by kernel_rfl) (by kernel_rfl) (fun _ _ _ h => h) (Or.inl ⟨by rfl, ?_⟩) hH3 ?_
      rotate_left
      · (intro W hSw; (try dsimp only at hSw); go_simp; try with_reducible rfl)
      try simp only [List.getElem_toArray, List.getElem_cons_zero, List.getElem_cons_succ, Act.put, List.setIfInBounds_toArray, List.set_cons_zero, List.set_cons_succ]
      have hQ := hQ0.on hb2
      obtain ⟨q0, q1, q2, q3, q4, q5⟩ := (AgS.get hQ (g := g7) (k := 0) (n := 0) (t := ⟨#[]⟩) List.mem_cons_self).cells
      have hP := AgS.set (w := w) (W := w2) (k0 := 0) (n0 := 0) (t0 := ⟨#[]⟩) hQ (g := g7) hge (fun x hx => by rw [List.mem_singleton.1 hx]; exact hne) 1 0 ⟨#[]⟩
      refine wpAnyH_ready (rs := [12]) (by kernel_rfl) (by simp) ?_
      refine AllReadyH.cons rfl (fun K hK => ?_) AllReadyH.nil
      go_simp
      refine hK.out _ _ ?_ (fun hH5 => ?_)
      · exact ⟨fun y hy => hP.1 y (List.mem_cons_of_mem _ hy), hP.2⟩
      clear hK K
      try simp only [List.getElem_toArray, List.getElem_cons_zero, List.getElem_cons_succ, Act.put, List.setIfInBounds_toArray, List.set_cons_zero, List.set_cons_succ]
      refine wpAnyH_take (i := 13) (v := ?_) rfl (by kernel_rfl) (by kernel_rfl) (by kernel_rfl) (fun _ _ _ h => h) (Or.inl ⟨by rfl, ?_⟩) hH5 ?_
      rotate_left
      · (intro W hSw; (try dsimp only at hSw); go_simp; try with_reducible rfl)
      try simp only [List.getElem_toArray, List.getElem_cons_zero, List.getElem_cons_succ, Act.put, List.setIfInBounds_toArray, List.set_cons_zero, List.set_cons_succ]
      refine wpAnyH_done (by kernel_rfl) ?_ _
      go_wp2_with fail
      go_meet
      exact ⟨g7, rfl, hP⟩
  case rest =>
  obtain ⟨g7, rfl, hA1⟩ := hcut
  clear hv
  go_upto_region 8 with fail
  go_cut [41] from 39 to 41 (fun v W => v = .bool false ∧ AgS w [(g7, ⟨1, 0, (⟨#[]⟩ : ByteArray).data.toList⟩), (g0, ⟨0, 0, (⟨#[]⟩ : ByteArray).data.toList⟩)] W)
  case first =>
    obtain ⟨Wd, hWd⟩ : ∃ W, wc.drew = W := ⟨_, rfl⟩
    have hSd : AgS w [(g7, ⟨1, 0, (⟨#[]⟩ : ByteArray).data.toList⟩), (g0, ⟨0, 0, (⟨#[]⟩ : ByteArray).data.toList⟩)] Wd := by rw [← hWd]; exact hA1.drew
    refine wp_region_held_drew (S := fun W => AgS w [(g7, ⟨1, 0, (⟨#[]⟩ : ByteArray).data.toList⟩), (g0, ⟨0, 0, (⟨#[]⟩ : ByteArray).data.toList⟩)] W) (by kernel_rfl) ?_ (fun hH => ?_)
    · rw [hWd]; exact hSd
    rw [hWd] at hH ⊢
    clear hWd hSd
    refine wpAnyH_take (i := 0) (v := ?_) rfl (by kernel_rfl) (by kernel_rfl) (by kernel_rfl) (fun _ _ _ h => h) (Or.inl ⟨by rfl, ?_⟩) hH ?_
    rotate_left
    · (intro W hSw; (try dsimp only at hSw); obtain ⟨z0, z1, z2, z3, z4, z5⟩ := (AgS.get hSw (g := g7) (k := 1) (n := 0) (t := ⟨#[]⟩) List.mem_cons_self).cells; go_simp; try with_reducible rfl)
    try simp only [List.getElem_toArray, List.getElem_cons_zero, List.getElem_cons_succ, Act.put, List.setIfInBounds_toArray, List.set_cons_zero, List.set_cons_succ]
    refine wpAnyH_ready (rs := [1]) (by kernel_rfl) (by simp) ?_
    refine AllReadyH.cons rfl (fun K hK => ?_) AllReadyH.nil
    go_simp
    refine (rint_any _ _).mono ?_
    rintro e w2 ⟨rfl, hb2⟩
    refine hK.out _ _ ?_ (fun hH2 => ?_)
    · exact hH.on hb2
    clear hK K
    try simp only [List.getElem_toArray, List.getElem_cons_zero, List.getElem_cons_succ, Act.put, List.setIfInBounds_toArray, List.set_cons_zero, List.set_cons_succ]
    refine wpAnyH_take (i := 2) (v := ?_) rfl (by kernel_rfl) (by kernel_rfl) (by kernel_rfl) (fun _ _ _ h => h) (Or.inl ⟨by rfl, ?_⟩) hH2 ?_
    rotate_left
    · (intro W hSw; (try dsimp only at hSw); go_simp; try with_reducible rfl)
    try simp only [List.getElem_toArray, List.getElem_cons_zero, List.getElem_cons_succ, Act.put, List.setIfInBounds_toArray, List.set_cons_zero, List.set_cons_succ]
    refine wpAnyH_done (by kernel_rfl) ?_ _
    go_wp2_with fail
    go_meet
    exact ⟨rfl, hH2⟩
  case rest =>
  obtain ⟨rfl, hA2⟩ := hcut
  clear hA1
  obtain ⟨y0, y1, y2, y3, y4, y5⟩ := (AgS.get hA2 (g := g0) (k := 0) (n := 0) (t := ⟨#[]⟩) (List.mem_cons_of_mem _ List.mem_cons_self)).cells
  obtain ⟨d0, d1, d2, _⟩ := v0.on hA2.2
  go_wp2
  exact bodyPost_ret (v := .agg #[.int .i64 k0, .int .i64 n0, .string t0]) (by simp only [results, Tryz.results33]; go_simp) rfl ⟨rfl, below_put hA2.2 hw0.out⟩

set_option maxHeartbeats 4000000 in
theorem rch_nullif_yes (b off cap : Nat) (k0 n0 : Int) (t0 : ByteArray) (k1 n1 : Int) (t1 : ByteArray) (w : World) (hL : Lits w) (v0 : VAt w b (off + 0) k0 n0 t0) (v1 : VAt w b (off + 3) k1 n1 t1) (i0 : Val.inr n0) (i1 : Val.inr n1) (c : Int) (hm0 : Val.may ⟨k0, n0, t0.data.toList⟩ = true) (hm1 : Val.may ⟨k1, n1, t1.data.toList⟩ = true) (hv : Hid (eqV ⟨k0, n0, t0.data.toList⟩ ⟨k1, n1, t1.data.toList⟩ c = ⟨1, 1, []⟩)) :
    Calls Tryz.prog 33 #[.string ⟨#[110, 117, 108, 108, 105, 102]⟩, .int .i64 c, .slice (some ⟨b, off, none⟩) 2 cap] w (VRet 0 0 ⟨#[]⟩ w) := by
  obtain ⟨g0, hg0⟩ : ∃ g, w.heap.size = g := ⟨_, rfl⟩
  have hA0 := AgS.one w 0 0 ⟨#[]⟩
  rw [hg0] at hA0
  have hw0 : w.heap.size ≤ g0 := Nat.le_of_eq hg0
  replace i0 := Lib.hid i0
  replace i1 := Lib.hid i1
  simp only [Nat.add_zero] at v0
  obtain ⟨c0, c1, c2, _⟩ := v0.on hA0.2
  replace hw0 := Lib.hid hw0
  replace hg0 := Lib.hid hg0
  replace hm0 := Lib.hid hm0
  replace hm1 := Lib.hid hm1
  go_enter Tryz.func33, Tryz.ntmps33
  go_upto_region 1 with fail
  rw [hg0.out]
  go_upto_region 7 with fail
  clear c0 c1 c2
  go_cut [7] from 28 to 38 (fun v W => ∃ g7, v = .pointer (some ⟨g7, 0, none⟩) ∧ AgS w [(g7, ⟨1, 1, (⟨#[]⟩ : ByteArray).data.toList⟩), (g0, ⟨0, 0, (⟨#[]⟩ : ByteArray).data.toList⟩)] W)
  case first =>
    obtain ⟨Wd, hWd⟩ : ∃ W, (w.alloc (.cells #[.int .i64 0, .int .i64 0, .string ⟨#[]⟩] 25)).drew = W := ⟨_, rfl⟩
    have hSd : AgS w [(g0, ⟨0, 0, (⟨#[]⟩ : ByteArray).data.toList⟩)] Wd := by rw [← hWd]; exact hA0.drew
    refine wp_region_held_drew (S := fun W => AgS w [(g0, ⟨0, 0, (⟨#[]⟩ : ByteArray).data.toList⟩)] W) (by kernel_rfl) ?_ (fun hH => ?_)
    · rw [hWd]; exact hSd
    rw [hWd] at hH ⊢
    clear hWd hSd
    refine wpAnyH_take (i := 0) (v := ?_) rfl (by kernel_rfl) (by kernel_rfl) (by kernel_rfl) (fun _ _ _ h => h) (Or.inl ⟨by rfl, ?_⟩) hH ?_
    rotate_left
    · (intro W hSw; (try dsimp only at hSw); go_simp; try with_reducible rfl)
    try simp only [List.getElem_toArray, List.getElem_cons_zero, List.getElem_cons_succ, Act.put, List.setIfInBounds_toArray, List.set_cons_zero, List.set_cons_succ]
    refine wpAnyH_take (i := 1) (v := ?_) rfl (by kernel_rfl) (by kernel_rfl) (by kernel_rfl) (fun _ _ _ h => h) (Or.inl ⟨by rfl, ?_⟩) hH ?_
    rotate_left
    · (intro W hSw; (try dsimp only at hSw); go_simp; try with_reducible rfl)
    try simp only [List.getElem_toArray, List.getElem_cons_zero, List.getElem_cons_succ, Act.put, List.setIfInBounds_toArray, List.set_cons_zero, List.set_cons_succ]
    refine wpAnyH_take (i := 2) (v := ?_) rfl (by kernel_rfl) (by kernel_rfl) (by kernel_rfl) (fun _ _ _ h => h) (Or.inl ⟨by rfl, ?_⟩) hH ?_
    rotate_left
    · (intro W hSw; (try dsimp only at hSw); obtain ⟨d0, d1, d2, _⟩ := v0.on hSw.2; go_simp; try with_reducible rfl)
    try simp only [List.getElem_toArray, List.getElem_cons_zero, List.getElem_cons_succ, Act.put, List.setIfInBounds_toArray, List.set_cons_zero, List.set_cons_succ]
    refine wpAnyH_take (i := 3) (v := ?_) rfl (by kernel_rfl) (by kernel_rfl) (by kernel_rfl) (fun _ _ _ h => h) (Or.inl ⟨by rfl, ?_⟩) hH ?_
    rotate_left
    · (intro W hSw; (try dsimp only at hSw); go_simp; try with_reducible rfl)
    try simp only [List.getElem_toArray, List.getElem_cons_zero, List.getElem_cons_succ, Act.put, List.setIfInBounds_toArray, List.set_cons_zero, List.set_cons_succ]
    refine wpAnyH_take (i := 4) (v := ?_) rfl (by kernel_rfl) (by kernel_rfl) (by kernel_rfl) (fun _ _ _ h => h) (Or.inl ⟨by rfl, ?_⟩) hH ?_
    rotate_left
    · (intro W hSw; (try dsimp only at hSw); go_simp; try with_reducible rfl)
    try simp only [List.getElem_toArray, List.getElem_cons_zero, List.getElem_cons_succ, Act.put, List.setIfInBounds_toArray, List.set_cons_zero, List.set_cons_succ]
    refine wpAnyH_take (i := 5) (v := ?_) rfl (by kernel_rfl) (by kernel_rfl) (by kernel_rfl) (fun _ _ _ h => h) (Or.inl ⟨by rfl, ?_⟩) hH ?_
    rotate_left
    · (intro W hSw; (try dsimp only at hSw); obtain ⟨d0, d1, d2, _⟩ := v1.on hSw.2; go_simp; try with_reducible rfl)
    try simp only [List.getElem_toArray, List.getElem_cons_zero, List.getElem_cons_succ, Act.put, List.setIfInBounds_toArray, List.set_cons_zero, List.set_cons_succ]
    refine wpAnyH_take (i := 6) (v := ?_) rfl (by kernel_rfl) (by kernel_rfl) (by kernel_rfl) (fun _ _ _ h => h) (Or.inl ⟨by rfl, ?_⟩) hH ?_
    rotate_left
    · (intro W hSw; (try dsimp only at hSw); go_simp; try with_reducible rfl)
    try simp only [List.getElem_toArray, List.getElem_cons_zero, List.getElem_cons_succ, Act.put, List.setIfInBounds_toArray, List.set_cons_zero, List.set_cons_succ]
    refine wpAnyH_ready (rs := [7, 11]) (by kernel_rfl) (by simp) ?_
    refine AllReadyH.cons rfl (fun K hK => ?_) (AllReadyH.cons rfl (fun K hK => ?_) (AllReadyH.nil))
    · go_simp
      refine (rbin13_is _ _ _ _ _ _ _ _ hm0.out hm1.out 1 1 hv).mono ?_
      rintro e w2 ⟨rfl, hb2⟩
      refine hK.out _ _ ?_ (fun hH2 => ?_)
      · exact hH.on hb2
      clear hK K
      try simp only [List.getElem_toArray, List.getElem_cons_zero, List.getElem_cons_succ, Act.put, List.setIfInBounds_toArray, List.set_cons_zero, List.set_cons_succ]
      refine wpAnyH_take (i := 8) (v := ?_) rfl (by kernel_rfl) (by kernel_rfl) (by kernel_rfl) (fun _ _ _ h => h) (Or.inl ⟨by rfl, ?_⟩) hH2 ?_
      rotate_left
      · (intro W hSw; (try dsimp only at hSw); go_simp; try with_reducible rfl)
      try simp only [List.getElem_toArray, List.getElem_cons_zero, List.getElem_cons_succ, Act.put, List.setIfInBounds_toArray, List.set_cons_zero, List.set_cons_succ]
      refine wpAnyH_take (i := 9) (v := ?_) rfl (by kernel_rfl) (by kernel_rfl) (by kernel_rfl) (fun _ _ _ h => h) (Or.inl ⟨by rfl, ?_⟩) hH2 ?_
      rotate_left
      · (intro W hSw; (try dsimp only at hSw); go_simp; try with_reducible rfl)
      try simp only [List.getElem_toArray, List.getElem_cons_zero, List.getElem_cons_succ, Act.put, List.setIfInBounds_toArray, List.set_cons_zero, List.set_cons_succ]
      refine wpAnyH_take (i := 10) (v := ?_) rfl (by kernel_rfl) (by kernel_rfl) (by kernel_rfl) (fun _ _ _ h => h) (Or.inl ⟨by rfl, ?_⟩) hH2 ?_
      rotate_left
      · (intro W hSw; (try dsimp only at hSw); go_simp; try with_reducible rfl)
      try simp only [List.getElem_toArray, List.getElem_cons_zero, List.getElem_cons_succ, Act.put, List.setIfInBounds_toArray, List.set_cons_zero, List.set_cons_succ]
      refine wpAnyH_ready (rs := [11]) (by kernel_rfl) (by simp) ?_
      refine AllReadyH.cons rfl (fun K hK => ?_) AllReadyH.nil
      go_simp
      refine hK.out _ _ ?_ (fun hH3 => ?_)
      · exact hH2.alloc _
      clear hK K
      try simp only [List.getElem_toArray, List.getElem_cons_zero, List.getElem_cons_succ, Act.put, List.setIfInBounds_toArray, List.set_cons_zero, List.set_cons_succ]
      have hQ := hH2.new 0 0 ⟨#[]⟩
      obtain ⟨W3, hW3⟩ : ∃ W, w2.alloc (.cells #[.int .i64 0, .int .i64 0, .string ⟨#[]⟩] 25) = W := ⟨_, rfl⟩
      obtain ⟨g7, hg7⟩ : ∃ g, w2.heap.size = g := ⟨_, rfl⟩
      have hge : w.heap.size ≤ g7 := by rw [← hg7]; exact hH2.2.size
      have hne : g0 ≠ g7 := by rw [← hg7]; have := hH2.lt List.mem_cons_self; omega
      rw [hW3, hg7] at hQ
      rw [hW3] at hH3
      rw [hW3, hg7]
      clear hW3 hg7
      obtain ⟨q0, q1, q2, q3, q4, q5⟩ := (AgS.get hQ (g := g7) (k := 0) (n := 0) (t := ⟨#[]⟩) List.mem_cons_self).cells
      have hP := AgS.set (w := w) (W := W3) (k0 := 0) (n0 := 0) (t0 := ⟨#[]⟩) hQ (g := g7) hge (fun x hx => by rw [List.mem_singleton.1 hx]; exact hne) 1 1 ⟨#[]⟩
      refine wpAnyH_ready (rs := [12]) (by kernel_rfl) (by simp) ?_
      refine AllReadyH.cons rfl (fun K hK => ?_) AllReadyH.nil
      go_simp
      refine hK.out _ _ ?_ (fun hH5 => ?_)
      · exact ⟨fun y hy => hP.1 y (List.mem_cons_of_mem _ hy), hP.2⟩
      clear hK K
      try simp only [List.getElem_toArray, List.getElem_cons_zero, List.getElem_cons_succ, Act.put, List.setIfInBounds_toArray, List.set_cons_zero, List.set_cons_succ]
      refine wpAnyH_take (i := 13) (v := ?_) rfl (by kernel_rfl) (by kernel_rfl) (by kernel_rfl) (fun _ _ _ h => h) (Or.inl ⟨by rfl, ?_⟩) hH5 ?_
      rotate_left
      · (intro W hSw; (try dsimp only at hSw); go_simp; try with_reducible rfl)
      try simp only [List.getElem_toArray, List.getElem_cons_zero, List.getElem_cons_succ, Act.put, List.setIfInBounds_toArray, List.set_cons_zero, List.set_cons_succ]
      refine wpAnyH_done (by kernel_rfl) ?_ _
      go_wp2_with fail
      go_meet
      exact ⟨g7, rfl, hP⟩
    · go_simp
      refine hK.out _ _ ?_ (fun hH2 => ?_)
      · exact hH.alloc _
      clear hK K
      try simp only [List.getElem_toArray, List.getElem_cons_zero, List.getElem_cons_succ, Act.put, List.setIfInBounds_toArray, List.set_cons_zero, List.set_cons_succ]
      have hQ0 := hH.new 0 0 ⟨#[]⟩
      obtain ⟨W3, hW3⟩ : ∃ W, Wd.alloc (.cells #[.int .i64 0, .int .i64 0, .string ⟨#[]⟩] 25) = W := ⟨_, rfl⟩
      obtain ⟨g7, hg7⟩ : ∃ g, Wd.heap.size = g := ⟨_, rfl⟩
      have hge : w.heap.size ≤ g7 := by rw [← hg7]; exact hH.2.size
      have hne : g0 ≠ g7 := by rw [← hg7]; have := hH.lt List.mem_cons_self; omega
      rw [hW3, hg7] at hQ0
      rw [hW3] at hH2
      rw [hW3, hg7]
      clear hW3 hg7
      refine wpAnyH_ready (rs := [7]) (by kernel_rfl) (by simp) ?_
      refine AllReadyH.cons rfl (fun K hK => ?_) AllReadyH.nil
      go_simp
      refine (rbin13_is _ _ _ _ _ _ _ _ hm0.out hm1.out 1 1 hv).mono ?_
      rintro e w2 ⟨rfl, hb2⟩
      refine hK.out _ _ ?_ (fun hH3 => ?_)
      · exact hH2.on hb2
      clear hK K
      try simp only [List.getElem_toArray, List.getElem_cons_zero, List.getElem_cons_succ, Act.put, List.setIfInBounds_toArray, List.set_cons_zero, List.set_cons_succ]
      refine wpAnyH_take (i := 8) (v := ?_) rfl (by kernel_rfl) (by kernel_rfl) (by kernel_rfl) (fun _ _ _ h => h) (Or.inl ⟨by rfl, ?_⟩) hH3 ?_
      rotate_left
      · (intro W hSw; (try dsimp only at hSw); go_simp; try with_reducible rfl)
      try simp only [List.getElem_toArray, List.getElem_cons_zero, List.getElem_cons_succ, Act.put, List.setIfInBounds_toArray, List.set_cons_zero, List.set_cons_succ]
      refine wpAnyH_take (i := 9) (v := ?_) rfl (by kernel_rfl) (by kernel_rfl) (by kernel_rfl) (fun _ _ _ h => h) (Or.inl ⟨by rfl, ?_⟩) hH3 ?_
      rotate_left
      · (intro W hSw; (try dsimp only at hSw); go_simp; try with_reducible rfl)
      try simp only [List.getElem_toArray, List.getElem_cons_zero, List.getElem_cons_succ, Act.put, List.setIfInBounds_toArray, List.set_cons_zero, List.set_cons_succ]
      refine wpAnyH_take (i := 10) (v := ?_) rfl (by kernel_rfl) (by kernel_rfl) (by kernel_rfl) (fun _ _ _ h => h) (Or.inl ⟨by rfl, ?_⟩) hH3 ?_
      rotate_left
      · (intro W hSw; (try dsimp only at hSw); go_simp; try with_reducible rfl)
      try simp only [List.getElem_toArray, List.getElem_cons_zero, List.getElem_cons_succ, Act.put, List.setIfInBounds_toArray, List.set_cons_zero, List.set_cons_succ]
      have hQ := hQ0.on hb2
      obtain ⟨q0, q1, q2, q3, q4, q5⟩ := (AgS.get hQ (g := g7) (k := 0) (n := 0) (t := ⟨#[]⟩) List.mem_cons_self).cells
      have hP := AgS.set (w := w) (W := w2) (k0 := 0) (n0 := 0) (t0 := ⟨#[]⟩) hQ (g := g7) hge (fun x hx => by rw [List.mem_singleton.1 hx]; exact hne) 1 1 ⟨#[]⟩
      refine wpAnyH_ready (rs := [12]) (by kernel_rfl) (by simp) ?_
      refine AllReadyH.cons rfl (fun K hK => ?_) AllReadyH.nil
      go_simp
      refine hK.out _ _ ?_ (fun hH5 => ?_)
      · exact ⟨fun y hy => hP.1 y (List.mem_cons_of_mem _ hy), hP.2⟩
      clear hK K
      try simp only [List.getElem_toArray, List.getElem_cons_zero, List.getElem_cons_succ, Act.put, List.setIfInBounds_toArray, List.set_cons_zero, List.set_cons_succ]
      refine wpAnyH_take (i := 13) (v := ?_) rfl (by kernel_rfl) (by kernel_rfl) (by kernel_rfl) (fun _ _ _ h => h) (Or.inl ⟨by rfl, ?_⟩) hH5 ?_
      rotate_left
      · (intro W hSw; (try dsimp only at hSw); go_simp; try with_reducible rfl)
      try simp only [List.getElem_toArray, List.getElem_cons_zero, List.getElem_cons_succ, Act.put, List.setIfInBounds_toArray, List.set_cons_zero, List.set_cons_succ]
      refine wpAnyH_done (by kernel_rfl) ?_ _
      go_wp2_with fail
      go_meet
      exact ⟨g7, rfl, hP⟩
  case rest =>
  obtain ⟨g7, rfl, hA1⟩ := hcut
  clear hv
  go_upto_region 8 with fail
  go_cut [41] from 39 to 41 (fun v W => v = .bool true ∧ AgS w [(g7, ⟨1, 1, (⟨#[]⟩ : ByteArray).data.toList⟩), (g0, ⟨0, 0, (⟨#[]⟩ : ByteArray).data.toList⟩)] W)
  case first =>
    obtain ⟨Wd, hWd⟩ : ∃ W, wc.drew = W := ⟨_, rfl⟩
    have hSd : AgS w [(g7, ⟨1, 1, (⟨#[]⟩ : ByteArray).data.toList⟩), (g0, ⟨0, 0, (⟨#[]⟩ : ByteArray).data.toList⟩)] Wd := by rw [← hWd]; exact hA1.drew
    refine wp_region_held_drew (S := fun W => AgS w [(g7, ⟨1, 1, (⟨#[]⟩ : ByteArray).data.toList⟩), (g0, ⟨0, 0, (⟨#[]⟩ : ByteArray).data.toList⟩)] W) (by kernel_rfl) ?_ (fun hH => ?_)
    · rw [hWd]; exact hSd
    rw [hWd] at hH ⊢
    clear hWd hSd
    refine wpAnyH_take (i := 0) (v := ?_) rfl (by kernel_rfl) (by kernel_rfl) (by kernel_rfl) (fun _ _ _ h => h) (Or.inl ⟨by rfl, ?_⟩) hH ?_
    rotate_left
    · (intro W hSw; (try dsimp only at hSw); obtain ⟨z0, z1, z2, z3, z4, z5⟩ := (AgS.get hSw (g := g7) (k := 1) (n := 1) (t := ⟨#[]⟩) List.mem_cons_self).cells; go_simp; try with_reducible rfl)
    try simp only [List.getElem_toArray, List.getElem_cons_zero, List.getElem_cons_succ, Act.put, List.setIfInBounds_toArray, List.set_cons_zero, List.set_cons_succ]
    refine wpAnyH_ready (rs := [1]) (by kernel_rfl) (by simp) ?_
    refine AllReadyH.cons rfl (fun K hK => ?_) AllReadyH.nil
    go_simp
    refine (rint_any _ _).mono ?_
    rintro e w2 ⟨rfl, hb2⟩
    refine hK.out _ _ ?_ (fun hH2 => ?_)
    · exact hH.on hb2
    clear hK K
    try simp only [List.getElem_toArray, List.getElem_cons_zero, List.getElem_cons_succ, Act.put, List.setIfInBounds_toArray, List.set_cons_zero, List.set_cons_succ]
    refine wpAnyH_take (i := 2) (v := ?_) rfl (by kernel_rfl) (by kernel_rfl) (by kernel_rfl) (fun _ _ _ h => h) (Or.inl ⟨by rfl, ?_⟩) hH2 ?_
    rotate_left
    · (intro W hSw; (try dsimp only at hSw); go_simp; try with_reducible rfl)
    try simp only [List.getElem_toArray, List.getElem_cons_zero, List.getElem_cons_succ, Act.put, List.setIfInBounds_toArray, List.set_cons_zero, List.set_cons_succ]
    refine wpAnyH_done (by kernel_rfl) ?_ _
    go_wp2_with fail
    go_meet
    exact ⟨rfl, hH2⟩
  case rest =>
  obtain ⟨rfl, hA2⟩ := hcut
  clear hA1
  obtain ⟨y0, y1, y2, y3, y4, y5⟩ := (AgS.get hA2 (g := g0) (k := 0) (n := 0) (t := ⟨#[]⟩) (List.mem_cons_of_mem _ List.mem_cons_self)).cells
  obtain ⟨d0, d1, d2, _⟩ := v0.on hA2.2
  go_wp2
  exact bodyPost_ret (v := .agg #[.int .i64 0, .int .i64 0, .string ⟨#[]⟩]) (by simp only [results, Tryz.results33]; go_simp) rfl ⟨rfl, below_put hA2.2 hw0.out⟩

set_option maxHeartbeats 1000000 in
theorem rch_coalesce (c : Int) (p : Option Addr) (N cap : Nat) (vs : List Val.V) (w : World) (hA : ValsAt w p N vs) (hN : N ≤ 1048576) (k' n' : Int) (t' : ByteArray) (hv : Hid (coalesceV vs = ⟨k', n', t'.data.toList⟩)) :
    Calls Tryz.prog 33 #[.string ⟨#[99, 111, 97, 108, 101, 115, 99, 101]⟩, .int .i64 c, .slice p N cap] w (VRet k' n' t' w) := by
  have hlen := hA.1
  have hv0 := V3.new w 0 0 ⟨#[]⟩
  have hb0 := below_new w (.cells #[.int .i64 0, .int .i64 0, .string ⟨#[]⟩] 25)
  replace hlen := Lib.hid hlen
  go_enter Tryz.func33, Tryz.ntmps33
  go_wp2
  obtain ⟨W0, hW0⟩ : ∃ W, w.alloc (.cells #[.int .i64 0, .int .i64 0, .string ⟨#[]⟩] 25) = W := ⟨_, rfl⟩
  rw [hW0] at hv0 hb0
  rw [hW0]
  clear hW0
  go_loop [11] (fun iv => ∃ k : Nat, iv = .int .i64 (k : Int) ∧ k ≤ N ∧ Hid (coalesceV (vs.drop k) = ⟨k', n', t'.data.toList⟩)) (fun iv => N - (intOf iv).toNat)
  case atStart => exact ⟨0, by go_num, by omega, hv⟩
  case round =>
    obtain ⟨k, rfl, hk, hc⟩ := hrel
    clear hv
    obtain ⟨r0, r1, r2, r3, r4, r5⟩ := hv0.cells
    by_cases hlt : k < N
    · have hlk : k < vs.length := by rw [hlen.out]; exact hlt
      have hcc := hc.out
      rw [List.drop_eq_getElem_cons hlk] at hcc
      obtain ⟨v, hvk⟩ : ∃ v, vs[k] = v := ⟨_, rfl⟩
      have hgk : vs[k]? = some v := by rw [List.getElem?_eq_getElem hlk, hvk]
      rw [hvk] at hcc
      obtain ⟨b, off, rfl, hat⟩ := (hA.below hb0).get hgk
      obtain ⟨kd, n, tx⟩ := v
      obtain ⟨t, rfl⟩ : ∃ t : ByteArray, tx = t.data.toList := ⟨bs tx, rfl⟩
      rw [bs_of] at hat
      obtain ⟨c0, c1, c2, hbl⟩ := hat
      simp only at c0 c1 c2
      have lB : decide ((k : Int) < (N : Int)) = true := by simp; omega
      have i0 : (0 : Int) ≤ (k : Int) := by omega
      have i1 : (k : Int) < (N : Int) := by omega
      simp only [coalesceV] at hcc
      clear hvk hgk hc hlk
      by_cases h0 : kd = 0
      · rw [if_pos h0] at hcc
        have q : (kd != 0) = false := by rw [h0]; rfl
        replace hcc := Lib.hid hcc
        clear h0
        go_wp2
        go_round
        case rel => exact ⟨k + 1, by go_num, by omega, hcc⟩
        case measure => simp [intOf]; omega
      · rw [if_neg h0] at hcc
        injection hcc with e1 e2 e3
        obtain rfl : t = t' := by rw [← bs_of t, ← bs_of t', e3]
        subst e1
        subst e2
        have q : (kd != 0) = true := by simpa using h0
        clear h0 e3
        go_wp2
        exact bodyPost_ret (v := .agg #[.int .i64 kd, .int .i64 n, .string t]) (by simp only [results, Tryz.results33]; go_simp) rfl ⟨rfl, below_put hb0 (Nat.le_refl _)⟩
    · have hcc := hc.out
      rw [List.drop_eq_nil_of_le (by rw [hlen.out]; omega)] at hcc
      injection hcc with e1 e2 e3
      obtain rfl : t' = ⟨#[]⟩ := by rw [← bs_of t', ← e3]; rfl
      subst e1
      subst e2
      have lB : decide ((k : Int) < (N : Int)) = false := by simp; omega
      clear e3 hc
      go_wp2
      exact bodyPost_ret (v := .agg #[.int .i64 0, .int .i64 0, .string ⟨#[]⟩]) (by simp only [results, Tryz.results33]; go_simp) rfl ⟨rfl, below_put hb0 (Nat.le_refl _)⟩
set_option maxHeartbeats 1000000 in
theorem rch_ifnull (c : Int) (p : Option Addr) (N cap : Nat) (vs : List Val.V) (w : World) (hA : ValsAt w p N vs) (hN : N ≤ 1048576) (k' n' : Int) (t' : ByteArray) (hv : Hid (coalesceV vs = ⟨k', n', t'.data.toList⟩)) :
    Calls Tryz.prog 33 #[.string ⟨#[105, 102, 110, 117, 108, 108]⟩, .int .i64 c, .slice p N cap] w (VRet k' n' t' w) := by
  have hlen := hA.1
  have hv0 := V3.new w 0 0 ⟨#[]⟩
  have hb0 := below_new w (.cells #[.int .i64 0, .int .i64 0, .string ⟨#[]⟩] 25)
  replace hlen := Lib.hid hlen
  go_enter Tryz.func33, Tryz.ntmps33
  go_wp2
  obtain ⟨W0, hW0⟩ : ∃ W, w.alloc (.cells #[.int .i64 0, .int .i64 0, .string ⟨#[]⟩] 25) = W := ⟨_, rfl⟩
  rw [hW0] at hv0 hb0
  rw [hW0]
  clear hW0
  go_loop [11] (fun iv => ∃ k : Nat, iv = .int .i64 (k : Int) ∧ k ≤ N ∧ Hid (coalesceV (vs.drop k) = ⟨k', n', t'.data.toList⟩)) (fun iv => N - (intOf iv).toNat)
  case atStart => exact ⟨0, by go_num, by omega, hv⟩
  case round =>
    obtain ⟨k, rfl, hk, hc⟩ := hrel
    clear hv
    obtain ⟨r0, r1, r2, r3, r4, r5⟩ := hv0.cells
    by_cases hlt : k < N
    · have hlk : k < vs.length := by rw [hlen.out]; exact hlt
      have hcc := hc.out
      rw [List.drop_eq_getElem_cons hlk] at hcc
      obtain ⟨v, hvk⟩ : ∃ v, vs[k] = v := ⟨_, rfl⟩
      have hgk : vs[k]? = some v := by rw [List.getElem?_eq_getElem hlk, hvk]
      rw [hvk] at hcc
      obtain ⟨b, off, rfl, hat⟩ := (hA.below hb0).get hgk
      obtain ⟨kd, n, tx⟩ := v
      obtain ⟨t, rfl⟩ : ∃ t : ByteArray, tx = t.data.toList := ⟨bs tx, rfl⟩
      rw [bs_of] at hat
      obtain ⟨c0, c1, c2, hbl⟩ := hat
      simp only at c0 c1 c2
      have lB : decide ((k : Int) < (N : Int)) = true := by simp; omega
      have i0 : (0 : Int) ≤ (k : Int) := by omega
      have i1 : (k : Int) < (N : Int) := by omega
      simp only [coalesceV] at hcc
      clear hvk hgk hc hlk
      by_cases h0 : kd = 0
      · rw [if_pos h0] at hcc
        have q : (kd != 0) = false := by rw [h0]; rfl
        replace hcc := Lib.hid hcc
        clear h0
        go_wp2
        go_round
        case rel => exact ⟨k + 1, by go_num, by omega, hcc⟩
        case measure => simp [intOf]; omega
      · rw [if_neg h0] at hcc
        injection hcc with e1 e2 e3
        obtain rfl : t = t' := by rw [← bs_of t, ← bs_of t', e3]
        subst e1
        subst e2
        have q : (kd != 0) = true := by simpa using h0
        clear h0 e3
        go_wp2
        exact bodyPost_ret (v := .agg #[.int .i64 kd, .int .i64 n, .string t]) (by simp only [results, Tryz.results33]; go_simp) rfl ⟨rfl, below_put hb0 (Nat.le_refl _)⟩
    · have hcc := hc.out
      rw [List.drop_eq_nil_of_le (by rw [hlen.out]; omega)] at hcc
      injection hcc with e1 e2 e3
      obtain rfl : t' = ⟨#[]⟩ := by rw [← bs_of t', ← e3]; rfl
      subst e1
      subst e2
      have lB : decide ((k : Int) < (N : Int)) = false := by simp; omega
      clear e3 hc
      go_wp2
      exact bodyPost_ret (v := .agg #[.int .i64 0, .int .i64 0, .string ⟨#[]⟩]) (by simp only [results, Tryz.results33]; go_simp) rfl ⟨rfl, below_put hb0 (Nat.le_refl _)⟩
end Go.Proofs.YtmkgalcojoeniaaGreatDoor

