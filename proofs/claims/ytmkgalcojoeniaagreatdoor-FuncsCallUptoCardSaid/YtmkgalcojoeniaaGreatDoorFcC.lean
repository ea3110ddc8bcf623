/- Walks: substr (package funcs), way by way. Walks: what the table's functions do, as Call asks them. Walks: substr and the functions of one value, as Call asks them. Walks: Call (package funcs), of any name and values. Walks: Call (package funcs), joined. -/
import Derived.Test.YtmkgalcojoeniaaGreatDoorFcB
import Derived.Test.YtmkgalcojoeniaaGreatDoorFn4
set_option maxRecDepth 100000
set_option linter.unusedVariables false
set_option linter.unusedSimpArgs false
namespace Go.Proofs.YtmkgalcojoeniaaGreatDoor
open Go.RowKit
attribute [local go_sem] run_store_fn run_store_nofn

/-- what substr reads -/
def SubR (w W : World) (b off : Nat) (k n : Int) (t : ByteArray) (k1 n1 : Int) (t1 : ByteArray) : Prop := V3 W w.heap.size 0 0 ⟨#[]⟩ ∧ VAt W b off k n t ∧ VAt W b (off + 3) k1 n1 t1 ∧ Below w.heap.size w W
theorem SubR.on {w W W' : World} {b off : Nat} {k n : Int} {t : ByteArray} {k1 n1 : Int} {t1 : ByteArray} (h : SubR w W b off k n t k1 n1 t1) (hb : Below W.heap.size W W') : SubR w W' b off k n t k1 n1 t1 := ⟨h.1.on hb, h.2.1.on hb, h.2.2.1.on hb, below_step h.2.2.2 h.2.2.2.size hb⟩
set_option maxHeartbeats 4000000 in
theorem substr_pnull (c : Int) (b off cap : Nat) (k n : Int) (t : ByteArray) (k1 n1 : Int) (t1 : ByteArray) (w : World) (hL : Lits w) (hi : Val.inr n) (hi1 : Val.inr n1) (h0 : VAt w b off k n t) (h1 : VAt w b (off + 3) k1 n1 t1) (s : ByteArray) (hs : s.size ≤ 400) (hv : Hid (Val.pshow ⟨k, n, t.data.toList⟩ = ⟨2, 0, s.data.toList⟩)) (p : Int) (hp : Hid (Val.num ⟨k1, n1, t1.data.toList⟩ = ⟨0, p, []⟩)) (hpr : Val.inr p) (N : Nat) (hN : 2 ≤ N) :
    Calls Tryz.prog 95 #[.int .i64 c, .slice (some ⟨b, off, none⟩) N cap] w (VRet 0 p ⟨#[]⟩ w) := by
  have hb0 := below_new w (.cells #[.int .i64 0, .int .i64 0, .string ⟨#[]⟩] 25)
  have hS0 : SubR w (w.alloc (.cells #[.int .i64 0, .int .i64 0, .string ⟨#[]⟩] 25)) b off k n t k1 n1 t1 := ⟨V3.new w 0 0 ⟨#[]⟩, h0.on hb0, h1.on hb0, hb0⟩
  obtain ⟨c0, c1, c2, hbl⟩ := hS0.2.1
  have hL0 := hL.alloc (.cells #[.int .i64 0, .int .i64 0, .string ⟨#[]⟩] 25)
  have i0 : (0 : Int) < (N : Int) := by omega
  have i1 : (1 : Int) < (N : Int) := by omega
  have i0n : 0 < N := by omega
  have i1n : 1 < N := by omega
  obtain ⟨pr0, pr1⟩ := hpr
  replace hi := Lib.hid hi
  replace hi1 := Lib.hid hi1
  have hsz := Lib.hid hs
  clear h0 h1 hs
  go_enter Tryz.func95, Tryz.ntmps95
  go_wp2_with (first
    | (go_at_call 83; refine (fbytes_is _ _ _ _ hi.out hL0 _ _ hv).mono ?_; rintro e w1 ⟨rfl, hb1⟩; have hS1 := hS0.on hb1; have hL1 := hL0.below hb1; obtain ⟨d0, d1, d2, hdl⟩ := hS1.2.2.1)
    | (go_at_call 127; (refine (cnum_is _ _ _ _ hL1 _ _ hp).mono ?_; rintro e w2 ⟨rfl, hb2⟩; have hS2 := (hS1.on hb2).on (below_new w2 (.cells #[.int .i64 0, .int .i64 p, .string ⟨#[]⟩] 25)); have hL2 := (hL1.below hb2).alloc (.cells #[.int .i64 0, .int .i64 p, .string ⟨#[]⟩] 25); obtain ⟨a0, a1, a2, a3, a4, a5⟩ := hS2.1.cells; obtain ⟨e0, e1, e2', hel'⟩ := hS2.2.1)))
  exact bodyPost_ret (v := .agg #[.int .i64 0, .int .i64 p, .string ⟨#[]⟩]) (by simp only [results, Tryz.results95]; go_simp) rfl ⟨rfl, below_put hS2.2.2.2 (Nat.le_refl _)⟩
set_option maxHeartbeats 4000000 in
theorem substr3_n_null (c : Int) (b off cap : Nat) (k n : Int) (t : ByteArray) (k1 n1 : Int) (t1 : ByteArray) (w : World) (hL : Lits w) (hi : Val.inr n) (hi1 : Val.inr n1) (h0 : VAt w b off k n t) (h1 : VAt w b (off + 3) k1 n1 t1) (s : ByteArray) (hs : s.size ≤ 400) (hv : Hid (Val.pshow ⟨k, n, t.data.toList⟩ = ⟨2, 0, s.data.toList⟩)) (kp p : Int) (hp : Hid (Val.num ⟨k1, n1, t1.data.toList⟩ = ⟨kp, p, []⟩)) (hpr : Val.inr p) (k2 n2 : Int) (t2 : ByteArray) (hi2 : Val.inr n2) (h2 : VAt w b (off + 6) k2 n2 t2) (kq q : Int) (hq : Hid (Val.num ⟨k2, n2, t2.data.toList⟩ = ⟨kq, q, []⟩)) (hqr : Val.inr q) (hkp : (kp == 0) = false) (hp0 : p < 0) (hkq : (kq == 0) = true) :
    Calls Tryz.prog 95 #[.int .i64 c, .slice (some ⟨b, off, none⟩) 3 cap] w (VRet kq q ⟨#[]⟩ w) := by
  have hb0 := below_new w (.cells #[.int .i64 0, .int .i64 0, .string ⟨#[]⟩] 25)
  have hS0 : SubR w (w.alloc (.cells #[.int .i64 0, .int .i64 0, .string ⟨#[]⟩] 25)) b off k n t k1 n1 t1 := ⟨V3.new w 0 0 ⟨#[]⟩, h0.on hb0, h1.on hb0, hb0⟩
  obtain ⟨c0, c1, c2, hbl⟩ := hS0.2.1
  have hL0 := hL.alloc (.cells #[.int .i64 0, .int .i64 0, .string ⟨#[]⟩] 25)
  have g2 := h2.on hb0
  obtain ⟨pr0, pr1⟩ := hpr
  have hqrh := Lib.hid hqr
  clear hqr
  have bp : decide (p < 0) = true := decide_eq_true hp0
  have hwp : wrap64 (p + (s.size : Int)) = p + (s.size : Int) := IntWalk.wrap64_in _ (by omega)
  replace hi := Lib.hid hi
  replace hi1 := Lib.hid hi1
  have hsz := Lib.hid hs
  replace hi2 := Lib.hid hi2
  clear h0 h1 hs h2
  go_enter Tryz.func95, Tryz.ntmps95
  go_wp2_with (first
    | (go_at_call 83; refine (fbytes_is _ _ _ _ hi.out hL0 _ _ hv).mono ?_; rintro e w1 ⟨rfl, hb1⟩; have hS1 := hS0.on hb1; have hL1 := hL0.below hb1; obtain ⟨d0, d1, d2, hdl⟩ := hS1.2.2.1; have g3 := g2.on hb1)
    | (go_at_call 127; first | (have hqq := hb2; refine (cnum_is _ _ _ _ hL2 _ _ hq).mono ?_; rintro e w3 ⟨rfl, hb3⟩; have hS3 := (hS2.on hb3).on (below_new w3 (.cells #[.int .i64 kq, .int .i64 q, .string ⟨#[]⟩] 25)); obtain ⟨m0, m1, m2, m3, m4, m5⟩ := hS3.1.cells; obtain ⟨u0, u1, u2, hul⟩ := hS3.2.1) | (refine (cnum_is _ _ _ _ hL1 _ _ hp).mono ?_; rintro e w2 ⟨rfl, hb2⟩; have hS2 := (hS1.on hb2).on (below_new w2 (.cells #[.int .i64 kp, .int .i64 p, .string ⟨#[]⟩] 25)); have hL2 := (hL1.below hb2).alloc (.cells #[.int .i64 kp, .int .i64 p, .string ⟨#[]⟩] 25); obtain ⟨a0, a1, a2, a3, a4, a5⟩ := hS2.1.cells; obtain ⟨e0, e1, e2', hel'⟩ := hS2.2.1; obtain ⟨y0, y1, y2, hyl⟩ := (g3.on hb2).on (below_new w2 (.cells #[.int .i64 kp, .int .i64 p, .string ⟨#[]⟩] 25)))))
  exact bodyPost_ret (v := .agg #[.int .i64 kq, .int .i64 q, .string ⟨#[]⟩]) (by simp only [results, Tryz.results95]; go_simp) rfl ⟨rfl, below_put hS3.2.2.2 (Nat.le_refl _)⟩
set_option maxHeartbeats 4000000 in
theorem substr2_nb (c : Int) (b off cap : Nat) (k n : Int) (t : ByteArray) (k1 n1 : Int) (t1 : ByteArray) (w : World) (hL : Lits w) (hi : Val.inr n) (hi1 : Val.inr n1) (h0 : VAt w b off k n t) (h1 : VAt w b (off + 3) k1 n1 t1) (s : ByteArray) (hs : s.size ≤ 400) (hv : Hid (Val.pshow ⟨k, n, t.data.toList⟩ = ⟨2, 0, s.data.toList⟩)) (kp p : Int) (hp : Hid (Val.num ⟨k1, n1, t1.data.toList⟩ = ⟨kp, p, []⟩)) (hpr : Val.inr p) (hkp : (kp == 0) = false) (hp0 : p < 0) (hk : (k == 3) = true) (r : ByteArray) (hr : Hid (bs (pieceT s.data.toList (p + (s.size : Int)) (s.size : Int)) = r)) :
    Calls Tryz.prog 95 #[.int .i64 c, .slice (some ⟨b, off, none⟩) 2 cap] w (VRet 3 0 r w) := by
  have hb0 := below_new w (.cells #[.int .i64 0, .int .i64 0, .string ⟨#[]⟩] 25)
  have hS0 : SubR w (w.alloc (.cells #[.int .i64 0, .int .i64 0, .string ⟨#[]⟩] 25)) b off k n t k1 n1 t1 := ⟨V3.new w 0 0 ⟨#[]⟩, h0.on hb0, h1.on hb0, hb0⟩
  obtain ⟨c0, c1, c2, hbl⟩ := hS0.2.1
  have hL0 := hL.alloc (.cells #[.int .i64 0, .int .i64 0, .string ⟨#[]⟩] 25)
  obtain ⟨pr0, pr1⟩ := hpr
  have bp : decide (p < 0) = true := decide_eq_true hp0
  have hwp : wrap64 (p + (s.size : Int)) = p + (s.size : Int) := IntWalk.wrap64_in _ (by omega)
  have hBr : Val.inr (p + (s.size : Int)) := ⟨by omega, by omega⟩
  have hSr : Val.inr (s.size : Int) := ⟨by omega, by omega⟩
  obtain ⟨f, hf⟩ : ∃ f, clipN (p + (s.size : Int)) s.size = f := ⟨_, rfl⟩
  obtain ⟨e2, he2⟩ : ∃ e2, clipN (s.size : Int) s.size = e2 := ⟨_, rfl⟩
  have hel : e2 ≤ s.size := by rw [← he2]; exact clipN_le _ _
  obtain ⟨mn, hmn⟩ : ∃ mn, min f e2 = mn := ⟨_, rfl⟩
  have hmi : min (f : Int) (e2 : Int) = (mn : Int) := by omega
  have hme : mn ≤ e2 := by omega
  have x0 : (0 : Int) ≤ (mn : Int) := by omega
  have x1 : (mn : Int) ≤ (e2 : Int) := by omega
  have x2 : (e2 : Int) ≤ (s.size : Int) := by omega
  have x3 : (0 : Int) ≤ (e2 : Int) := by omega
  have hrs : s.extract mn e2 = r := by
    rw [← bs_of (s.extract mn e2), ← hr.out, Lib.extract_data]
    congr 1
    unfold pieceT
    have hl : s.data.toList.length = s.size := rfl
    rw [hl, hf, he2, hmn]
  have hrz : r.size ≤ 400 := by rw [← hrs]; simp; omega
  have hx : Val.ptext r.data.toList = ⟨2, 0, r.data.toList⟩ := by
    have hl : r.data.toList.length = r.size := rfl
    unfold Val.ptext; rw [if_neg (by omega)]
  replace hx := Lib.hid hx
  replace hrs := Lib.hid hrs
  replace hrz := Lib.hid hrz
  replace hf := Lib.hid hf
  replace he2 := Lib.hid he2
  replace hmn := Lib.hid hmn
  replace hBr := Lib.hid hBr
  replace hSr := Lib.hid hSr
  clear hr
  replace hi := Lib.hid hi
  replace hi1 := Lib.hid hi1
  have hsz := Lib.hid hs
  clear h0 h1 hs
  go_enter Tryz.func95, Tryz.ntmps95
  go_wp2_with (first
    | (go_at_call 83; refine (fbytes_is _ _ _ _ hi.out hL0 _ _ hv).mono ?_; rintro e w1 ⟨rfl, hb1⟩; have hS1 := hS0.on hb1; have hL1 := hL0.below hb1; obtain ⟨d0, d1, d2, hdl⟩ := hS1.2.2.1)
    | (go_at_call 127; (refine (cnum_is _ _ _ _ hL1 _ _ hp).mono ?_; rintro e w2 ⟨rfl, hb2⟩; have hS2 := (hS1.on hb2).on (below_new w2 (.cells #[.int .i64 kp, .int .i64 p, .string ⟨#[]⟩] 25)); have hL2 := (hL1.below hb2).alloc (.cells #[.int .i64 kp, .int .i64 p, .string ⟨#[]⟩] 25); obtain ⟨a0, a1, a2, a3, a4, a5⟩ := hS2.1.cells; obtain ⟨e0, e1, e2', hel'⟩ := hS2.2.1))
    | (go_at_call 140; first | (have hqq := tok1; refine (clip_eq (s.size : Int) s _ hSr.out (by have := hsz.out; omega) _ he2).mono ?_; rintro e wx ⟨rfl, rfl⟩) | (refine (clip_eq (p + (s.size : Int)) s _ hBr.out (by have := hsz.out; omega) _ hf).mono ?_; rintro e wx ⟨rfl, rfl⟩; have tok1 : True := trivial))
    | (go_at_call 141; rw [hrs.out]; refine (vblob_ok _ _ hrz.out).mono ?_; rintro e w9 ⟨rfl, hb9⟩; have hS9 := (hS2.on hb9).on (below_new w9 (.cells #[.int .i64 3, .int .i64 0, .string r] 25)); obtain ⟨v0, v1, v2, v3, v4, v5⟩ := hS9.1.cells))
  exact bodyPost_ret (v := .agg #[.int .i64 3, .int .i64 0, .string r]) (by simp only [results, Tryz.results95]; go_simp) rfl ⟨rfl, below_put hS9.2.2.2 (Nat.le_refl _)⟩
set_option maxHeartbeats 4000000 in
theorem substr3_nsb (c : Int) (b off cap : Nat) (k n : Int) (t : ByteArray) (k1 n1 : Int) (t1 : ByteArray) (w : World) (hL : Lits w) (hi : Val.inr n) (hi1 : Val.inr n1) (h0 : VAt w b off k n t) (h1 : VAt w b (off + 3) k1 n1 t1) (s : ByteArray) (hs : s.size ≤ 400) (hv : Hid (Val.pshow ⟨k, n, t.data.toList⟩ = ⟨2, 0, s.data.toList⟩)) (kp p : Int) (hp : Hid (Val.num ⟨k1, n1, t1.data.toList⟩ = ⟨kp, p, []⟩)) (hpr : Val.inr p) (k2 n2 : Int) (t2 : ByteArray) (hi2 : Val.inr n2) (h2 : VAt w b (off + 6) k2 n2 t2) (kq q : Int) (hq : Hid (Val.num ⟨k2, n2, t2.data.toList⟩ = ⟨kq, q, []⟩)) (hqr : Val.inr q) (hkp : (kp == 0) = false) (hp0 : p < 0) (hkq : (kq == 0) = false) (S : Int) (hS : Hid (clampI ((p + (s.size : Int)) + q) = S)) (hsw : S < (p + (s.size : Int))) (hk : (k == 3) = true) (r : ByteArray) (hr : Hid (bs (pieceT s.data.toList S (p + (s.size : Int))) = r)) :
    Calls Tryz.prog 95 #[.int .i64 c, .slice (some ⟨b, off, none⟩) 3 cap] w (VRet 3 0 r w) := by
  have hb0 := below_new w (.cells #[.int .i64 0, .int .i64 0, .string ⟨#[]⟩] 25)
  have hS0 : SubR w (w.alloc (.cells #[.int .i64 0, .int .i64 0, .string ⟨#[]⟩] 25)) b off k n t k1 n1 t1 := ⟨V3.new w 0 0 ⟨#[]⟩, h0.on hb0, h1.on hb0, hb0⟩
  obtain ⟨c0, c1, c2, hbl⟩ := hS0.2.1
  have hL0 := hL.alloc (.cells #[.int .i64 0, .int .i64 0, .string ⟨#[]⟩] 25)
  have g2 := h2.on hb0
  obtain ⟨pr0, pr1⟩ := hpr
  have hqrh := Lib.hid hqr
  clear hqr
  have bp : decide (p < 0) = true := decide_eq_true hp0
  have hwp : wrap64 (p + (s.size : Int)) = p + (s.size : Int) := IntWalk.wrap64_in _ (by omega)
  have hBr : Val.inr (p + (s.size : Int)) := ⟨by omega, by omega⟩
  have hSr : Val.inr S := by rw [← hS.out]; unfold clampI; (split <;> first | exact ⟨by omega, by omega⟩ | (split <;> exact ⟨by omega, by omega⟩))
  have bsw : decide (S < p + (s.size : Int)) = true := decide_eq_true hsw
  obtain ⟨f, hf⟩ : ∃ f, clipN S s.size = f := ⟨_, rfl⟩
  obtain ⟨e2, he2⟩ : ∃ e2, clipN (p + (s.size : Int)) s.size = e2 := ⟨_, rfl⟩
  have hel : e2 ≤ s.size := by rw [← he2]; exact clipN_le _ _
  obtain ⟨mn, hmn⟩ : ∃ mn, min f e2 = mn := ⟨_, rfl⟩
  have hmi : min (f : Int) (e2 : Int) = (mn : Int) := by omega
  have hme : mn ≤ e2 := by omega
  have x0 : (0 : Int) ≤ (mn : Int) := by omega
  have x1 : (mn : Int) ≤ (e2 : Int) := by omega
  have x2 : (e2 : Int) ≤ (s.size : Int) := by omega
  have x3 : (0 : Int) ≤ (e2 : Int) := by omega
  have hrs : s.extract mn e2 = r := by
    rw [← bs_of (s.extract mn e2), ← hr.out, Lib.extract_data]
    congr 1
    unfold pieceT
    have hl : s.data.toList.length = s.size := rfl
    rw [hl, hf, he2, hmn]
  have hrz : r.size ≤ 400 := by rw [← hrs]; simp; omega
  have hx : Val.ptext r.data.toList = ⟨2, 0, r.data.toList⟩ := by
    have hl : r.data.toList.length = r.size := rfl
    unfold Val.ptext; rw [if_neg (by omega)]
  replace hx := Lib.hid hx
  replace hrs := Lib.hid hrs
  replace hrz := Lib.hid hrz
  replace hf := Lib.hid hf
  replace he2 := Lib.hid he2
  replace hmn := Lib.hid hmn
  replace hSr := Lib.hid hSr
  replace hBr := Lib.hid hBr
  clear hr
  replace hi := Lib.hid hi
  replace hi1 := Lib.hid hi1
  have hsz := Lib.hid hs
  replace hi2 := Lib.hid hi2
  clear h0 h1 hs h2
  go_enter Tryz.func95, Tryz.ntmps95
  go_wp2_with (first
    | (go_at_call 83; refine (fbytes_is _ _ _ _ hi.out hL0 _ _ hv).mono ?_; rintro e w1 ⟨rfl, hb1⟩; have hS1 := hS0.on hb1; have hL1 := hL0.below hb1; obtain ⟨d0, d1, d2, hdl⟩ := hS1.2.2.1; have g3 := g2.on hb1)
    | (go_at_call 127; first | (have hqq := hb2; refine (cnum_is _ _ _ _ hL2 _ _ hq).mono ?_; rintro e w3 ⟨rfl, hb3⟩; have hS3 := (hS2.on hb3).on (below_new w3 (.cells #[.int .i64 kq, .int .i64 q, .string ⟨#[]⟩] 25)); obtain ⟨m0, m1, m2, m3, m4, m5⟩ := hS3.1.cells; obtain ⟨u0, u1, u2, hul⟩ := hS3.2.1) | (refine (cnum_is _ _ _ _ hL1 _ _ hp).mono ?_; rintro e w2 ⟨rfl, hb2⟩; have hS2 := (hS1.on hb2).on (below_new w2 (.cells #[.int .i64 kp, .int .i64 p, .string ⟨#[]⟩] 25)); have hL2 := (hL1.below hb2).alloc (.cells #[.int .i64 kp, .int .i64 p, .string ⟨#[]⟩] 25); obtain ⟨a0, a1, a2, a3, a4, a5⟩ := hS2.1.cells; obtain ⟨e0, e1, e2', hel'⟩ := hS2.2.1; obtain ⟨y0, y1, y2, hyl⟩ := (g3.on hb2).on (below_new w2 (.cells #[.int .i64 kp, .int .i64 p, .string ⟨#[]⟩] 25))))
    | (go_at_call 139; refine (sum_eq _ _ _ hBr.out hqrh.out _ hS).mono ?_; rintro e wx ⟨rfl, rfl⟩)
    | (go_at_call 140; first | (have hqq := tok1; refine (clip_eq (p + (s.size : Int)) s _ hBr.out (by have := hsz.out; omega) _ he2).mono ?_; rintro e wx ⟨rfl, rfl⟩) | (refine (clip_eq S s _ hSr.out (by have := hsz.out; omega) _ hf).mono ?_; rintro e wx ⟨rfl, rfl⟩; have tok1 : True := trivial))
    | (go_at_call 141; rw [hrs.out]; refine (vblob_ok _ _ hrz.out).mono ?_; rintro e w9 ⟨rfl, hb9⟩; have hS9 := (hS3.on hb9).on (below_new w9 (.cells #[.int .i64 3, .int .i64 0, .string r] 25)); obtain ⟨v0, v1, v2, v3, v4, v5⟩ := hS9.1.cells))
  exact bodyPost_ret (v := .agg #[.int .i64 3, .int .i64 0, .string r]) (by simp only [results, Tryz.results95]; go_simp) rfl ⟨rfl, below_put hS9.2.2.2 (Nat.le_refl _)⟩
set_option maxHeartbeats 4000000 in
theorem substr3_nkb (c : Int) (b off cap : Nat) (k n : Int) (t : ByteArray) (k1 n1 : Int) (t1 : ByteArray) (w : World) (hL : Lits w) (hi : Val.inr n) (hi1 : Val.inr n1) (h0 : VAt w b off k n t) (h1 : VAt w b (off + 3) k1 n1 t1) (s : ByteArray) (hs : s.size ≤ 400) (hv : Hid (Val.pshow ⟨k, n, t.data.toList⟩ = ⟨2, 0, s.data.toList⟩)) (kp p : Int) (hp : Hid (Val.num ⟨k1, n1, t1.data.toList⟩ = ⟨kp, p, []⟩)) (hpr : Val.inr p) (k2 n2 : Int) (t2 : ByteArray) (hi2 : Val.inr n2) (h2 : VAt w b (off + 6) k2 n2 t2) (kq q : Int) (hq : Hid (Val.num ⟨k2, n2, t2.data.toList⟩ = ⟨kq, q, []⟩)) (hqr : Val.inr q) (hkp : (kp == 0) = false) (hp0 : p < 0) (hkq : (kq == 0) = false) (S : Int) (hS : Hid (clampI ((p + (s.size : Int)) + q) = S)) (hsw : ¬ S < (p + (s.size : Int))) (hk : (k == 3) = true) (r : ByteArray) (hr : Hid (bs (pieceT s.data.toList (p + (s.size : Int)) S) = r)) :
    Calls Tryz.prog 95 #[.int .i64 c, .slice (some ⟨b, off, none⟩) 3 cap] w (VRet 3 0 r w) := by
  have hb0 := below_new w (.cells #[.int .i64 0, .int .i64 0, .string ⟨#[]⟩] 25)
  have hS0 : SubR w (w.alloc (.cells #[.int .i64 0, .int .i64 0, .string ⟨#[]⟩] 25)) b off k n t k1 n1 t1 := ⟨V3.new w 0 0 ⟨#[]⟩, h0.on hb0, h1.on hb0, hb0⟩
  obtain ⟨c0, c1, c2, hbl⟩ := hS0.2.1
  have hL0 := hL.alloc (.cells #[.int .i64 0, .int .i64 0, .string ⟨#[]⟩] 25)
  have g2 := h2.on hb0
  obtain ⟨pr0, pr1⟩ := hpr
  have hqrh := Lib.hid hqr
  clear hqr
  have bp : decide (p < 0) = true := decide_eq_true hp0
  have hwp : wrap64 (p + (s.size : Int)) = p + (s.size : Int) := IntWalk.wrap64_in _ (by omega)
  have hBr : Val.inr (p + (s.size : Int)) := ⟨by omega, by omega⟩
  have hSr : Val.inr S := by rw [← hS.out]; unfold clampI; (split <;> first | exact ⟨by omega, by omega⟩ | (split <;> exact ⟨by omega, by omega⟩))
  have bsw : decide (S < p + (s.size : Int)) = false := decide_eq_false hsw
  obtain ⟨f, hf⟩ : ∃ f, clipN (p + (s.size : Int)) s.size = f := ⟨_, rfl⟩
  obtain ⟨e2, he2⟩ : ∃ e2, clipN S s.size = e2 := ⟨_, rfl⟩
  have hel : e2 ≤ s.size := by rw [← he2]; exact clipN_le _ _
  obtain ⟨mn, hmn⟩ : ∃ mn, min f e2 = mn := ⟨_, rfl⟩
  have hmi : min (f : Int) (e2 : Int) = (mn : Int) := by omega
  have hme : mn ≤ e2 := by omega
  have x0 : (0 : Int) ≤ (mn : Int) := by omega
  have x1 : (mn : Int) ≤ (e2 : Int) := by omega
  have x2 : (e2 : Int) ≤ (s.size : Int) := by omega
  have x3 : (0 : Int) ≤ (e2 : Int) := by omega
  have hrs : s.extract mn e2 = r := by
    rw [← bs_of (s.extract mn e2), ← hr.out, Lib.extract_data]
    congr 1
    unfold pieceT
    have hl : s.data.toList.length = s.size := rfl
    rw [hl, hf, he2, hmn]
  have hrz : r.size ≤ 400 := by rw [← hrs]; simp; omega
  have hx : Val.ptext r.data.toList = ⟨2, 0, r.data.toList⟩ := by
    have hl : r.data.toList.length = r.size := rfl
    unfold Val.ptext; rw [if_neg (by omega)]
  replace hx := Lib.hid hx
  replace hrs := Lib.hid hrs
  replace hrz := Lib.hid hrz
  replace hf := Lib.hid hf
  replace he2 := Lib.hid he2
  replace hmn := Lib.hid hmn
  replace hBr := Lib.hid hBr
  replace hSr := Lib.hid hSr
  clear hr
  replace hi := Lib.hid hi
  replace hi1 := Lib.hid hi1
  have hsz := Lib.hid hs
  replace hi2 := Lib.hid hi2
  clear h0 h1 hs h2
  go_enter Tryz.func95, Tryz.ntmps95
  go_wp2_with (first
    | (go_at_call 83; refine (fbytes_is _ _ _ _ hi.out hL0 _ _ hv).mono ?_; rintro e w1 ⟨rfl, hb1⟩; have hS1 := hS0.on hb1; have hL1 := hL0.below hb1; obtain ⟨d0, d1, d2, hdl⟩ := hS1.2.2.1; have g3 := g2.on hb1)
    | (go_at_call 127; first | (have hqq := hb2; refine (cnum_is _ _ _ _ hL2 _ _ hq).mono ?_; rintro e w3 ⟨rfl, hb3⟩; have hS3 := (hS2.on hb3).on (below_new w3 (.cells #[.int .i64 kq, .int .i64 q, .string ⟨#[]⟩] 25)); obtain ⟨m0, m1, m2, m3, m4, m5⟩ := hS3.1.cells; obtain ⟨u0, u1, u2, hul⟩ := hS3.2.1) | (refine (cnum_is _ _ _ _ hL1 _ _ hp).mono ?_; rintro e w2 ⟨rfl, hb2⟩; have hS2 := (hS1.on hb2).on (below_new w2 (.cells #[.int .i64 kp, .int .i64 p, .string ⟨#[]⟩] 25)); have hL2 := (hL1.below hb2).alloc (.cells #[.int .i64 kp, .int .i64 p, .string ⟨#[]⟩] 25); obtain ⟨a0, a1, a2, a3, a4, a5⟩ := hS2.1.cells; obtain ⟨e0, e1, e2', hel'⟩ := hS2.2.1; obtain ⟨y0, y1, y2, hyl⟩ := (g3.on hb2).on (below_new w2 (.cells #[.int .i64 kp, .int .i64 p, .string ⟨#[]⟩] 25))))
    | (go_at_call 139; refine (sum_eq _ _ _ hBr.out hqrh.out _ hS).mono ?_; rintro e wx ⟨rfl, rfl⟩)
    | (go_at_call 140; first | (have hqq := tok1; refine (clip_eq S s _ hSr.out (by have := hsz.out; omega) _ he2).mono ?_; rintro e wx ⟨rfl, rfl⟩) | (refine (clip_eq (p + (s.size : Int)) s _ hBr.out (by have := hsz.out; omega) _ hf).mono ?_; rintro e wx ⟨rfl, rfl⟩; have tok1 : True := trivial))
    | (go_at_call 141; rw [hrs.out]; refine (vblob_ok _ _ hrz.out).mono ?_; rintro e w9 ⟨rfl, hb9⟩; have hS9 := (hS3.on hb9).on (below_new w9 (.cells #[.int .i64 3, .int .i64 0, .string r] 25)); obtain ⟨v0, v1, v2, v3, v4, v5⟩ := hS9.1.cells))
  exact bodyPost_ret (v := .agg #[.int .i64 3, .int .i64 0, .string r]) (by simp only [results, Tryz.results95]; go_simp) rfl ⟨rfl, below_put hS9.2.2.2 (Nat.le_refl _)⟩
set_option maxHeartbeats 4000000 in
theorem substr2_nt (c : Int) (b off cap : Nat) (k n : Int) (t : ByteArray) (k1 n1 : Int) (t1 : ByteArray) (w : World) (hL : Lits w) (hi : Val.inr n) (hi1 : Val.inr n1) (h0 : VAt w b off k n t) (h1 : VAt w b (off + 3) k1 n1 t1) (s : ByteArray) (hs : s.size ≤ 400) (hv : Hid (Val.pshow ⟨k, n, t.data.toList⟩ = ⟨2, 0, s.data.toList⟩)) (kp p : Int) (hp : Hid (Val.num ⟨k1, n1, t1.data.toList⟩ = ⟨kp, p, []⟩)) (hpr : Val.inr p) (hkp : (kp == 0) = false) (hp0 : p < 0) (hk : (k == 3) = false) (r : ByteArray) (hr : Hid (bs (pieceT s.data.toList (p + (s.size : Int)) (s.size : Int)) = r)) :
    Calls Tryz.prog 95 #[.int .i64 c, .slice (some ⟨b, off, none⟩) 2 cap] w (VRet 2 0 r w) := by
  have hb0 := below_new w (.cells #[.int .i64 0, .int .i64 0, .string ⟨#[]⟩] 25)
  have hS0 : SubR w (w.alloc (.cells #[.int .i64 0, .int .i64 0, .string ⟨#[]⟩] 25)) b off k n t k1 n1 t1 := ⟨V3.new w 0 0 ⟨#[]⟩, h0.on hb0, h1.on hb0, hb0⟩
  obtain ⟨c0, c1, c2, hbl⟩ := hS0.2.1
  have hL0 := hL.alloc (.cells #[.int .i64 0, .int .i64 0, .string ⟨#[]⟩] 25)
  obtain ⟨pr0, pr1⟩ := hpr
  have bp : decide (p < 0) = true := decide_eq_true hp0
  have hwp : wrap64 (p + (s.size : Int)) = p + (s.size : Int) := IntWalk.wrap64_in _ (by omega)
  have hBr : Val.inr (p + (s.size : Int)) := ⟨by omega, by omega⟩
  have hSr : Val.inr (s.size : Int) := ⟨by omega, by omega⟩
  obtain ⟨f, hf⟩ : ∃ f, clipN (p + (s.size : Int)) s.size = f := ⟨_, rfl⟩
  obtain ⟨e2, he2⟩ : ∃ e2, clipN (s.size : Int) s.size = e2 := ⟨_, rfl⟩
  have hel : e2 ≤ s.size := by rw [← he2]; exact clipN_le _ _
  obtain ⟨mn, hmn⟩ : ∃ mn, min f e2 = mn := ⟨_, rfl⟩
  have hmi : min (f : Int) (e2 : Int) = (mn : Int) := by omega
  have hme : mn ≤ e2 := by omega
  have x0 : (0 : Int) ≤ (mn : Int) := by omega
  have x1 : (mn : Int) ≤ (e2 : Int) := by omega
  have x2 : (e2 : Int) ≤ (s.size : Int) := by omega
  have x3 : (0 : Int) ≤ (e2 : Int) := by omega
  have hrs : s.extract mn e2 = r := by
    rw [← bs_of (s.extract mn e2), ← hr.out, Lib.extract_data]
    congr 1
    unfold pieceT
    have hl : s.data.toList.length = s.size := rfl
    rw [hl, hf, he2, hmn]
  have hrz : r.size ≤ 400 := by rw [← hrs]; simp; omega
  have hx : Val.ptext r.data.toList = ⟨2, 0, r.data.toList⟩ := by
    have hl : r.data.toList.length = r.size := rfl
    unfold Val.ptext; rw [if_neg (by omega)]
  replace hx := Lib.hid hx
  replace hrs := Lib.hid hrs
  replace hrz := Lib.hid hrz
  replace hf := Lib.hid hf
  replace he2 := Lib.hid he2
  replace hmn := Lib.hid hmn
  replace hBr := Lib.hid hBr
  replace hSr := Lib.hid hSr
  clear hr
  replace hi := Lib.hid hi
  replace hi1 := Lib.hid hi1
  have hsz := Lib.hid hs
  clear h0 h1 hs
  go_enter Tryz.func95, Tryz.ntmps95
  go_wp2_with (first
    | (go_at_call 83; refine (fbytes_is _ _ _ _ hi.out hL0 _ _ hv).mono ?_; rintro e w1 ⟨rfl, hb1⟩; have hS1 := hS0.on hb1; have hL1 := hL0.below hb1; obtain ⟨d0, d1, d2, hdl⟩ := hS1.2.2.1)
    | (go_at_call 127; (refine (cnum_is _ _ _ _ hL1 _ _ hp).mono ?_; rintro e w2 ⟨rfl, hb2⟩; have hS2 := (hS1.on hb2).on (below_new w2 (.cells #[.int .i64 kp, .int .i64 p, .string ⟨#[]⟩] 25)); have hL2 := (hL1.below hb2).alloc (.cells #[.int .i64 kp, .int .i64 p, .string ⟨#[]⟩] 25); obtain ⟨a0, a1, a2, a3, a4, a5⟩ := hS2.1.cells; obtain ⟨e0, e1, e2', hel'⟩ := hS2.2.1))
    | (go_at_call 140; first | (have hqq := tok1; refine (clip_eq (s.size : Int) s _ hSr.out (by have := hsz.out; omega) _ he2).mono ?_; rintro e wx ⟨rfl, rfl⟩) | (refine (clip_eq (p + (s.size : Int)) s _ hBr.out (by have := hsz.out; omega) _ hf).mono ?_; rintro e wx ⟨rfl, rfl⟩; have tok1 : True := trivial))
    | (go_at_call 86; rw [hrs.out]; refine (ftext_is _ _ _ _ hx).mono ?_; rintro e w9 ⟨rfl, hb9⟩; have hS9 := hS2.on hb9; obtain ⟨v0, v1, v2, v3, v4, v5⟩ := hS9.1.cells))
  exact bodyPost_ret (v := .agg #[.int .i64 2, .int .i64 0, .string r]) (by simp only [results, Tryz.results95]; go_simp) rfl ⟨rfl, below_put hS9.2.2.2 (Nat.le_refl _)⟩
set_option maxHeartbeats 4000000 in
theorem substr3_nst (c : Int) (b off cap : Nat) (k n : Int) (t : ByteArray) (k1 n1 : Int) (t1 : ByteArray) (w : World) (hL : Lits w) (hi : Val.inr n) (hi1 : Val.inr n1) (h0 : VAt w b off k n t) (h1 : VAt w b (off + 3) k1 n1 t1) (s : ByteArray) (hs : s.size ≤ 400) (hv : Hid (Val.pshow ⟨k, n, t.data.toList⟩ = ⟨2, 0, s.data.toList⟩)) (kp p : Int) (hp : Hid (Val.num ⟨k1, n1, t1.data.toList⟩ = ⟨kp, p, []⟩)) (hpr : Val.inr p) (k2 n2 : Int) (t2 : ByteArray) (hi2 : Val.inr n2) (h2 : VAt w b (off + 6) k2 n2 t2) (kq q : Int) (hq : Hid (Val.num ⟨k2, n2, t2.data.toList⟩ = ⟨kq, q, []⟩)) (hqr : Val.inr q) (hkp : (kp == 0) = false) (hp0 : p < 0) (hkq : (kq == 0) = false) (S : Int) (hS : Hid (clampI ((p + (s.size : Int)) + q) = S)) (hsw : S < (p + (s.size : Int))) (hk : (k == 3) = false) (r : ByteArray) (hr : Hid (bs (pieceT s.data.toList S (p + (s.size : Int))) = r)) :
    Calls Tryz.prog 95 #[.int .i64 c, .slice (some ⟨b, off, none⟩) 3 cap] w (VRet 2 0 r w) := by
  have hb0 := below_new w (.cells #[.int .i64 0, .int .i64 0, .string ⟨#[]⟩] 25)
  have hS0 : SubR w (w.alloc (.cells #[.int .i64 0, .int .i64 0, .string ⟨#[]⟩] 25)) b off k n t k1 n1 t1 := ⟨V3.new w 0 0 ⟨#[]⟩, h0.on hb0, h1.on hb0, hb0⟩
  obtain ⟨c0, c1, c2, hbl⟩ := hS0.2.1
  have hL0 := hL.alloc (.cells #[.int .i64 0, .int .i64 0, .string ⟨#[]⟩] 25)
  have g2 := h2.on hb0
  obtain ⟨pr0, pr1⟩ := hpr
  have hqrh := Lib.hid hqr
  clear hqr
  have bp : decide (p < 0) = true := decide_eq_true hp0
  have hwp : wrap64 (p + (s.size : Int)) = p + (s.size : Int) := IntWalk.wrap64_in _ (by omega)
  have hBr : Val.inr (p + (s.size : Int)) := ⟨by omega, by omega⟩
  have hSr : Val.inr S := by rw [← hS.out]; unfold clampI; (split <;> first | exact ⟨by omega, by omega⟩ | (split <;> exact ⟨by omega, by omega⟩))
  have bsw : decide (S < p + (s.size : Int)) = true := decide_eq_true hsw
  obtain ⟨f, hf⟩ : ∃ f, clipN S s.size = f := ⟨_, rfl⟩
  obtain ⟨e2, he2⟩ : ∃ e2, clipN (p + (s.size : Int)) s.size = e2 := ⟨_, rfl⟩
  have hel : e2 ≤ s.size := by rw [← he2]; exact clipN_le _ _
  obtain ⟨mn, hmn⟩ : ∃ mn, min f e2 = mn := ⟨_, rfl⟩
  have hmi : min (f : Int) (e2 : Int) = (mn : Int) := by omega
  have hme : mn ≤ e2 := by omega
  have x0 : (0 : Int) ≤ (mn : Int) := by omega
  have x1 : (mn : Int) ≤ (e2 : Int) := by omega
  have x2 : (e2 : Int) ≤ (s.size : Int) := by omega
  have x3 : (0 : Int) ≤ (e2 : Int) := by omega
  have hrs : s.extract mn e2 = r := by
    rw [← bs_of (s.extract mn e2), ← hr.out, Lib.extract_data]
    congr 1
    unfold pieceT
    have hl : s.data.toList.length = s.size := rfl
    rw [hl, hf, he2, hmn]
  have hrz : r.size ≤ 400 := by rw [← hrs]; simp; omega
  have hx : Val.ptext r.data.toList = ⟨2, 0, r.data.toList⟩ := by
    have hl : r.data.toList.length = r.size := rfl
    unfold Val.ptext; rw [if_neg (by omega)]
  replace hx := Lib.hid hx
  replace hrs := Lib.hid hrs
  replace hrz := Lib.hid hrz
  replace hf := Lib.hid hf
  replace he2 := Lib.hid he2
  replace hmn := Lib.hid hmn
  replace hSr := Lib.hid hSr
  replace hBr := Lib.hid hBr
  clear hr
  replace hi := Lib.hid hi
  replace hi1 := Lib.hid hi1
  have hsz := Lib.hid hs
  replace hi2 := Lib.hid hi2
  clear h0 h1 hs h2
  go_enter Tryz.func95, Tryz.ntmps95
  go_wp2_with (first
    | (go_at_call 83; refine (fbytes_is _ _ _ _ hi.out hL0 _ _ hv).mono ?_; rintro e w1 ⟨rfl, hb1⟩; have hS1 := hS0.on hb1; have hL1 := hL0.below hb1; obtain ⟨d0, d1, d2, hdl⟩ := hS1.2.2.1; have g3 := g2.on hb1)
    | (go_at_call 127; first | (have hqq := hb2; refine (cnum_is _ _ _ _ hL2 _ _ hq).mono ?_; rintro e w3 ⟨rfl, hb3⟩; have hS3 := (hS2.on hb3).on (below_new w3 (.cells #[.int .i64 kq, .int .i64 q, .string ⟨#[]⟩] 25)); obtain ⟨m0, m1, m2, m3, m4, m5⟩ := hS3.1.cells; obtain ⟨u0, u1, u2, hul⟩ := hS3.2.1) | (refine (cnum_is _ _ _ _ hL1 _ _ hp).mono ?_; rintro e w2 ⟨rfl, hb2⟩; have hS2 := (hS1.on hb2).on (below_new w2 (.cells #[.int .i64 kp, .int .i64 p, .string ⟨#[]⟩] 25)); have hL2 := (hL1.below hb2).alloc (.cells #[.int .i64 kp, .int .i64 p, .string ⟨#[]⟩] 25); obtain ⟨a0, a1, a2, a3, a4, a5⟩ := hS2.1.cells; obtain ⟨e0, e1, e2', hel'⟩ := hS2.2.1; obtain ⟨y0, y1, y2, hyl⟩ := (g3.on hb2).on (below_new w2 (.cells #[.int .i64 kp, .int .i64 p, .string ⟨#[]⟩] 25))))
    | (go_at_call 139; refine (sum_eq _ _ _ hBr.out hqrh.out _ hS).mono ?_; rintro e wx ⟨rfl, rfl⟩)
    | (go_at_call 140; first | (have hqq := tok1; refine (clip_eq (p + (s.size : Int)) s _ hBr.out (by have := hsz.out; omega) _ he2).mono ?_; rintro e wx ⟨rfl, rfl⟩) | (refine (clip_eq S s _ hSr.out (by have := hsz.out; omega) _ hf).mono ?_; rintro e wx ⟨rfl, rfl⟩; have tok1 : True := trivial))
    | (go_at_call 86; rw [hrs.out]; refine (ftext_is _ _ _ _ hx).mono ?_; rintro e w9 ⟨rfl, hb9⟩; have hS9 := hS3.on hb9; obtain ⟨v0, v1, v2, v3, v4, v5⟩ := hS9.1.cells))
  exact bodyPost_ret (v := .agg #[.int .i64 2, .int .i64 0, .string r]) (by simp only [results, Tryz.results95]; go_simp) rfl ⟨rfl, below_put hS9.2.2.2 (Nat.le_refl _)⟩
set_option maxHeartbeats 4000000 in
theorem substr3_nkt (c : Int) (b off cap : Nat) (k n : Int) (t : ByteArray) (k1 n1 : Int) (t1 : ByteArray) (w : World) (hL : Lits w) (hi : Val.inr n) (hi1 : Val.inr n1) (h0 : VAt w b off k n t) (h1 : VAt w b (off + 3) k1 n1 t1) (s : ByteArray) (hs : s.size ≤ 400) (hv : Hid (Val.pshow ⟨k, n, t.data.toList⟩ = ⟨2, 0, s.data.toList⟩)) (kp p : Int) (hp : Hid (Val.num ⟨k1, n1, t1.data.toList⟩ = ⟨kp, p, []⟩)) (hpr : Val.inr p) (k2 n2 : Int) (t2 : ByteArray) (hi2 : Val.inr n2) (h2 : VAt w b (off + 6) k2 n2 t2) (kq q : Int) (hq : Hid (Val.num ⟨k2, n2, t2.data.toList⟩ = ⟨kq, q, []⟩)) (hqr : Val.inr q) (hkp : (kp == 0) = false) (hp0 : p < 0) (hkq : (kq == 0) = false) (S : Int) (hS : Hid (clampI ((p + (s.size : Int)) + q) = S)) (hsw : ¬ S < (p + (s.size : Int))) (hk : (k == 3) = false) (r : ByteArray) (hr : Hid (bs (pieceT s.data.toList (p + (s.size : Int)) S) = r)) :
    Calls Tryz.prog 95 #[.int .i64 c, .slice (some ⟨b, off, none⟩) 3 cap] w (VRet 2 0 r w) := by
  have hb0 := below_new w (.cells #[.int .i64 0, .int .i64 0, .string ⟨#[]⟩] 25)
  have hS0 : SubR w (w.alloc (.cells #[.int .i64 0, .int .i64 0, .string ⟨#[]⟩] 25)) b off k n t k1 n1 t1 := ⟨V3.new w 0 0 ⟨#[]⟩, h0.on hb0, h1.on hb0, hb0⟩
  obtain ⟨c0, c1, c2, hbl⟩ := hS0.2.1
  have hL0 := hL.alloc (.cells #[.int .i64 0, .int .i64 0, .string ⟨#[]⟩] 25)
  have g2 := h2.on hb0
  obtain ⟨pr0, pr1⟩ := hpr
  have hqrh := Lib.hid hqr
  clear hqr
  have bp : decide (p < 0) = true := decide_eq_true hp0
  have hwp : wrap64 (p + (s.size : Int)) = p + (s.size : Int) := IntWalk.wrap64_in _ (by omega)
  have hBr : Val.inr (p + (s.size : Int)) := ⟨by omega, by omega⟩
  have hSr : Val.inr S := by rw [← hS.out]; unfold clampI; (split <;> first | exact ⟨by omega, by omega⟩ | (split <;> exact ⟨by omega, by omega⟩))
  have bsw : decide (S < p + (s.size : Int)) = false := decide_eq_false hsw
  obtain ⟨f, hf⟩ : ∃ f, clipN (p + (s.size : Int)) s.size = f := ⟨_, rfl⟩
  obtain ⟨e2, he2⟩ : ∃ e2, clipN S s.size = e2 := ⟨_, rfl⟩
  have hel : e2 ≤ s.size := by rw [← he2]; exact clipN_le _ _
  obtain ⟨mn, hmn⟩ : ∃ mn, min f e2 = mn := ⟨_, rfl⟩
  have hmi : min (f : Int) (e2 : Int) = (mn : Int) := by omega
  have hme : mn ≤ e2 := by omega
  have x0 : (0 : Int) ≤ (mn : Int) := by omega
  have x1 : (mn : Int) ≤ (e2 : Int) := by omega
  have x2 : (e2 : Int) ≤ (s.size : Int) := by omega
  have x3 : (0 : Int) ≤ (e2 : Int) := by omega
  have hrs : s.extract mn e2 = r := by
    rw [← bs_of (s.extract mn e2), ← hr.out, Lib.extract_data]
    congr 1
    unfold pieceT
    have hl : s.data.toList.length = s.size := rfl
    rw [hl, hf, he2, hmn]
  have hrz : r.size ≤ 400 := by rw [← hrs]; simp; omega
  have hx : Val.ptext r.data.toList = ⟨2, 0, r.data.toList⟩ := by
    have hl : r.data.toList.length = r.size := rfl
    unfold Val.ptext; rw [if_neg (by omega)]
  replace hx := Lib.hid hx
  replace hrs := Lib.hid hrs
  replace hrz := Lib.hid hrz
  replace hf := Lib.hid hf
  replace he2 := Lib.hid he2
  replace hmn := Lib.hid hmn
  replace hBr := Lib.hid hBr
  replace hSr := Lib.hid hSr
  clear hr
  replace hi := Lib.hid hi
  replace hi1 := Lib.hid hi1
  have hsz := Lib.hid hs
  replace hi2 := Lib.hid hi2
  clear h0 h1 hs h2
  go_enter Tryz.func95, Tryz.ntmps95
  go_wp2_with (first
    | (go_at_call 83; refine (fbytes_is _ _ _ _ hi.out hL0 _ _ hv).mono ?_; rintro e w1 ⟨rfl, hb1⟩; have hS1 := hS0.on hb1; have hL1 := hL0.below hb1; obtain ⟨d0, d1, d2, hdl⟩ := hS1.2.2.1; have g3 := g2.on hb1)
    | (go_at_call 127; first | (have hqq := hb2; refine (cnum_is _ _ _ _ hL2 _ _ hq).mono ?_; rintro e w3 ⟨rfl, hb3⟩; have hS3 := (hS2.on hb3).on (below_new w3 (.cells #[.int .i64 kq, .int .i64 q, .string ⟨#[]⟩] 25)); obtain ⟨m0, m1, m2, m3, m4, m5⟩ := hS3.1.cells; obtain ⟨u0, u1, u2, hul⟩ := hS3.2.1) | (refine (cnum_is _ _ _ _ hL1 _ _ hp).mono ?_; rintro e w2 ⟨rfl, hb2⟩; have hS2 := (hS1.on hb2).on (below_new w2 (.cells #[.int .i64 kp, .int .i64 p, .string ⟨#[]⟩] 25)); have hL2 := (hL1.below hb2).alloc (.cells #[.int .i64 kp, .int .i64 p, .string ⟨#[]⟩] 25); obtain ⟨a0, a1, a2, a3, a4, a5⟩ := hS2.1.cells; obtain ⟨e0, e1, e2', hel'⟩ := hS2.2.1; obtain ⟨y0, y1, y2, hyl⟩ := (g3.on hb2).on (below_new w2 (.cells #[.int .i64 kp, .int .i64 p, .string ⟨#[]⟩] 25))))
    | (go_at_call 139; refine (sum_eq _ _ _ hBr.out hqrh.out _ hS).mono ?_; rintro e wx ⟨rfl, rfl⟩)
    | (go_at_call 140; first | (have hqq := tok1; refine (clip_eq S s _ hSr.out (by have := hsz.out; omega) _ he2).mono ?_; rintro e wx ⟨rfl, rfl⟩) | (refine (clip_eq (p + (s.size : Int)) s _ hBr.out (by have := hsz.out; omega) _ hf).mono ?_; rintro e wx ⟨rfl, rfl⟩; have tok1 : True := trivial))
    | (go_at_call 86; rw [hrs.out]; refine (ftext_is _ _ _ _ hx).mono ?_; rintro e w9 ⟨rfl, hb9⟩; have hS9 := hS3.on hb9; obtain ⟨v0, v1, v2, v3, v4, v5⟩ := hS9.1.cells))
  exact bodyPost_ret (v := .agg #[.int .i64 2, .int .i64 0, .string r]) (by simp only [results, Tryz.results95]; go_simp) rfl ⟨rfl, below_put hS9.2.2.2 (Nat.le_refl _)⟩
set_option maxHeartbeats 4000000 in
theorem substr3_p_null (c : Int) (b off cap : Nat) (k n : Int) (t : ByteArray) (k1 n1 : Int) (t1 : ByteArray) (w : World) (hL : Lits w) (hi : Val.inr n) (hi1 : Val.inr n1) (h0 : VAt w b off k n t) (h1 : VAt w b (off + 3) k1 n1 t1) (s : ByteArray) (hs : s.size ≤ 400) (hv : Hid (Val.pshow ⟨k, n, t.data.toList⟩ = ⟨2, 0, s.data.toList⟩)) (kp p : Int) (hp : Hid (Val.num ⟨k1, n1, t1.data.toList⟩ = ⟨kp, p, []⟩)) (hpr : Val.inr p) (k2 n2 : Int) (t2 : ByteArray) (hi2 : Val.inr n2) (h2 : VAt w b (off + 6) k2 n2 t2) (kq q : Int) (hq : Hid (Val.num ⟨k2, n2, t2.data.toList⟩ = ⟨kq, q, []⟩)) (hqr : Val.inr q) (hkp : (kp == 0) = false) (hp0 : ¬ p < 0) (hkq : (kq == 0) = true) :
    Calls Tryz.prog 95 #[.int .i64 c, .slice (some ⟨b, off, none⟩) 3 cap] w (VRet kq q ⟨#[]⟩ w) := by
  have hb0 := below_new w (.cells #[.int .i64 0, .int .i64 0, .string ⟨#[]⟩] 25)
  have hS0 : SubR w (w.alloc (.cells #[.int .i64 0, .int .i64 0, .string ⟨#[]⟩] 25)) b off k n t k1 n1 t1 := ⟨V3.new w 0 0 ⟨#[]⟩, h0.on hb0, h1.on hb0, hb0⟩
  obtain ⟨c0, c1, c2, hbl⟩ := hS0.2.1
  have hL0 := hL.alloc (.cells #[.int .i64 0, .int .i64 0, .string ⟨#[]⟩] 25)
  have g2 := h2.on hb0
  obtain ⟨pr0, pr1⟩ := hpr
  have hqrh := Lib.hid hqr
  clear hqr
  have bp : decide (p < 0) = false := decide_eq_false hp0
  have bp0 : 0 ≤ p := by omega
  have hwp : wrap64 (p - 1) = p - 1 := IntWalk.wrap64_in _ (by omega)
  replace hi := Lib.hid hi
  replace hi1 := Lib.hid hi1
  have hsz := Lib.hid hs
  replace hi2 := Lib.hid hi2
  clear h0 h1 hs h2
  go_enter Tryz.func95, Tryz.ntmps95
  go_wp2_with (first
    | (go_at_call 83; refine (fbytes_is _ _ _ _ hi.out hL0 _ _ hv).mono ?_; rintro e w1 ⟨rfl, hb1⟩; have hS1 := hS0.on hb1; have hL1 := hL0.below hb1; obtain ⟨d0, d1, d2, hdl⟩ := hS1.2.2.1; have g3 := g2.on hb1)
    | (go_at_call 127; first | (have hqq := hb2; refine (cnum_is _ _ _ _ hL2 _ _ hq).mono ?_; rintro e w3 ⟨rfl, hb3⟩; have hS3 := (hS2.on hb3).on (below_new w3 (.cells #[.int .i64 kq, .int .i64 q, .string ⟨#[]⟩] 25)); obtain ⟨m0, m1, m2, m3, m4, m5⟩ := hS3.1.cells; obtain ⟨u0, u1, u2, hul⟩ := hS3.2.1) | (refine (cnum_is _ _ _ _ hL1 _ _ hp).mono ?_; rintro e w2 ⟨rfl, hb2⟩; have hS2 := (hS1.on hb2).on (below_new w2 (.cells #[.int .i64 kp, .int .i64 p, .string ⟨#[]⟩] 25)); have hL2 := (hL1.below hb2).alloc (.cells #[.int .i64 kp, .int .i64 p, .string ⟨#[]⟩] 25); obtain ⟨a0, a1, a2, a3, a4, a5⟩ := hS2.1.cells; obtain ⟨e0, e1, e2', hel'⟩ := hS2.2.1; obtain ⟨y0, y1, y2, hyl⟩ := (g3.on hb2).on (below_new w2 (.cells #[.int .i64 kp, .int .i64 p, .string ⟨#[]⟩] 25)))))
  exact bodyPost_ret (v := .agg #[.int .i64 kq, .int .i64 q, .string ⟨#[]⟩]) (by simp only [results, Tryz.results95]; go_simp) rfl ⟨rfl, below_put hS3.2.2.2 (Nat.le_refl _)⟩
set_option maxHeartbeats 4000000 in
theorem substr2_pb (c : Int) (b off cap : Nat) (k n : Int) (t : ByteArray) (k1 n1 : Int) (t1 : ByteArray) (w : World) (hL : Lits w) (hi : Val.inr n) (hi1 : Val.inr n1) (h0 : VAt w b off k n t) (h1 : VAt w b (off + 3) k1 n1 t1) (s : ByteArray) (hs : s.size ≤ 400) (hv : Hid (Val.pshow ⟨k, n, t.data.toList⟩ = ⟨2, 0, s.data.toList⟩)) (kp p : Int) (hp : Hid (Val.num ⟨k1, n1, t1.data.toList⟩ = ⟨kp, p, []⟩)) (hpr : Val.inr p) (hkp : (kp == 0) = false) (hp0 : ¬ p < 0) (hk : (k == 3) = true) (r : ByteArray) (hr : Hid (bs (pieceT s.data.toList (p - 1) (s.size : Int)) = r)) :
    Calls Tryz.prog 95 #[.int .i64 c, .slice (some ⟨b, off, none⟩) 2 cap] w (VRet 3 0 r w) := by
  have hb0 := below_new w (.cells #[.int .i64 0, .int .i64 0, .string ⟨#[]⟩] 25)
  have hS0 : SubR w (w.alloc (.cells #[.int .i64 0, .int .i64 0, .string ⟨#[]⟩] 25)) b off k n t k1 n1 t1 := ⟨V3.new w 0 0 ⟨#[]⟩, h0.on hb0, h1.on hb0, hb0⟩
  obtain ⟨c0, c1, c2, hbl⟩ := hS0.2.1
  have hL0 := hL.alloc (.cells #[.int .i64 0, .int .i64 0, .string ⟨#[]⟩] 25)
  obtain ⟨pr0, pr1⟩ := hpr
  have bp : decide (p < 0) = false := decide_eq_false hp0
  have bp0 : 0 ≤ p := by omega
  have hwp : wrap64 (p - 1) = p - 1 := IntWalk.wrap64_in _ (by omega)
  have hBr : Val.inr (p - 1) := ⟨by omega, by omega⟩
  have hSr : Val.inr (s.size : Int) := ⟨by omega, by omega⟩
  obtain ⟨f, hf⟩ : ∃ f, clipN (p - 1) s.size = f := ⟨_, rfl⟩
  obtain ⟨e2, he2⟩ : ∃ e2, clipN (s.size : Int) s.size = e2 := ⟨_, rfl⟩
  have hel : e2 ≤ s.size := by rw [← he2]; exact clipN_le _ _
  obtain ⟨mn, hmn⟩ : ∃ mn, min f e2 = mn := ⟨_, rfl⟩
  have hmi : min (f : Int) (e2 : Int) = (mn : Int) := by omega
  have hme : mn ≤ e2 := by omega
  have x0 : (0 : Int) ≤ (mn : Int) := by omega
  have x1 : (mn : Int) ≤ (e2 : Int) := by omega
  have x2 : (e2 : Int) ≤ (s.size : Int) := by omega
  have x3 : (0 : Int) ≤ (e2 : Int) := by omega
  have hrs : s.extract mn e2 = r := by
    rw [← bs_of (s.extract mn e2), ← hr.out, Lib.extract_data]
    congr 1
    unfold pieceT
    have hl : s.data.toList.length = s.size := rfl
    rw [hl, hf, he2, hmn]
  have hrz : r.size ≤ 400 := by rw [← hrs]; simp; omega
  have hx : Val.ptext r.data.toList = ⟨2, 0, r.data.toList⟩ := by
    have hl : r.data.toList.length = r.size := rfl
    unfold Val.ptext; rw [if_neg (by omega)]
  replace hx := Lib.hid hx
  replace hrs := Lib.hid hrs
  replace hrz := Lib.hid hrz
  replace hf := Lib.hid hf
  replace he2 := Lib.hid he2
  replace hmn := Lib.hid hmn
  replace hBr := Lib.hid hBr
  replace hSr := Lib.hid hSr
  clear hr
  replace hi := Lib.hid hi
  replace hi1 := Lib.hid hi1
  have hsz := Lib.hid hs
  clear h0 h1 hs
  go_enter Tryz.func95, Tryz.ntmps95
  go_wp2_with (first
    | (go_at_call 83; refine (fbytes_is _ _ _ _ hi.out hL0 _ _ hv).mono ?_; rintro e w1 ⟨rfl, hb1⟩; have hS1 := hS0.on hb1; have hL1 := hL0.below hb1; obtain ⟨d0, d1, d2, hdl⟩ := hS1.2.2.1)
    | (go_at_call 127; (refine (cnum_is _ _ _ _ hL1 _ _ hp).mono ?_; rintro e w2 ⟨rfl, hb2⟩; have hS2 := (hS1.on hb2).on (below_new w2 (.cells #[.int .i64 kp, .int .i64 p, .string ⟨#[]⟩] 25)); have hL2 := (hL1.below hb2).alloc (.cells #[.int .i64 kp, .int .i64 p, .string ⟨#[]⟩] 25); obtain ⟨a0, a1, a2, a3, a4, a5⟩ := hS2.1.cells; obtain ⟨e0, e1, e2', hel'⟩ := hS2.2.1))
    | (go_at_call 140; first | (have hqq := tok1; refine (clip_eq (s.size : Int) s _ hSr.out (by have := hsz.out; omega) _ he2).mono ?_; rintro e wx ⟨rfl, rfl⟩) | (refine (clip_eq (p - 1) s _ hBr.out (by have := hsz.out; omega) _ hf).mono ?_; rintro e wx ⟨rfl, rfl⟩; have tok1 : True := trivial))
    | (go_at_call 141; rw [hrs.out]; refine (vblob_ok _ _ hrz.out).mono ?_; rintro e w9 ⟨rfl, hb9⟩; have hS9 := (hS2.on hb9).on (below_new w9 (.cells #[.int .i64 3, .int .i64 0, .string r] 25)); obtain ⟨v0, v1, v2, v3, v4, v5⟩ := hS9.1.cells))
  exact bodyPost_ret (v := .agg #[.int .i64 3, .int .i64 0, .string r]) (by simp only [results, Tryz.results95]; go_simp) rfl ⟨rfl, below_put hS9.2.2.2 (Nat.le_refl _)⟩
set_option maxHeartbeats 4000000 in
theorem substr3_psb (c : Int) (b off cap : Nat) (k n : Int) (t : ByteArray) (k1 n1 : Int) (t1 : ByteArray) (w : World) (hL : Lits w) (hi : Val.inr n) (hi1 : Val.inr n1) (h0 : VAt w b off k n t) (h1 : VAt w b (off + 3) k1 n1 t1) (s : ByteArray) (hs : s.size ≤ 400) (hv : Hid (Val.pshow ⟨k, n, t.data.toList⟩ = ⟨2, 0, s.data.toList⟩)) (kp p : Int) (hp : Hid (Val.num ⟨k1, n1, t1.data.toList⟩ = ⟨kp, p, []⟩)) (hpr : Val.inr p) (k2 n2 : Int) (t2 : ByteArray) (hi2 : Val.inr n2) (h2 : VAt w b (off + 6) k2 n2 t2) (kq q : Int) (hq : Hid (Val.num ⟨k2, n2, t2.data.toList⟩ = ⟨kq, q, []⟩)) (hqr : Val.inr q) (hkp : (kp == 0) = false) (hp0 : ¬ p < 0) (hkq : (kq == 0) = false) (S : Int) (hS : Hid (clampI ((p - 1) + q) = S)) (hsw : S < (p - 1)) (hk : (k == 3) = true) (r : ByteArray) (hr : Hid (bs (pieceT s.data.toList S (p - 1)) = r)) :
    Calls Tryz.prog 95 #[.int .i64 c, .slice (some ⟨b, off, none⟩) 3 cap] w (VRet 3 0 r w) := by
  have hb0 := below_new w (.cells #[.int .i64 0, .int .i64 0, .string ⟨#[]⟩] 25)
  have hS0 : SubR w (w.alloc (.cells #[.int .i64 0, .int .i64 0, .string ⟨#[]⟩] 25)) b off k n t k1 n1 t1 := ⟨V3.new w 0 0 ⟨#[]⟩, h0.on hb0, h1.on hb0, hb0⟩
  obtain ⟨c0, c1, c2, hbl⟩ := hS0.2.1
  have hL0 := hL.alloc (.cells #[.int .i64 0, .int .i64 0, .string ⟨#[]⟩] 25)
  have g2 := h2.on hb0
  obtain ⟨pr0, pr1⟩ := hpr
  have hqrh := Lib.hid hqr
  clear hqr
  have bp : decide (p < 0) = false := decide_eq_false hp0
  have bp0 : 0 ≤ p := by omega
  have hwp : wrap64 (p - 1) = p - 1 := IntWalk.wrap64_in _ (by omega)
  have hBr : Val.inr (p - 1) := ⟨by omega, by omega⟩
  have hSr : Val.inr S := by rw [← hS.out]; unfold clampI; (split <;> first | exact ⟨by omega, by omega⟩ | (split <;> exact ⟨by omega, by omega⟩))
  have bsw : decide (S < p - 1) = true := decide_eq_true hsw
  obtain ⟨f, hf⟩ : ∃ f, clipN S s.size = f := ⟨_, rfl⟩
  obtain ⟨e2, he2⟩ : ∃ e2, clipN (p - 1) s.size = e2 := ⟨_, rfl⟩
  have hel : e2 ≤ s.size := by rw [← he2]; exact clipN_le _ _
  obtain ⟨mn, hmn⟩ : ∃ mn, min f e2 = mn := ⟨_, rfl⟩
  have hmi : min (f : Int) (e2 : Int) = (mn : Int) := by omega
  have hme : mn ≤ e2 := by omega
  have x0 : (0 : Int) ≤ (mn : Int) := by omega
  have x1 : (mn : Int) ≤ (e2 : Int) := by omega
  have x2 : (e2 : Int) ≤ (s.size : Int) := by omega
  have x3 : (0 : Int) ≤ (e2 : Int) := by omega
  have hrs : s.extract mn e2 = r := by
    rw [← bs_of (s.extract mn e2), ← hr.out, Lib.extract_data]
    congr 1
    unfold pieceT
    have hl : s.data.toList.length = s.size := rfl
    rw [hl, hf, he2, hmn]
  have hrz : r.size ≤ 400 := by rw [← hrs]; simp; omega
  have hx : Val.ptext r.data.toList = ⟨2, 0, r.data.toList⟩ := by
    have hl : r.data.toList.length = r.size := rfl
    unfold Val.ptext; rw [if_neg (by omega)]
  replace hx := Lib.hid hx
  replace hrs := Lib.hid hrs
  replace hrz := Lib.hid hrz
  replace hf := Lib.hid hf
  replace he2 := Lib.hid he2
  replace hmn := Lib.hid hmn
  replace hSr := Lib.hid hSr
  replace hBr := Lib.hid hBr
  clear hr
  replace hi := Lib.hid hi
  replace hi1 := Lib.hid hi1
  have hsz := Lib.hid hs
  replace hi2 := Lib.hid hi2
  clear h0 h1 hs h2
  go_enter Tryz.func95, Tryz.ntmps95
  go_wp2_with (first
    | (go_at_call 83; refine (fbytes_is _ _ _ _ hi.out hL0 _ _ hv).mono ?_; rintro e w1 ⟨rfl, hb1⟩; have hS1 := hS0.on hb1; have hL1 := hL0.below hb1; obtain ⟨d0, d1, d2, hdl⟩ := hS1.2.2.1; have g3 := g2.on hb1)
    | (go_at_call 127; first | (have hqq := hb2; refine (cnum_is _ _ _ _ hL2 _ _ hq).mono ?_; rintro e w3 ⟨rfl, hb3⟩; have hS3 := (hS2.on hb3).on (below_new w3 (.cells #[.int .i64 kq, .int .i64 q, .string ⟨#[]⟩] 25)); obtain ⟨m0, m1, m2, m3, m4, m5⟩ := hS3.1.cells; obtain ⟨u0, u1, u2, hul⟩ := hS3.2.1) | (refine (cnum_is _ _ _ _ hL1 _ _ hp).mono ?_; rintro e w2 ⟨rfl, hb2⟩; have hS2 := (hS1.on hb2).on (below_new w2 (.cells #[.int .i64 kp, .int .i64 p, .string ⟨#[]⟩] 25)); have hL2 := (hL1.below hb2).alloc (.cells #[.int .i64 kp, .int .i64 p, .string ⟨#[]⟩] 25); obtain ⟨a0, a1, a2, a3, a4, a5⟩ := hS2.1.cells; obtain ⟨e0, e1, e2', hel'⟩ := hS2.2.1; obtain ⟨y0, y1, y2, hyl⟩ := (g3.on hb2).on (below_new w2 (.cells #[.int .i64 kp, .int .i64 p, .string ⟨#[]⟩] 25))))
    | (go_at_call 139; refine (sum_eq _ _ _ hBr.out hqrh.out _ hS).mono ?_; rintro e wx ⟨rfl, rfl⟩)
    | (go_at_call 140; first | (have hqq := tok1; refine (clip_eq (p - 1) s _ hBr.out (by have := hsz.out; omega) _ he2).mono ?_; rintro e wx ⟨rfl, rfl⟩) | (refine (clip_eq S s _ hSr.out (by have := hsz.out; omega) _ hf).mono ?_; rintro e wx ⟨rfl, rfl⟩; have tok1 : True := trivial))
    | (go_at_call 141; rw [hrs.out]; refine (vblob_ok _ _ hrz.out).mono ?_; rintro e w9 ⟨rfl, hb9⟩; have hS9 := (hS3.on hb9).on (below_new w9 (.cells #[.int .i64 3, .int .i64 0, .string r] 25)); obtain ⟨v0, v1, v2, v3, v4, v5⟩ := hS9.1.cells))
  exact bodyPost_ret (v := .agg #[.int .i64 3, .int .i64 0, .string r]) (by simp only [results, Tryz.results95]; go_simp) rfl ⟨rfl, below_put hS9.2.2.2 (Nat.le_refl _)⟩
set_option maxHeartbeats 4000000 in
theorem substr3_pkb (c : Int) (b off cap : Nat) (k n : Int) (t : ByteArray) (k1 n1 : Int) (t1 : ByteArray) (w : World) (hL : Lits w) (hi : Val.inr n) (hi1 : Val.inr n1) (h0 : VAt w b off k n t) (h1 : VAt w b (off + 3) k1 n1 t1) (s : ByteArray) (hs : s.size ≤ 400) (hv : Hid (Val.pshow ⟨k, n, t.data.toList⟩ = ⟨2, 0, s.data.toList⟩)) (kp p : Int) (hp : Hid (Val.num ⟨k1, n1, t1.data.toList⟩ = ⟨kp, p, []⟩)) (hpr : Val.inr p) (k2 n2 : Int) (t2 : ByteArray) (hi2 : Val.inr n2) (h2 : VAt w b (off + 6) k2 n2 t2) (kq q : Int) (hq : Hid (Val.num ⟨k2, n2, t2.data.toList⟩ = ⟨kq, q, []⟩)) (hqr : Val.inr q) (hkp : (kp == 0) = false) (hp0 : ¬ p < 0) (hkq : (kq == 0) = false) (S : Int) (hS : Hid (clampI ((p - 1) + q) = S)) (hsw : ¬ S < (p - 1)) (hk : (k == 3) = true) (r : ByteArray) (hr : Hid (bs (pieceT s.data.toList (p - 1) S) = r)) :
    Calls Tryz.prog 95 #[.int .i64 c, .slice (some ⟨b, off, none⟩) 3 cap] w (VRet 3 0 r w) := by
  have hb0 := below_new w (.cells #[.int .i64 0, .int .i64 0, .string ⟨#[]⟩] 25)
  have hS0 : SubR w (w.alloc (.cells #[.int .i64 0, .int .i64 0, .string ⟨#[]⟩] 25)) b off k n t k1 n1 t1 := ⟨V3.new w 0 0 ⟨#[]⟩, h0.on hb0, h1.on hb0, hb0⟩
  obtain ⟨c0, c1, c2, hbl⟩ := hS0.2.1
  have hL0 := hL.alloc (.cells #[.int .i64 0, .int .i64 0, .string ⟨#[]⟩] 25)
  have g2 := h2.on hb0
  obtain ⟨pr0, pr1⟩ := hpr
  have hqrh := Lib.hid hqr
  clear hqr
  have bp : decide (p < 0) = false := decide_eq_false hp0
  have bp0 : 0 ≤ p := by omega
  have hwp : wrap64 (p - 1) = p - 1 := IntWalk.wrap64_in _ (by omega)
  have hBr : Val.inr (p - 1) := ⟨by omega, by omega⟩
  have hSr : Val.inr S := by rw [← hS.out]; unfold clampI; (split <;> first | exact ⟨by omega, by omega⟩ | (split <;> exact ⟨by omega, by omega⟩))
  have bsw : decide (S < p - 1) = false := decide_eq_false hsw
  obtain ⟨f, hf⟩ : ∃ f, clipN (p - 1) s.size = f := ⟨_, rfl⟩
  obtain ⟨e2, he2⟩ : ∃ e2, clipN S s.size = e2 := ⟨_, rfl⟩
  have hel : e2 ≤ s.size := by rw [← he2]; exact clipN_le _ _
  obtain ⟨mn, hmn⟩ : ∃ mn, min f e2 = mn := ⟨_, rfl⟩
  have hmi : min (f : Int) (e2 : Int) = (mn : Int) := by omega
  have hme : mn ≤ e2 := by omega
  have x0 : (0 : Int) ≤ (mn : Int) := by omega
  have x1 : (mn : Int) ≤ (e2 : Int) := by omega
  have x2 : (e2 : Int) ≤ (s.size : Int) := by omega
  have x3 : (0 : Int) ≤ (e2 : Int) := by omega
  have hrs : s.extract mn e2 = r := by
    rw [← bs_of (s.extract mn e2), ← hr.out, Lib.extract_data]
    congr 1
    unfold pieceT
    have hl : s.data.toList.length = s.size := rfl
    rw [hl, hf, he2, hmn]
  have hrz : r.size ≤ 400 := by rw [← hrs]; simp; omega
  have hx : Val.ptext r.data.toList = ⟨2, 0, r.data.toList⟩ := by
    have hl : r.data.toList.length = r.size := rfl
    unfold Val.ptext; rw [if_neg (by omega)]
  replace hx := Lib.hid hx
  replace hrs := Lib.hid hrs
  replace hrz := Lib.hid hrz
  replace hf := Lib.hid hf
  replace he2 := Lib.hid he2
  replace hmn := Lib.hid hmn
  replace hBr := Lib.hid hBr
  replace hSr := Lib.hid hSr
  clear hr
  replace hi := Lib.hid hi
  replace hi1 := Lib.hid hi1
  have hsz := Lib.hid hs
  replace hi2 := Lib.hid hi2
  clear h0 h1 hs h2
  go_enter Tryz.func95, Tryz.ntmps95
  go_wp2_with (first
    | (go_at_call 83; refine (fbytes_is _ _ _ _ hi.out hL0 _ _ hv).mono ?_; rintro e w1 ⟨rfl, hb1⟩; have hS1 := hS0.on hb1; have hL1 := hL0.below hb1; obtain ⟨d0, d1, d2, hdl⟩ := hS1.2.2.1; have g3 := g2.on hb1)
    | (go_at_call 127; first | (have hqq := hb2; refine (cnum_is _ _ _ _ hL2 _ _ hq).mono ?_; rintro e w3 ⟨rfl, hb3⟩; have hS3 := (hS2.on hb3).on (below_new w3 (.cells #[.int .i64 kq, .int .i64 q, .string ⟨#[]⟩] 25)); obtain ⟨m0, m1, m2, m3, m4, m5⟩ := hS3.1.cells; obtain ⟨u0, u1, u2, hul⟩ := hS3.2.1) | (refine (cnum_is _ _ _ _ hL1 _ _ hp).mono ?_; rintro e w2 ⟨rfl, hb2⟩; have hS2 := (hS1.on hb2).on (below_new w2 (.cells #[.int .i64 kp, .int .i64 p, .string ⟨#[]⟩] 25)); have hL2 := (hL1.below hb2).alloc (.cells #[.int .i64 kp, .int .i64 p, .string ⟨#[]⟩] 25); obtain ⟨a0, a1, a2, a3, a4, a5⟩ := hS2.1.cells; obtain ⟨e0, e1, e2', hel'⟩ := hS2.2.1; obtain ⟨y0, y1, y2, hyl⟩ := (g3.on hb2).on (below_new w2 (.cells #[.int .i64 kp, .int .i64 p, .string ⟨#[]⟩] 25))))
    | (go_at_call 139; refine (sum_eq _ _ _ hBr.out hqrh.out _ hS).mono ?_; rintro e wx ⟨rfl, rfl⟩)
    | (go_at_call 140; first | (have hqq := tok1; refine (clip_eq S s _ hSr.out (by have := hsz.out; omega) _ he2).mono ?_; rintro e wx ⟨rfl, rfl⟩) | (refine (clip_eq (p - 1) s _ hBr.out (by have := hsz.out; omega) _ hf).mono ?_; rintro e wx ⟨rfl, rfl⟩; have tok1 : True := trivial))
    | (go_at_call 141; rw [hrs.out]; refine (vblob_ok _ _ hrz.out).mono ?_; rintro e w9 ⟨rfl, hb9⟩; have hS9 := (hS3.on hb9).on (below_new w9 (.cells #[.int .i64 3, .int .i64 0, .string r] 25)); obtain ⟨v0, v1, v2, v3, v4, v5⟩ := hS9.1.cells))
  exact bodyPost_ret (v := .agg #[.int .i64 3, .int .i64 0, .string r]) (by simp only [results, Tryz.results95]; go_simp) rfl ⟨rfl, below_put hS9.2.2.2 (Nat.le_refl _)⟩
set_option maxHeartbeats 4000000 in
theorem substr2_pt (c : Int) (b off cap : Nat) (k n : Int) (t : ByteArray) (k1 n1 : Int) (t1 : ByteArray) (w : World) (hL : Lits w) (hi : Val.inr n) (hi1 : Val.inr n1) (h0 : VAt w b off k n t) (h1 : VAt w b (off + 3) k1 n1 t1) (s : ByteArray) (hs : s.size ≤ 400) (hv : Hid (Val.pshow ⟨k, n, t.data.toList⟩ = ⟨2, 0, s.data.toList⟩)) (kp p : Int) (hp : Hid (Val.num ⟨k1, n1, t1.data.toList⟩ = ⟨kp, p, []⟩)) (hpr : Val.inr p) (hkp : (kp == 0) = false) (hp0 : ¬ p < 0) (hk : (k == 3) = false) (r : ByteArray) (hr : Hid (bs (pieceT s.data.toList (p - 1) (s.size : Int)) = r)) :
    Calls Tryz.prog 95 #[.int .i64 c, .slice (some ⟨b, off, none⟩) 2 cap] w (VRet 2 0 r w) := by
  have hb0 := below_new w (.cells #[.int .i64 0, .int .i64 0, .string ⟨#[]⟩] 25)
  have hS0 : SubR w (w.alloc (.cells #[.int .i64 0, .int .i64 0, .string ⟨#[]⟩] 25)) b off k n t k1 n1 t1 := ⟨V3.new w 0 0 ⟨#[]⟩, h0.on hb0, h1.on hb0, hb0⟩
  obtain ⟨c0, c1, c2, hbl⟩ := hS0.2.1
  have hL0 := hL.alloc (.cells #[.int .i64 0, .int .i64 0, .string ⟨#[]⟩] 25)
  obtain ⟨pr0, pr1⟩ := hpr
  have bp : decide (p < 0) = false := decide_eq_false hp0
  have bp0 : 0 ≤ p := by omega
  have hwp : wrap64 (p - 1) = p - 1 := IntWalk.wrap64_in _ (by omega)
  have hBr : Val.inr (p - 1) := ⟨by omega, by omega⟩
  have hSr : Val.inr (s.size : Int) := ⟨by omega, by omega⟩
  obtain ⟨f, hf⟩ : ∃ f, clipN (p - 1) s.size = f := ⟨_, rfl⟩
  obtain ⟨e2, he2⟩ : ∃ e2, clipN (s.size : Int) s.size = e2 := ⟨_, rfl⟩
  have hel : e2 ≤ s.size := by rw [← he2]; exact clipN_le _ _
  obtain ⟨mn, hmn⟩ : ∃ mn, min f e2 = mn := ⟨_, rfl⟩
  have hmi : min (f : Int) (e2 : Int) = (mn : Int) := by omega
  have hme : mn ≤ e2 := by omega
  have x0 : (0 : Int) ≤ (mn : Int) := by omega
  have x1 : (mn : Int) ≤ (e2 : Int) := by omega
  have x2 : (e2 : Int) ≤ (s.size : Int) := by omega
  have x3 : (0 : Int) ≤ (e2 : Int) := by omega
  have hrs : s.extract mn e2 = r := by
    rw [← bs_of (s.extract mn e2), ← hr.out, Lib.extract_data]
    congr 1
    unfold pieceT
    have hl : s.data.toList.length = s.size := rfl
    rw [hl, hf, he2, hmn]
  have hrz : r.size ≤ 400 := by rw [← hrs]; simp; omega
  have hx : Val.ptext r.data.toList = ⟨2, 0, r.data.toList⟩ := by
    have hl : r.data.toList.length = r.size := rfl
    unfold Val.ptext; rw [if_neg (by omega)]
  replace hx := Lib.hid hx
  replace hrs := Lib.hid hrs
  replace hrz := Lib.hid hrz
  replace hf := Lib.hid hf
  replace he2 := Lib.hid he2
  replace hmn := Lib.hid hmn
  replace hBr := Lib.hid hBr
  replace hSr := Lib.hid hSr
  clear hr
  replace hi := Lib.hid hi
  replace hi1 := Lib.hid hi1
  have hsz := Lib.hid hs
  clear h0 h1 hs
  go_enter Tryz.func95, Tryz.ntmps95
  go_wp2_with (first
    | (go_at_call 83; refine (fbytes_is _ _ _ _ hi.out hL0 _ _ hv).mono ?_; rintro e w1 ⟨rfl, hb1⟩; have hS1 := hS0.on hb1; have hL1 := hL0.below hb1; obtain ⟨d0, d1, d2, hdl⟩ := hS1.2.2.1)
    | (go_at_call 127; (refine (cnum_is _ _ _ _ hL1 _ _ hp).mono ?_; rintro e w2 ⟨rfl, hb2⟩; have hS2 := (hS1.on hb2).on (below_new w2 (.cells #[.int .i64 kp, .int .i64 p, .string ⟨#[]⟩] 25)); have hL2 := (hL1.below hb2).alloc (.cells #[.int .i64 kp, .int .i64 p, .string ⟨#[]⟩] 25); obtain ⟨a0, a1, a2, a3, a4, a5⟩ := hS2.1.cells; obtain ⟨e0, e1, e2', hel'⟩ := hS2.2.1))
    | (go_at_call 140; first | (have hqq := tok1; refine (clip_eq (s.size : Int) s _ hSr.out (by have := hsz.out; omega) _ he2).mono ?_; rintro e wx ⟨rfl, rfl⟩) | (refine (clip_eq (p - 1) s _ hBr.out (by have := hsz.out; omega) _ hf).mono ?_; rintro e wx ⟨rfl, rfl⟩; have tok1 : True := trivial))
    | (go_at_call 86; rw [hrs.out]; refine (ftext_is _ _ _ _ hx).mono ?_; rintro e w9 ⟨rfl, hb9⟩; have hS9 := hS2.on hb9; obtain ⟨v0, v1, v2, v3, v4, v5⟩ := hS9.1.cells))
  exact bodyPost_ret (v := .agg #[.int .i64 2, .int .i64 0, .string r]) (by simp only [results, Tryz.results95]; go_simp) rfl ⟨rfl, below_put hS9.2.2.2 (Nat.le_refl _)⟩
set_option maxHeartbeats 4000000 in
theorem substr3_pst (c : Int) (b off cap : Nat) (k n : Int) (t : ByteArray) (k1 n1 : Int) (t1 : ByteArray) (w : World) (hL : Lits w) (hi : Val.inr n) (hi1 : Val.inr n1) (h0 : VAt w b off k n t) (h1 : VAt w b (off + 3) k1 n1 t1) (s : ByteArray) (hs : s.size ≤ 400) (hv : Hid (Val.pshow ⟨k, n, t.data.toList⟩ = ⟨2, 0, s.data.toList⟩)) (kp p : Int) (hp : Hid (Val.num ⟨k1, n1, t1.data.toList⟩ = ⟨kp, p, []⟩)) (hpr : Val.inr p) (k2 n2 : Int) (t2 : ByteArray) (hi2 : Val.inr n2) (h2 : VAt w b (off + 6) k2 n2 t2) (kq q : Int) (hq : Hid (Val.num ⟨k2, n2, t2.data.toList⟩ = ⟨kq, q, []⟩)) (hqr : Val.inr q) (hkp : (kp == 0) = false) (hp0 : ¬ p < 0) (hkq : (kq == 0) = false) (S : Int) (hS : Hid (clampI ((p - 1) + q) = S)) (hsw : S < (p - 1)) (hk : (k == 3) = false) (r : ByteArray) (hr : Hid (bs (pieceT s.data.toList S (p - 1)) = r)) :
    Calls Tryz.prog 95 #[.int .i64 c, .slice (some ⟨b, off, none⟩) 3 cap] w (VRet 2 0 r w) := by
  have hb0 := below_new w (.cells #[.int .i64 0, .int .i64 0, .string ⟨#[]⟩] 25)
  have hS0 : SubR w (w.alloc (.cells #[.int .i64 0, .int .i64 0, .string ⟨#[]⟩] 25)) b off k n t k1 n1 t1 := ⟨V3.new w 0 0 ⟨#[]⟩, h0.on hb0, h1.on hb0, hb0⟩
  obtain ⟨c0, c1, c2, hbl⟩ := hS0.2.1
  have hL0 := hL.alloc (.cells #[.int .i64 0, .int .i64 0, .string ⟨#[]⟩] 25)
  have g2 := h2.on hb0
  obtain ⟨pr0, pr1⟩ := hpr
  have hqrh := Lib.hid hqr
  clear hqr
  have bp : decide (p < 0) = false := decide_eq_false hp0
  have bp0 : 0 ≤ p := by omega
  have hwp : wrap64 (p - 1) = p - 1 := IntWalk.wrap64_in _ (by omega)
  have hBr : Val.inr (p - 1) := ⟨by omega, by omega⟩
  have hSr : Val.inr S := by rw [← hS.out]; unfold clampI; (split <;> first | exact ⟨by omega, by omega⟩ | (split <;> exact ⟨by omega, by omega⟩))
  have bsw : decide (S < p - 1) = true := decide_eq_true hsw
  obtain ⟨f, hf⟩ : ∃ f, clipN S s.size = f := ⟨_, rfl⟩
  obtain ⟨e2, he2⟩ : ∃ e2, clipN (p - 1) s.size = e2 := ⟨_, rfl⟩
  have hel : e2 ≤ s.size := by rw [← he2]; exact clipN_le _ _
  obtain ⟨mn, hmn⟩ : ∃ mn, min f e2 = mn := ⟨_, rfl⟩
  have hmi : min (f : Int) (e2 : Int) = (mn : Int) := by omega
  have hme : mn ≤ e2 := by omega
  have x0 : (0 : Int) ≤ (mn : Int) := by omega
  have x1 : (mn : Int) ≤ (e2 : Int) := by omega
  have x2 : (e2 : Int) ≤ (s.size : Int) := by omega
  have x3 : (0 : Int) ≤ (e2 : Int) := by omega
  have hrs : s.extract mn e2 = r := by
    rw [← bs_of (s.extract mn e2), ← hr.out, Lib.extract_data]
    congr 1
    unfold pieceT
    have hl : s.data.toList.length = s.size := rfl
    rw [hl, hf, he2, hmn]
  have hrz : r.size ≤ 400 := by rw [← hrs]; simp; omega
  have hx : Val.ptext r.data.toList = ⟨2, 0, r.data.toList⟩ := by
    have hl : r.data.toList.length = r.size := rfl
    unfold Val.ptext; rw [if_neg (by omega)]
  replace hx := Lib.hid hx
  replace hrs := Lib.hid hrs
  replace hrz := Lib.hid hrz
  replace hf := Lib.hid hf
  replace he2 := Lib.hid he2
  replace hmn := Lib.hid hmn
  replace hSr := Lib.hid hSr
  replace hBr := Lib.hid hBr
  clear hr
  replace hi := Lib.hid hi
  replace hi1 := Lib.hid hi1
  have hsz := Lib.hid hs
  replace hi2 := Lib.hid hi2
  clear h0 h1 hs h2
  go_enter Tryz.func95, Tryz.ntmps95
  go_wp2_with (first
    | (go_at_call 83; refine (fbytes_is _ _ _ _ hi.out hL0 _ _ hv).mono ?_; rintro e w1 ⟨rfl, hb1⟩; have hS1 := hS0.on hb1; have hL1 := hL0.below hb1; obtain ⟨d0, d1, d2, hdl⟩ := hS1.2.2.1; have g3 := g2.on hb1)
    | (go_at_call 127; first | (have hqq := hb2; refine (cnum_is _ _ _ _ hL2 _ _ hq).mono ?_; rintro e w3 ⟨rfl, hb3⟩; have hS3 := (hS2.on hb3).on (below_new w3 (.cells #[.int .i64 kq, .int .i64 q, .string ⟨#[]⟩] 25)); obtain ⟨m0, m1, m2, m3, m4, m5⟩ := hS3.1.cells; obtain ⟨u0, u1, u2, hul⟩ := hS3.2.1) | (refine (cnum_is _ _ _ _ hL1 _ _ hp).mono ?_; rintro e w2 ⟨rfl, hb2⟩; have hS2 := (hS1.on hb2).on (below_new w2 (.cells #[.int .i64 kp, .int .i64 p, .string ⟨#[]⟩] 25)); have hL2 := (hL1.below hb2).alloc (.cells #[.int .i64 kp, .int .i64 p, .string ⟨#[]⟩] 25); obtain ⟨a0, a1, a2, a3, a4, a5⟩ := hS2.1.cells; obtain ⟨e0, e1, e2', hel'⟩ := hS2.2.1; obtain ⟨y0, y1, y2, hyl⟩ := (g3.on hb2).on (below_new w2 (.cells #[.int .i64 kp, .int .i64 p, .string ⟨#[]⟩] 25))))
    | (go_at_call 139; refine (sum_eq _ _ _ hBr.out hqrh.out _ hS).mono ?_; rintro e wx ⟨rfl, rfl⟩)
    | (go_at_call 140; first | (have hqq := tok1; refine (clip_eq (p - 1) s _ hBr.out (by have := hsz.out; omega) _ he2).mono ?_; rintro e wx ⟨rfl, rfl⟩) | (refine (clip_eq S s _ hSr.out (by have := hsz.out; omega) _ hf).mono ?_; rintro e wx ⟨rfl, rfl⟩; have tok1 : True := trivial))
    | (go_at_call 86; rw [hrs.out]; refine (ftext_is _ _ _ _ hx).mono ?_; rintro e w9 ⟨rfl, hb9⟩; have hS9 := hS3.on hb9; obtain ⟨v0, v1, v2, v3, v4, v5⟩ := hS9.1.cells))
  exact bodyPost_ret (v := .agg #[.int .i64 2, .int .i64 0, .string r]) (by simp only [results, Tryz.results95]; go_simp) rfl ⟨rfl, below_put hS9.2.2.2 (Nat.le_refl _)⟩
set_option maxHeartbeats 4000000 in
theorem substr3_pkt (c : Int) (b off cap : Nat) (k n : Int) (t : ByteArray) (k1 n1 : Int) (t1 : ByteArray) (w : World) (hL : Lits w) (hi : Val.inr n) (hi1 : Val.inr n1) (h0 : VAt w b off k n t) (h1 : VAt w b (off + 3) k1 n1 t1) (s : ByteArray) (hs : s.size ≤ 400) (hv : Hid (Val.pshow ⟨k, n, t.data.toList⟩ = ⟨2, 0, s.data.toList⟩)) (kp p : Int) (hp : Hid (Val.num ⟨k1, n1, t1.data.toList⟩ = ⟨kp, p, []⟩)) (hpr : Val.inr p) (k2 n2 : Int) (t2 : ByteArray) (hi2 : Val.inr n2) (h2 : VAt w b (off + 6) k2 n2 t2) (kq q : Int) (hq : Hid (Val.num ⟨k2, n2, t2.data.toList⟩ = ⟨kq, q, []⟩)) (hqr : Val.inr q) (hkp : (kp == 0) = false) (hp0 : ¬ p < 0) (hkq : (kq == 0) = false) (S : Int) (hS : Hid (clampI ((p - 1) + q) = S)) (hsw : ¬ S < (p - 1)) (hk : (k == 3) = false) (r : ByteArray) (hr : Hid (bs (pieceT s.data.toList (p - 1) S) = r)) :
    Calls Tryz.prog 95 #[.int .i64 c, .slice (some ⟨b, off, none⟩) 3 cap] w (VRet 2 0 r w) := by
  have hb0 := below_new w (.cells #[.int .i64 0, .int .i64 0, .string ⟨#[]⟩] 25)
  have hS0 : SubR w (w.alloc (.cells #[.int .i64 0, .int .i64 0, .string ⟨#[]⟩] 25)) b off k n t k1 n1 t1 := ⟨V3.new w 0 0 ⟨#[]⟩, h0.on hb0, h1.on hb0, hb0⟩
  obtain ⟨c0, c1, c2, hbl⟩ := hS0.2.1
  have hL0 := hL.alloc (.cells #[.int .i64 0, .int .i64 0, .string ⟨#[]⟩] 25)
  have g2 := h2.on hb0
  obtain ⟨pr0, pr1⟩ := hpr
  have hqrh := Lib.hid hqr
  clear hqr
  have bp : decide (p < 0) = false := decide_eq_false hp0
  have bp0 : 0 ≤ p := by omega
  have hwp : wrap64 (p - 1) = p - 1 := IntWalk.wrap64_in _ (by omega)
  have hBr : Val.inr (p - 1) := ⟨by omega, by omega⟩
  have hSr : Val.inr S := by rw [← hS.out]; unfold clampI; (split <;> first | exact ⟨by omega, by omega⟩ | (split <;> exact ⟨by omega, by omega⟩))
  have bsw : decide (S < p - 1) = false := decide_eq_false hsw
  obtain ⟨f, hf⟩ : ∃ f, clipN (p - 1) s.size = f := ⟨_, rfl⟩
  obtain ⟨e2, he2⟩ : ∃ e2, clipN S s.size = e2 := ⟨_, rfl⟩
  have hel : e2 ≤ s.size := by rw [← he2]; exact clipN_le _ _
  obtain ⟨mn, hmn⟩ : ∃ mn, min f e2 = mn := ⟨_, rfl⟩
  have hmi : min (f : Int) (e2 : Int) = (mn : Int) := by omega
  have hme : mn ≤ e2 := by omega
  have x0 : (0 : Int) ≤ (mn : Int) := by omega
  have x1 : (mn : Int) ≤ (e2 : Int) := by omega
  have x2 : (e2 : Int) ≤ (s.size : Int) := by omega
  have x3 : (0 : Int) ≤ (e2 : Int) := by omega
  have hrs : s.extract mn e2 = r := by
    rw [← bs_of (s.extract mn e2), ← hr.out, Lib.extract_data]
    congr 1
    unfold pieceT
    have hl : s.data.toList.length = s.size := rfl
    rw [hl, hf, he2, hmn]
  have hrz : r.size ≤ 400 := by rw [← hrs]; simp; omega
  have hx : Val.ptext r.data.toList = ⟨2, 0, r.data.toList⟩ := by
    have hl : r.data.toList.length = r.size := rfl
    unfold Val.ptext; rw [if_neg (by omega)]
  replace hx := Lib.hid hx
  replace hrs := Lib.hid hrs
  replace hrz := Lib.hid hrz
  replace hf := Lib.hid hf
  replace he2 := Lib.hid he2
  replace hmn := Lib.hid hmn
  replace hBr := Lib.hid hBr
  replace hSr := Lib.hid hSr
  clear hr
  replace hi := Lib.hid hi
  replace hi1 := Lib.hid hi1
  have hsz := Lib.hid hs
  replace hi2 := Lib.hid hi2
  clear h0 h1 hs h2
  go_enter Tryz.func95, Tryz.ntmps95
  go_wp2_with (first
    | (go_at_call 83; refine (fbytes_is _ _ _ _ hi.out hL0 _ _ hv).mono ?_; rintro e w1 ⟨rfl, hb1⟩; have hS1 := hS0.on hb1; have hL1 := hL0.below hb1; obtain ⟨d0, d1, d2, hdl⟩ := hS1.2.2.1; have g3 := g2.on hb1)
    | (go_at_call 127; first | (have hqq := hb2; refine (cnum_is _ _ _ _ hL2 _ _ hq).mono ?_; rintro e w3 ⟨rfl, hb3⟩; have hS3 := (hS2.on hb3).on (below_new w3 (.cells #[.int .i64 kq, .int .i64 q, .string ⟨#[]⟩] 25)); obtain ⟨m0, m1, m2, m3, m4, m5⟩ := hS3.1.cells; obtain ⟨u0, u1, u2, hul⟩ := hS3.2.1) | (refine (cnum_is _ _ _ _ hL1 _ _ hp).mono ?_; rintro e w2 ⟨rfl, hb2⟩; have hS2 := (hS1.on hb2).on (below_new w2 (.cells #[.int .i64 kp, .int .i64 p, .string ⟨#[]⟩] 25)); have hL2 := (hL1.below hb2).alloc (.cells #[.int .i64 kp, .int .i64 p, .string ⟨#[]⟩] 25); obtain ⟨a0, a1, a2, a3, a4, a5⟩ := hS2.1.cells; obtain ⟨e0, e1, e2', hel'⟩ := hS2.2.1; obtain ⟨y0, y1, y2, hyl⟩ := (g3.on hb2).on (below_new w2 (.cells #[.int .i64 kp, .int .i64 p, .string ⟨#[]⟩] 25))))
    | (go_at_call 139; refine (sum_eq _ _ _ hBr.out hqrh.out _ hS).mono ?_; rintro e wx ⟨rfl, rfl⟩)
    | (go_at_call 140; first | (have hqq := tok1; refine (clip_eq S s _ hSr.out (by have := hsz.out; omega) _ he2).mono ?_; rintro e wx ⟨rfl, rfl⟩) | (refine (clip_eq (p - 1) s _ hBr.out (by have := hsz.out; omega) _ hf).mono ?_; rintro e wx ⟨rfl, rfl⟩; have tok1 : True := trivial))
    | (go_at_call 86; rw [hrs.out]; refine (ftext_is _ _ _ _ hx).mono ?_; rintro e w9 ⟨rfl, hb9⟩; have hS9 := hS3.on hb9; obtain ⟨v0, v1, v2, v3, v4, v5⟩ := hS9.1.cells))
  exact bodyPost_ret (v := .agg #[.int .i64 2, .int .i64 0, .string r]) (by simp only [results, Tryz.results95]; go_simp) rfl ⟨rfl, below_put hS9.2.2.2 (Nat.le_refl _)⟩

end Go.Proofs.YtmkgalcojoeniaaGreatDoor

namespace Go.Proofs.YtmkgalcojoeniaaGreatDoor
open Go.RowKit
attribute [local go_sem] run_store_fn run_store_nofn

/-- what a function value does with a slice of values -/
def FnDo (w : World) (p : Option Addr) (N cap : Nat) (c : Int) (d : DoF) (k' n' : Int) (t' : ByteArray) : Prop :=
  ∀ fid lb W, d.At w.heap.size W (.func (.func fid) #[] lb) → Below w.heap.size w W → (∀ args w, (callFunc fid args).run Tryz.prog w = .ok (.enter fid args) w) ∧ Calls Tryz.prog fid (#[.int .i64 c, .slice p N cap] ++ lb) W (VRet k' n' t' W)
theorem at_plain {lo : Nat} {W : World} {fid : Nat} {lb : Array Value} {f : FuncId} (h : (DoF.plain f).At lo W (.func (.func fid) #[] lb)) : fid = f ∧ lb = #[] := by
  have e : Value.func (.func fid) #[] lb = .func (.func f) #[] #[] := h
  simp only [Value.func.injEq, Fn.func.injEq, true_and] at e
  exact e
theorem at_trim {lo : Nat} {W : World} {fid : Nat} {lb : Array Value} {l r : Bool} (h : (DoF.trim l r).At lo W (.func (.func fid) #[] lb)) : fid = 131 ∧ ∃ B C, lb = #[.pointer (some ⟨B, 0, none⟩), .pointer (some ⟨C, 0, none⟩)] ∧ Boxed W B 4 (.bool l) ∧ Boxed W C 4 (.bool r) := by
  obtain ⟨B, C, e, ⟨_, h1⟩, _, h2⟩ := h
  simp only [Value.func.injEq, Fn.func.injEq, true_and] at e
  exact ⟨e.1, B, C, e.2, h1, h2⟩
theorem at_ext {lo : Nat} {W : World} {fid : Nat} {lb : Array Value} {n : Int} (h : (DoF.ext n).At lo W (.func (.func fid) #[] lb)) : fid = 133 ∧ ∃ B, lb = #[.pointer (some ⟨B, 0, none⟩)] ∧ Boxed W B 3 (.int .i64 n) := by
  obtain ⟨B, e, _, h⟩ := h
  simp only [Value.func.injEq, Fn.func.injEq, true_and] at e
  exact ⟨e.1, B, e.2, h⟩

/-- a value of the slice, in memory -/
theorem arg_at {w : World} {b off N : Nat} {vs : List Val.V} (hA : ValsAt w (some ⟨b, off, none⟩) N vs) {i : Nat} {v : Val.V} (hv : vs[i]? = some v) : VAt w b (off + i * 3) v.kind v.int (bs v.text) := by
  obtain ⟨b', off', he, h⟩ := hA.get hv
  cases he
  exact h
theorem args_some {w : World} {p : Option Addr} {N : Nat} {vs : List Val.V} (hA : ValsAt w p N vs) (hN : 0 < N) : ∃ b off, p = some ⟨b, off, none⟩ := by
  rcases hA.2 with h | ⟨b, off, h, _⟩
  · have := hA.1; rw [h] at this; simp at this; omega
  · exact ⟨b, off, h⟩

/-- the functions of one value -/
theorem do_one {w : World} {p : Option Addr} {N cap : Nat} {c : Int} {f : FuncId} (ef : ∀ args w, (callFunc f args).run Tryz.prog w = .ok (.enter f args) w) {v : Val.V} {vs : List Val.V} (hA : ValsAt w p N (v :: vs)) (k' n' : Int) (t' : ByteArray)
    (h : ∀ W, Below w.heap.size w W → Calls Tryz.prog f #[.agg #[.int .i64 v.kind, .int .i64 v.int, .string (bs v.text)]] W (VRet k' n' t' W)) : FnDo w p N cap c (.one f) k' n' t' := by
  have hN : 0 < N := by have := hA.1; rw [List.length_cons] at this; omega
  obtain ⟨b, off, rfl⟩ := args_some hA hN
  intro fid lb W hat hb
  obtain ⟨rfl, B, rfl, hB⟩ := at_absurd hat
  refine ⟨enters_of Tryz.func126 (by kernel_rfl) rfl, ?_⟩
  obtain ⟨c0, c1, c2, hl⟩ := (arg_at hA (i := 0) rfl).on hb
  simp only [Nat.zero_mul, Nat.add_zero] at c0 c1 c2
  exact one1_any _ ef c B b off N cap _ _ _ k' n' t' W hB c0 c1 c2 hl hN (fun W' hb' => h W' (below_step hb hb.size hb'))

theorem do_coalesce {w : World} {p : Option Addr} {N cap : Nat} {c : Int} {vs : List Val.V} (hA : ValsAt w p N vs) (hN : N ≤ 1048576) {k' n' : Int} {t' : ByteArray} (hv : Hid (coalesceV vs = ⟨k', n', t'.data.toList⟩)) : FnDo w p N cap c (.plain 76) k' n' t' := by
  intro fid lb W hat hb
  obtain ⟨rfl, rfl⟩ := at_plain hat
  exact ⟨enters_of Tryz.func76 (by kernel_rfl) rfl, coalesce_is c p N cap vs W (hA.below hb) hN _ _ _ hv⟩

theorem do_ext {w : World} {p : Option Addr} {N cap : Nat} {c way : Int} {v : Val.V} {vs : List Val.V} (hA : ValsAt w p N (v :: vs)) (hN : N ≤ 1048576) (hN2 : 1 < N) (hcap : N ≤ cap) (hs : ∀ x ∈ v :: vs, smallV x) {k' n' : Int} {t' : ByteArray} (hv : Hid (bestV way c v vs = ⟨k', n', t'.data.toList⟩)) : FnDo w p N cap c (.ext way) k' n' t' := by
  obtain ⟨b, off, rfl⟩ := args_some hA (by omega)
  intro fid lb W hat hb
  obtain ⟨rfl, B, rfl, hB⟩ := at_ext hat
  obtain ⟨kd, n, tx⟩ := v
  refine ⟨enters_of Tryz.func133 (by kernel_rfl) rfl, ?_⟩
  exact extreme_is way c b off N cap B vs kd n (bs tx) W (hA.below hb) hN hcap hN2 hB (hs _ (List.mem_cons_self ..)) (fun x hx => hs x (List.mem_cons_of_mem _ hx)) _ _ _ hv

/-- what quote answers -/
theorem do_quote {w : World} (hL : Lits w) {p : Option Addr} {N cap : Nat} {c : Int} {v : Val.V} {vs : List Val.V} (hA : ValsAt w p N (v :: vs)) (hi : Val.inr v.int) {k' : Int} {t' : ByteArray} (hv : Hid (Val.ptext (Val.print v).1 = ⟨k', 0, t'.data.toList⟩)) : FnDo w p N cap c (.plain 91) k' 0 t' := by
  have hN : 0 < N := by have := hA.1; rw [List.length_cons] at this; omega
  obtain ⟨b, off, rfl⟩ := args_some hA hN
  intro fid lb W hat hb
  obtain ⟨rfl, rfl⟩ := at_plain hat
  refine ⟨enters_of Tryz.func91 (by kernel_rfl) rfl, ?_⟩
  have h0 := (arg_at hA (i := 0) rfl).on hb
  simp only [Nat.zero_mul, Nat.add_zero] at h0
  obtain ⟨kd, n, tx⟩ := v
  exact quote_is c b off N cap kd n (bs tx) W (hL.below hb) hi hN h0 (bs (Val.print ⟨kd, n, tx⟩).1) (Val.print ⟨kd, n, tx⟩).2 (Lib.hid rfl) k' t' hv

theorem do_typeof {w : World} {p : Option Addr} {N cap : Nat} {c : Int} {v : Val.V} {vs : List Val.V} (hA : ValsAt w p N (v :: vs)) (hk : v.kind = 0 ∨ v.kind = 1 ∨ v.kind = 2 ∨ v.kind = 3) : FnDo w p N cap c (.plain 96) 2 0 (bs (kindName v.kind)) := by
  have hN : 0 < N := by have := hA.1; rw [List.length_cons] at this; omega
  obtain ⟨b, off, rfl⟩ := args_some hA hN
  intro fid lb W hat hb
  obtain ⟨rfl, rfl⟩ := at_plain hat
  refine ⟨enters_of Tryz.func96 (by kernel_rfl) rfl, ?_⟩
  have h0 := (arg_at hA (i := 0) rfl).on hb
  simp only [Nat.zero_mul, Nat.add_zero] at h0
  exact typeof_is c b off N cap _ _ _ W hN h0 hk

theorem do_iif {w : World} (hL : Lits w) {p : Option Addr} {N cap : Nat} {c : Int} {v v1 v2 : Val.V} (hA : ValsAt w p N [v, v1, v2]) (hi : Val.inr v.int) {k' n' : Int} {t' : ByteArray} (hv : Hid ((if Val.tru v = 1 then v1 else v2) = ⟨k', n', t'.data.toList⟩)) : FnDo w p N cap c (.plain 78) k' n' t' := by
  have hN : N = 3 := hA.1.symm
  obtain ⟨b, off, rfl⟩ := args_some hA (by omega)
  intro fid lb W hat hb
  obtain ⟨rfl, rfl⟩ := at_plain hat
  refine ⟨enters_of Tryz.func78 (by kernel_rfl) rfl, ?_⟩
  have h0 := (arg_at hA (i := 0) rfl).on hb
  have h1 := (arg_at hA (i := 1) rfl).on hb
  have h2 := (arg_at hA (i := 2) rfl).on hb
  simp only [Nat.zero_mul, Nat.add_zero, Nat.one_mul] at h0 h1
  exact iif_is c b off N cap _ _ _ _ _ _ _ _ _ W (hL.below hb) hi (by omega) h0 h1 h2 _ (Lib.hid rfl) k' n' t' hv

theorem do_nullif {w : World} {p : Option Addr} {N cap : Nat} {c : Int} {v v1 : Val.V} (hA : ValsAt w p N [v, v1]) (hs : smallV v) (hs1 : smallV v1) {k' n' : Int} {t' : ByteArray} (hv : Hid ((if v1.kind ≠ 0 ∧ Val.cmp v v1 c = 0 then Val.zero else v) = ⟨k', n', t'.data.toList⟩)) : FnDo w p N cap c (.plain 89) k' n' t' := by
  have hN : N = 2 := hA.1.symm
  obtain ⟨b, off, rfl⟩ := args_some hA (by omega)
  intro fid lb W hat hb
  obtain ⟨rfl, rfl⟩ := at_plain hat
  refine ⟨enters_of Tryz.func89 (by kernel_rfl) rfl, ?_⟩
  have h0 := (arg_at hA (i := 0) rfl).on hb
  have h1 := (arg_at hA (i := 1) rfl).on hb
  simp only [Nat.zero_mul, Nat.add_zero, Nat.one_mul] at h0 h1
  have hv' := hv.out
  obtain ⟨kd, n, tx⟩ := v
  obtain ⟨kd1, n1, tx1⟩ := v1
  by_cases hk : kd1 = 0
  · rw [if_neg (by simp [hk])] at hv'
    injection hv' with e1 e2 e3
    subst e1
    subst e2
    obtain rfl : bs tx = t' := by rw [e3, bs_of]
    exact nullif_null c b off N cap _ _ _ _ _ _ W (by omega) h0 h1 (by simp [hk])
  · by_cases hc : Val.cmp ⟨kd, n, tx⟩ ⟨kd1, n1, tx1⟩ c = 0
    · rw [if_pos ⟨hk, hc⟩] at hv'
      injection hv' with e1 e2 e3
      subst e1
      subst e2
      obtain rfl : t' = ⟨#[]⟩ := by rw [← bs_of t', ← e3]; rfl
      exact nullif_same c b off N cap _ _ _ _ _ _ W (by omega) h0 h1 (by simpa using hk) hs hs1 0 (Lib.hid hc) rfl
    · rw [if_neg (by intro h; exact hc h.2)] at hv'
      injection hv' with e1 e2 e3
      subst e1
      subst e2
      obtain rfl : bs tx = t' := by rw [e3, bs_of]
      exact nullif_other c b off N cap _ _ _ _ _ _ W (by omega) h0 h1 (by simpa using hk) hs hs1 _ (Lib.hid rfl) (beq_eq_false_iff_ne.2 hc)

/-- a value that may be and is not NULL has a text -/
theorem shown_v {v : Val.V} (hm : Val.may v = true) (h0 : v.kind ≠ 0) (hi : Val.inr v.int) : ∃ t : ByteArray, Val.pshow ⟨v.kind, v.int, (bs v.text).data.toList⟩ = ⟨2, 0, t.data.toList⟩ ∧ t.size ≤ 400 ∧ shown v = t.data.toList := shown_some hm h0 hi

theorem do_instr {w : World} (hL : Lits w) {p : Option Addr} {N cap : Nat} {c : Int} {v v1 : Val.V} (hA : ValsAt w p N [v, v1]) (hm : Val.may v = true) (hm1 : Val.may v1 = true) (h0 : v.kind ≠ 0) (h1 : v1.kind ≠ 0) (hi : Val.inr v.int) (hi1 : Val.inr v1.int) : FnDo w p N cap c (.plain 80) 1 (Lib.index (shown v) (shown v1) + 1) ⟨#[]⟩ := by
  have hN : N = 2 := hA.1.symm
  obtain ⟨b, off, rfl⟩ := args_some hA (by omega)
  intro fid lb W hat hb
  obtain ⟨rfl, rfl⟩ := at_plain hat
  refine ⟨enters_of Tryz.func80 (by kernel_rfl) rfl, ?_⟩
  have a0 := (arg_at hA (i := 0) rfl).on hb
  have a1 := (arg_at hA (i := 1) rfl).on hb
  simp only [Nat.zero_mul, Nat.add_zero, Nat.one_mul] at a0 a1
  obtain ⟨x, hx, hxs, ex⟩ := shown_v hm h0 hi
  obtain ⟨y, hy, hys, ey⟩ := shown_v hm1 h1 hi1
  rw [ex, ey]
  have hge := Lib.index_ge x.data.toList y.data.toList
  have hle := Lib.index_le x.data.toList y.data.toList
  have hl : x.data.toList.length = x.size := rfl
  exact instr_is c b off N cap _ _ _ _ _ _ W (hL.below hb) hi hi1 (by omega) a0 a1 x y hxs (Lib.hid hx) (Lib.hid hy) _ (Lib.hid rfl) ⟨hge, by omega⟩

theorem do_replace {w : World} (hL : Lits w) {p : Option Addr} {N cap : Nat} {c : Int} {v v1 v2 : Val.V} (hA : ValsAt w p N [v, v1, v2]) (hm : Val.may v = true) (hm1 : Val.may v1 = true) (hm2 : Val.may v2 = true) (h0 : v.kind ≠ 0) (h1 : v1.kind ≠ 0) (h2 : v2.kind ≠ 0) (hi : Val.inr v.int) (hi1 : Val.inr v1.int) (hi2 : Val.inr v2.int) {k' : Int} {t' : ByteArray} (hv : Hid (Val.ptext (repT (shown v) (shown v1) (shown v2)) = ⟨k', 0, t'.data.toList⟩)) : FnDo w p N cap c (.plain 92) k' 0 t' := by
  have hN : N = 3 := hA.1.symm
  obtain ⟨b, off, rfl⟩ := args_some hA (by omega)
  intro fid lb W hat hb
  obtain ⟨rfl, rfl⟩ := at_plain hat
  refine ⟨enters_of Tryz.func92 (by kernel_rfl) rfl, ?_⟩
  have a0 := (arg_at hA (i := 0) rfl).on hb
  have a1 := (arg_at hA (i := 1) rfl).on hb
  have a2 := (arg_at hA (i := 2) rfl).on hb
  simp only [Nat.zero_mul, Nat.add_zero, Nat.one_mul] at a0 a1
  obtain ⟨x, hx, hxs, ex⟩ := shown_v hm h0 hi
  obtain ⟨y, hy, hys, ey⟩ := shown_v hm1 h1 hi1
  obtain ⟨z, hz, hzs, ez⟩ := shown_v hm2 h2 hi2
  have hv' := hv.out
  rw [ex, ey, ez] at hv'
  unfold repT at hv'
  by_cases hy0 : y.data.toList = []
  · rw [if_pos hy0] at hv'
    obtain rfl : y = ⟨#[]⟩ := by rw [← bs_of y, hy0]; rfl
    exact replace_none c b off N cap _ _ _ _ _ _ _ _ _ W (hL.below hb) hi hi1 hi2 (by omega) a0 a1 a2 x ⟨#[]⟩ z (Lib.hid hx) (Lib.hid hy) (Lib.hid hz) rfl k' t' (Lib.hid hv')
  · rw [if_neg hy0] at hv'
    have hl : y.data.toList.length = y.size := rfl
    have hy1 : 1 ≤ y.size := by
      rcases Nat.eq_zero_or_pos y.size with h | h
      · exact absurd (List.eq_nil_of_length_eq_zero (by omega)) hy0
      · exact h
    exact replace_some c b off N cap _ _ _ _ _ _ _ _ _ W (hL.below hb) hi hi1 hi2 (by omega) a0 a1 a2 x y z (Lib.hid hx) (Lib.hid hy) (Lib.hid hz) (by rw [Lib.toList_data]; cases hq : y.data.toList with | nil => exact absurd hq hy0 | cons => rfl) hxs hy1 hzs _ (Lib.hid rfl) k' t' (Lib.hid hv')

theorem do_trim1 {w : World} (hL : Lits w) {p : Option Addr} {N cap : Nat} {c : Int} {l r : Bool} {v : Val.V} (hA : ValsAt w p N [v]) (hm : Val.may v = true) (h0 : v.kind ≠ 0) (hi : Val.inr v.int) : FnDo w p N cap c (.trim l r) 2 0 (bs (trimT [32] l r (shown v))) := by
  have hN : N = 1 := hA.1.symm
  subst hN
  obtain ⟨b, off, rfl⟩ := args_some hA (by omega)
  intro fid lb W hat hb
  obtain ⟨rfl, B, C, rfl, hB, hC⟩ := at_trim hat
  refine ⟨enters_of Tryz.func131 (by kernel_rfl) rfl, ?_⟩
  have a0 := (arg_at hA (i := 0) rfl).on hb
  simp only [Nat.zero_mul, Nat.add_zero] at a0
  obtain ⟨x, hx, hxs, ex⟩ := shown_v hm h0 hi
  exact trim_one l r c b off cap _ _ _ B C W (hL.below hb) hi a0 hB hC x hxs (Lib.hid hx) _ (Lib.hid (by rw [ex]))

theorem do_trim2 {w : World} (hL : Lits w) {p : Option Addr} {N cap : Nat} {c : Int} {l r : Bool} {v v1 : Val.V} (hA : ValsAt w p N [v, v1]) (hm : Val.may v = true) (h0 : v.kind ≠ 0) (hi : Val.inr v.int) (hm1 : Val.may v1 = true) (h1 : v1.kind ≠ 0) (hi1 : Val.inr v1.int) : FnDo w p N cap c (.trim l r) 2 0 (bs (trimT (shown v1) l r (shown v))) := by
  have hN : N = 2 := hA.1.symm
  subst hN
  obtain ⟨b, off, rfl⟩ := args_some hA (by omega)
  intro fid lb W hat hb
  obtain ⟨rfl, B, C, rfl, hB, hC⟩ := at_trim hat
  refine ⟨enters_of Tryz.func131 (by kernel_rfl) rfl, ?_⟩
  have a0 := (arg_at hA (i := 0) rfl).on hb
  have a1 := (arg_at hA (i := 1) rfl).on hb
  simp only [Nat.zero_mul, Nat.add_zero, Nat.one_mul] at a0 a1
  obtain ⟨x, hx, hxs, ex⟩ := shown_v hm h0 hi
  obtain ⟨y, hy, hys, ey⟩ := shown_v hm1 h1 hi1
  exact trim_two l r c b off cap _ _ _ B C W (hL.below hb) hi a0 hB hC x y hxs (Lib.hid hx) _ _ _ hi1 a1 (Lib.hid hy) _ (Lib.hid (by rw [ex, ey]))

end Go.Proofs.YtmkgalcojoeniaaGreatDoor

namespace Go.Proofs.YtmkgalcojoeniaaGreatDoor
open Go.RowKit

def pieceV (k : Int) (l : List UInt8) : Val.V := ⟨if k = 3 then 3 else 2, 0, l⟩
def beginI (p : Int) (l : Nat) : Int := if p < 0 then p + (l : Int) else p - 1
def substr2V (v v1 : Val.V) : Val.V := if (Val.num v1).kind = 0 then Val.num v1 else pieceV v.kind (pieceT (shown v) (beginI (Val.num v1).int (shown v).length) ((shown v).length : Int))
def substr3V (v v1 v2 : Val.V) : Val.V := if (Val.num v1).kind = 0 then Val.num v1 else if (Val.num v2).kind = 0 then Val.num v2 else
  if clampI (beginI (Val.num v1).int (shown v).length + (Val.num v2).int) < beginI (Val.num v1).int (shown v).length then pieceV v.kind (pieceT (shown v) (clampI (beginI (Val.num v1).int (shown v).length + (Val.num v2).int)) (beginI (Val.num v1).int (shown v).length))
  else pieceV v.kind (pieceT (shown v) (beginI (Val.num v1).int (shown v).length) (clampI (beginI (Val.num v1).int (shown v).length + (Val.num v2).int)))
theorem num_at (v : Val.V) (hi : Val.inr v.int) : ∃ k p, Val.num v = ⟨k, p, []⟩ ∧ Val.inr p := by
  rcases Val.num_cases (v := v) hi with h | ⟨m, h, h1, h2⟩
  · exact ⟨_, _, h, by decide⟩
  · exact ⟨_, _, h, h1, h2⟩

theorem do_substr2 {w : World} (hL : Lits w) {p : Option Addr} {N cap : Nat} {c : Int} {v v1 : Val.V} (hA : ValsAt w p N [v, v1]) (hm : Val.may v = true) (h0 : v.kind ≠ 0) (hi : Val.inr v.int) (hi1 : Val.inr v1.int) {k' n' : Int} {t' : ByteArray} (hv : Hid (substr2V v v1 = ⟨k', n', t'.data.toList⟩)) : FnDo w p N cap c (.plain 95) k' n' t' := by
  have hN : N = 2 := hA.1.symm
  subst hN
  obtain ⟨b, off, rfl⟩ := args_some hA (by omega)
  intro fid lb W hat hb
  obtain ⟨rfl, rfl⟩ := at_plain hat
  refine ⟨enters_of Tryz.func95 (by kernel_rfl) rfl, ?_⟩
  have a0 := (arg_at hA (i := 0) rfl).on hb
  have a1 := (arg_at hA (i := 1) rfl).on hb
  simp only [Nat.zero_mul, Nat.add_zero, Nat.one_mul] at a0 a1
  obtain ⟨x, hx, hxs, ex⟩ := shown_v hm h0 hi
  obtain ⟨kp, pp, hp, hpr⟩ := num_at v1 hi1
  have hp' : Val.num ⟨v1.kind, v1.int, (bs v1.text).data.toList⟩ = ⟨kp, pp, []⟩ := hp
  have hl : x.data.toList.length = x.size := rfl
  have hv' := hv.out
  unfold substr2V at hv'
  rw [hp, ex, hl] at hv'
  simp only at hv'
  by_cases hk0 : kp = 0
  · subst hk0
    rw [if_pos rfl] at hv'
    injection hv' with e1 e2 e3
    subst e1
    subst e2
    obtain rfl : t' = ⟨#[]⟩ := by rw [← bs_of t', ← e3]; rfl
    exact substr_pnull c b off cap _ _ _ _ _ _ W (hL.below hb) hi hi1 a0 a1 x hxs (Lib.hid hx) pp (Lib.hid hp') hpr 2 (Nat.le_refl _)
  · rw [if_neg hk0] at hv'
    have hkp : (kp == 0) = false := beq_eq_false_iff_ne.2 hk0
    unfold pieceV beginI at hv'
    by_cases hk : v.kind = 3
    · rw [if_pos hk] at hv'
      by_cases hs : pp < 0
      · rw [if_pos hs] at hv'
        injection hv' with e1 e2 e3
        subst e1
        subst e2
        exact substr2_nb c b off cap _ _ _ _ _ _ W (hL.below hb) hi hi1 a0 a1 x hxs (Lib.hid hx) kp pp (Lib.hid hp') hpr hkp hs (by rw [hk]; rfl) t' (Lib.hid (by rw [e3, bs_of]))
      · rw [if_neg hs] at hv'
        injection hv' with e1 e2 e3
        subst e1
        subst e2
        exact substr2_pb c b off cap _ _ _ _ _ _ W (hL.below hb) hi hi1 a0 a1 x hxs (Lib.hid hx) kp pp (Lib.hid hp') hpr hkp hs (by rw [hk]; rfl) t' (Lib.hid (by rw [e3, bs_of]))
    · rw [if_neg hk] at hv'
      have hk' : (v.kind == 3) = false := beq_eq_false_iff_ne.2 hk
      by_cases hs : pp < 0
      · rw [if_pos hs] at hv'
        injection hv' with e1 e2 e3
        subst e1
        subst e2
        exact substr2_nt c b off cap _ _ _ _ _ _ W (hL.below hb) hi hi1 a0 a1 x hxs (Lib.hid hx) kp pp (Lib.hid hp') hpr hkp hs hk' t' (Lib.hid (by rw [e3, bs_of]))
      · rw [if_neg hs] at hv'
        injection hv' with e1 e2 e3
        subst e1
        subst e2
        exact substr2_pt c b off cap _ _ _ _ _ _ W (hL.below hb) hi hi1 a0 a1 x hxs (Lib.hid hx) kp pp (Lib.hid hp') hpr hkp hs hk' t' (Lib.hid (by rw [e3, bs_of]))

theorem do_substr3 {w : World} (hL : Lits w) {p : Option Addr} {N cap : Nat} {c : Int} {v v1 v2 : Val.V} (hA : ValsAt w p N [v, v1, v2]) (hm : Val.may v = true) (h0 : v.kind ≠ 0) (hi : Val.inr v.int) (hi1 : Val.inr v1.int) (hi2 : Val.inr v2.int) {k' n' : Int} {t' : ByteArray} (hv : Hid (substr3V v v1 v2 = ⟨k', n', t'.data.toList⟩)) : FnDo w p N cap c (.plain 95) k' n' t' := by
  have hN : N = 3 := hA.1.symm
  subst hN
  obtain ⟨b, off, rfl⟩ := args_some hA (by omega)
  intro fid lb W hat hb
  obtain ⟨rfl, rfl⟩ := at_plain hat
  refine ⟨enters_of Tryz.func95 (by kernel_rfl) rfl, ?_⟩
  have a0 := (arg_at hA (i := 0) rfl).on hb
  have a1 := (arg_at hA (i := 1) rfl).on hb
  have a2 := (arg_at hA (i := 2) rfl).on hb
  simp only [Nat.zero_mul, Nat.add_zero, Nat.one_mul] at a0 a1
  obtain ⟨x, hx, hxs, ex⟩ := shown_v hm h0 hi
  obtain ⟨kp, pp, hp, hpr⟩ := num_at v1 hi1
  obtain ⟨kq, q, hq, hqr⟩ := num_at v2 hi2
  have hp' : Val.num ⟨v1.kind, v1.int, (bs v1.text).data.toList⟩ = ⟨kp, pp, []⟩ := hp
  have hq' : Val.num ⟨v2.kind, v2.int, (bs v2.text).data.toList⟩ = ⟨kq, q, []⟩ := hq
  have hl : x.data.toList.length = x.size := rfl
  have hv' := hv.out
  unfold substr3V at hv'
  rw [hp, hq, ex, hl] at hv'
  simp only at hv'
  by_cases hk0 : kp = 0
  · subst hk0
    rw [if_pos rfl] at hv'
    injection hv' with e1 e2 e3
    subst e1
    subst e2
    obtain rfl : t' = ⟨#[]⟩ := by rw [← bs_of t', ← e3]; rfl
    exact substr_pnull c b off cap _ _ _ _ _ _ W (hL.below hb) hi hi1 a0 a1 x hxs (Lib.hid hx) pp (Lib.hid hp') hpr 3 (by omega)
  · rw [if_neg hk0] at hv'
    have hkp : (kp == 0) = false := beq_eq_false_iff_ne.2 hk0
    by_cases hq0 : kq = 0
    · rw [if_pos hq0] at hv'
      have hkq : (kq == 0) = true := by simpa using hq0
      injection hv' with e1 e2 e3
      subst e1
      subst e2
      obtain rfl : t' = ⟨#[]⟩ := by rw [← bs_of t', ← e3]; rfl
      by_cases hs : pp < 0
      · exact substr3_n_null c b off cap _ _ _ _ _ _ W (hL.below hb) hi hi1 a0 a1 x hxs (Lib.hid hx) kp pp (Lib.hid hp') hpr _ _ _ hi2 a2 kq q (Lib.hid hq') hqr hkp hs hkq
      · exact substr3_p_null c b off cap _ _ _ _ _ _ W (hL.below hb) hi hi1 a0 a1 x hxs (Lib.hid hx) kp pp (Lib.hid hp') hpr _ _ _ hi2 a2 kq q (Lib.hid hq') hqr hkp hs hkq
    · rw [if_neg hq0] at hv'
      have hkq : (kq == 0) = false := beq_eq_false_iff_ne.2 hq0
      unfold pieceV beginI at hv'
      by_cases hs : pp < 0
      · rw [if_pos hs] at hv'
        by_cases hw : clampI ((pp + (x.size : Int)) + q) < (pp + (x.size : Int))
        · rw [if_pos hw] at hv'
          by_cases hk : v.kind = 3
          · rw [if_pos hk] at hv'
            injection hv' with e1 e2 e3
            subst e1
            subst e2
            exact substr3_nsb c b off cap _ _ _ _ _ _ W (hL.below hb) hi hi1 a0 a1 x hxs (Lib.hid hx) kp pp (Lib.hid hp') hpr _ _ _ hi2 a2 kq q (Lib.hid hq') hqr hkp hs hkq _ (Lib.hid rfl) hw (by rw [hk]; rfl) t' (Lib.hid (by rw [e3, bs_of]))
          · rw [if_neg hk] at hv'
            injection hv' with e1 e2 e3
            subst e1
            subst e2
            exact substr3_nst c b off cap _ _ _ _ _ _ W (hL.below hb) hi hi1 a0 a1 x hxs (Lib.hid hx) kp pp (Lib.hid hp') hpr _ _ _ hi2 a2 kq q (Lib.hid hq') hqr hkp hs hkq _ (Lib.hid rfl) hw (beq_eq_false_iff_ne.2 hk) t' (Lib.hid (by rw [e3, bs_of]))
        · rw [if_neg hw] at hv'
          by_cases hk : v.kind = 3
          · rw [if_pos hk] at hv'
            injection hv' with e1 e2 e3
            subst e1
            subst e2
            exact substr3_nkb c b off cap _ _ _ _ _ _ W (hL.below hb) hi hi1 a0 a1 x hxs (Lib.hid hx) kp pp (Lib.hid hp') hpr _ _ _ hi2 a2 kq q (Lib.hid hq') hqr hkp hs hkq _ (Lib.hid rfl) hw (by rw [hk]; rfl) t' (Lib.hid (by rw [e3, bs_of]))
          · rw [if_neg hk] at hv'
            injection hv' with e1 e2 e3
            subst e1
            subst e2
            exact substr3_nkt c b off cap _ _ _ _ _ _ W (hL.below hb) hi hi1 a0 a1 x hxs (Lib.hid hx) kp pp (Lib.hid hp') hpr _ _ _ hi2 a2 kq q (Lib.hid hq') hqr hkp hs hkq _ (Lib.hid rfl) hw (beq_eq_false_iff_ne.2 hk) t' (Lib.hid (by rw [e3, bs_of]))
      · rw [if_neg hs] at hv'
        by_cases hw : clampI ((pp - 1) + q) < (pp - 1)
        · rw [if_pos hw] at hv'
          by_cases hk : v.kind = 3
          · rw [if_pos hk] at hv'
            injection hv' with e1 e2 e3
            subst e1
            subst e2
            exact substr3_psb c b off cap _ _ _ _ _ _ W (hL.below hb) hi hi1 a0 a1 x hxs (Lib.hid hx) kp pp (Lib.hid hp') hpr _ _ _ hi2 a2 kq q (Lib.hid hq') hqr hkp hs hkq _ (Lib.hid rfl) hw (by rw [hk]; rfl) t' (Lib.hid (by rw [e3, bs_of]))
          · rw [if_neg hk] at hv'
            injection hv' with e1 e2 e3
            subst e1
            subst e2
            exact substr3_pst c b off cap _ _ _ _ _ _ W (hL.below hb) hi hi1 a0 a1 x hxs (Lib.hid hx) kp pp (Lib.hid hp') hpr _ _ _ hi2 a2 kq q (Lib.hid hq') hqr hkp hs hkq _ (Lib.hid rfl) hw (beq_eq_false_iff_ne.2 hk) t' (Lib.hid (by rw [e3, bs_of]))
        · rw [if_neg hw] at hv'
          by_cases hk : v.kind = 3
          · rw [if_pos hk] at hv'
            injection hv' with e1 e2 e3
            subst e1
            subst e2
            exact substr3_pkb c b off cap _ _ _ _ _ _ W (hL.below hb) hi hi1 a0 a1 x hxs (Lib.hid hx) kp pp (Lib.hid hp') hpr _ _ _ hi2 a2 kq q (Lib.hid hq') hqr hkp hs hkq _ (Lib.hid rfl) hw (by rw [hk]; rfl) t' (Lib.hid (by rw [e3, bs_of]))
          · rw [if_neg hk] at hv'
            injection hv' with e1 e2 e3
            subst e1
            subst e2
            exact substr3_pkt c b off cap _ _ _ _ _ _ W (hL.below hb) hi hi1 a0 a1 x hxs (Lib.hid hx) kp pp (Lib.hid hp') hpr _ _ _ hi2 a2 kq q (Lib.hid hq') hqr hkp hs hkq _ (Lib.hid rfl) hw (beq_eq_false_iff_ne.2 hk) t' (Lib.hid (by rw [e3, bs_of]))
end Go.Proofs.YtmkgalcojoeniaaGreatDoor

namespace Go.Proofs.YtmkgalcojoeniaaGreatDoor
open Go.RowKit

def do1 (f : Val.V → Val.V) : List Val.V → Val.V
  | [v] => f v
  | _ => Val.zero
def do2 (f : Val.V → Val.V → Val.V) : List Val.V → Val.V
  | [v, v1] => f v v1
  | _ => Val.zero
def do3 (f : Val.V → Val.V → Val.V → Val.V) : List Val.V → Val.V
  | [v, v1, v2] => f v v1 v2
  | _ => Val.zero
def doTrim (l r : Bool) : List Val.V → Val.V
  | [v] => ⟨2, 0, trimT [32] l r (shown v)⟩
  | [v, v1] => ⟨2, 0, trimT (shown v1) l r (shown v)⟩
  | _ => Val.zero
def doExt (way c : Int) : List Val.V → Val.V
  | v :: vs => bestV way c v vs
  | [] => Val.zero
def doSub : List Val.V → Val.V
  | [v, v1] => substr2V v v1
  | [v, v1, v2] => substr3V v v1 v2
  | _ => Val.zero
/-- what the table's function k answers -/
def fnV (k : Nat) (c : Int) : List Val.V → Val.V :=
  match k with
  | 0 => do1 absV
  | 1 => coalesceV
  | 2 => do1 fun v => Val.ptext (hexU (shown v))
  | 3 => coalesceV
  | 4 => do3 fun v v1 v2 => if Val.tru v = 1 then v1 else v2
  | 5 => do2 fun v v1 => ⟨1, Lib.index (shown v) (shown v1) + 1, []⟩
  | 6 => do1 fun v => ⟨1, (shown v).length, []⟩
  | 7 => do1 fun v => ⟨2, 0, (shown v).map Txt.lower⟩
  | 8 => doTrim true false
  | 9 => doExt 1 c
  | 10 => doExt (-1) c
  | 11 => do2 fun v v1 => if v1.kind ≠ 0 ∧ Val.cmp v v1 c = 0 then Val.zero else v
  | 12 => do1 fun v => Val.ptext (Val.print v).1
  | 13 => do3 fun v v1 v2 => Val.ptext (repT (shown v) (shown v1) (shown v2))
  | 14 => doTrim false true
  | 15 => do1 signV
  | 16 => doSub
  | 17 => doTrim true true
  | 18 => do1 fun v => ⟨2, 0, kindName v.kind⟩
  | 19 => do1 fun v => ⟨2, 0, (shown v).map upper⟩
  | _ => fun _ => Val.zero

theorem len1 {vs : List Val.V} (h : vs.length = 1) : ∃ v, vs = [v] := List.length_eq_one_iff.1 h
theorem len2 {vs : List Val.V} (h : vs.length = 2) : ∃ v v1, vs = [v, v1] := by
  match vs, h with
  | [v, v1], _ => exact ⟨v, v1, rfl⟩
theorem len3 {vs : List Val.V} (h : vs.length = 3) : ∃ v v1 v2, vs = [v, v1, v2] := by
  match vs, h with
  | [v, v1, v2], _ => exact ⟨v, v1, v2, rfl⟩
theorem may_small {v : Val.V} (h : Val.may v = true) : smallV v := by
  unfold smallV
  rcases Val.may_iff.1 h with ⟨_, _, a⟩ | ⟨_, a⟩ | ⟨_, _, a⟩
  · rw [a]; simp
  · rw [a]; simp
  · omega
theorem may_kind {v : Val.V} (h : Val.may v = true) : v.kind = 0 ∨ v.kind = 1 ∨ v.kind = 2 ∨ v.kind = 3 := by
  rcases Val.may_iff.1 h with ⟨a, _⟩ | ⟨a, _⟩ | ⟨a, _⟩ <;> omega
theorem v_inj {k n k' n' : Int} {l : List UInt8} {t' : ByteArray} (h : (⟨k, n, l⟩ : Val.V) = ⟨k', n', t'.data.toList⟩) : k = k' ∧ n = n' ∧ bs l = t' := by
  injection h with e1 e2 e3
  exact ⟨e1, e2, by rw [e3, bs_of]⟩
theorem do_abs {w : World} (hL : Lits w) {p : Option Addr} {N cap : Nat} {c : Int} {v : Val.V} {vs : List Val.V} (hA : ValsAt w p N (v :: vs)) (hi : Val.inr v.int) {k' n' : Int} (hv : Hid (absV v = ⟨k', n', []⟩)) : FnDo w p N cap c (.one 75) k' n' ⟨#[]⟩ :=
  do_one (enters_of Tryz.func75 (by kernel_rfl) rfl) hA k' n' ⟨#[]⟩ fun W hb => abs_is _ _ _ W (hL.below hb) hi k' n' hv
theorem do_sign {w : World} (hL : Lits w) {p : Option Addr} {N cap : Nat} {c : Int} {v : Val.V} {vs : List Val.V} (hA : ValsAt w p N (v :: vs)) (hi : Val.inr v.int) {k' n' : Int} (hv : Hid (signV v = ⟨k', n', []⟩)) : FnDo w p N cap c (.one 94) k' n' ⟨#[]⟩ :=
  do_one (enters_of Tryz.func94 (by kernel_rfl) rfl) hA k' n' ⟨#[]⟩ fun W hb => sign_is _ _ _ W (hL.below hb) hi k' n' hv
theorem do_len {w : World} (hL : Lits w) {p : Option Addr} {N cap : Nat} {c : Int} {v : Val.V} {vs : List Val.V} (hA : ValsAt w p N (v :: vs)) (hm : Val.may v = true) (h0 : v.kind ≠ 0) (hi : Val.inr v.int) : FnDo w p N cap c (.one 84) 1 ((shown v).length : Int) ⟨#[]⟩ := by
  obtain ⟨x, hx, hxs, ex⟩ := shown_v hm h0 hi
  rw [ex]
  exact do_one (enters_of Tryz.func84 (by kernel_rfl) rfl) hA _ _ _ fun W hb => flen_is _ _ _ W hi (hL.below hb) x (Lib.hid hx)
theorem do_lower {w : World} (hL : Lits w) {p : Option Addr} {N cap : Nat} {c : Int} {v : Val.V} {vs : List Val.V} (hA : ValsAt w p N (v :: vs)) (hm : Val.may v = true) (h0 : v.kind ≠ 0) (hi : Val.inr v.int) : FnDo w p N cap c (.one 85) 2 0 (bs ((shown v).map Txt.lower)) := by
  obtain ⟨x, hx, hxs, ex⟩ := shown_v hm h0 hi
  rw [ex]
  exact do_one (enters_of Tryz.func85 (by kernel_rfl) rfl) hA _ _ _ fun W hb => flower_is _ _ _ W hi (hL.below hb) x hxs (Lib.hid hx) _ (Lib.hid rfl)
theorem do_upper {w : World} (hL : Lits w) {p : Option Addr} {N cap : Nat} {c : Int} {v : Val.V} {vs : List Val.V} (hA : ValsAt w p N (v :: vs)) (hm : Val.may v = true) (h0 : v.kind ≠ 0) (hi : Val.inr v.int) : FnDo w p N cap c (.one 97) 2 0 (bs ((shown v).map upper)) := by
  obtain ⟨x, hx, hxs, ex⟩ := shown_v hm h0 hi
  rw [ex]
  exact do_one (enters_of Tryz.func97 (by kernel_rfl) rfl) hA _ _ _ fun W hb => fupper_is _ _ _ W hi (hL.below hb) x hxs (Lib.hid hx) _ (Lib.hid rfl)
theorem do_hex {w : World} (hL : Lits w) {p : Option Addr} {N cap : Nat} {c : Int} {v : Val.V} {vs : List Val.V} (hA : ValsAt w p N (v :: vs)) (hm : Val.may v = true) (h0 : v.kind ≠ 0) (hi : Val.inr v.int) {k' : Int} {t' : ByteArray} (hv : Hid (Val.ptext (hexU (shown v)) = ⟨k', 0, t'.data.toList⟩)) : FnDo w p N cap c (.one 77) k' 0 t' := by
  obtain ⟨x, hx, hxs, ex⟩ := shown_v hm h0 hi
  rw [ex] at hv
  exact do_one (enters_of Tryz.func77 (by kernel_rfl) rfl) hA _ _ _ fun W hb => fhex_is _ _ _ W hi (hL.below hb) x hxs (Lib.hid hx) k' t' hv
theorem ptext_zero {s : List UInt8} {k n : Int} {t : ByteArray} (h : Val.ptext s = ⟨k, n, t.data.toList⟩) : n = 0 := by
  rcases ptext_form s with ⟨_, e⟩ | ⟨_, e⟩ <;> (rw [e] at h; injection h with _ h _; exact h.symm)
theorem unary4_form (m : Int) : ∃ k n, (Val.unary 4 ⟨1, m, []⟩).1 = ⟨k, n, []⟩ := by
  unfold Val.unary
  rw [if_pos (.inl rfl), if_pos (by simp [Val.may]), if_pos rfl]
  simp only
  split
  · exact ⟨_, _, rfl⟩
  · unfold Val.fit
    split
    · exact ⟨_, _, rfl⟩
    · exact ⟨_, _, rfl⟩
theorem abs_form (v : Val.V) (hi : Val.inr v.int) : ∃ k n, absV v = ⟨k, n, []⟩ := by
  unfold absV
  rcases Val.num_cases (v := v) hi with h | ⟨m, h, h1, h2⟩
  · exact ⟨_, _, by rw [h, if_pos (by decide)]; rfl⟩
  · rw [h]
    simp only
    split
    · exact ⟨_, _, rfl⟩
    · obtain ⟨k, n, e⟩ := unary4_form m
      exact ⟨k, n, e⟩
theorem sign_form (v : Val.V) (hi : Val.inr v.int) : ∃ k n, signV v = ⟨k, n, []⟩ := by
  obtain ⟨k, n, h, _⟩ := num_at v hi
  unfold signV
  rw [h]
  split
  · exact ⟨_, _, rfl⟩
  · split
    · exact ⟨_, _, rfl⟩
    · exact ⟨_, _, rfl⟩

set_option maxHeartbeats 1000000 in
theorem do_all {w : World} (hL : Lits w) {p : Option Addr} {N cap : Nat} {c : Int} {vs : List Val.V} (hA : ValsAt w p N vs) (hN : N ≤ 1048576) (hcap : N ≤ cap) (hm : ∀ v ∈ vs, Val.may v = true) (hi : ∀ v ∈ vs, Val.inr v.int) : ∀ k, k < 20 → fleasts.getD k 0 ≤ (N : Int) → (fmosts.getD k 0 < 0 ∨ (N : Int) ≤ fmosts.getD k 0) → (fnullss.getD k false = false → ∀ v ∈ vs, v.kind ≠ 0) →
    ∀ (k' n' : Int) (t' : ByteArray), fnV k c vs = ⟨k', n', t'.data.toList⟩ → FnDo w p N cap c (fdos.getD k (.plain 0)) k' n' t' := by
  intro k hk hlo hhi hz k' n' t' hv
  have hlen := hA.1
  match k, hk, hlo, hhi, hz, hv with
  | 0, _, hlo, hhi, hz, hv =>
    have q1 : (1 : Int) ≤ (N : Int) := hlo
    have q2 : (1 : Int) < 0 ∨ (N : Int) ≤ 1 := hhi
    obtain ⟨v, rfl⟩ := len1 (show vs.length = 1 by omega)
    have mv := hm v (by simp)
    have iv := hi v (by simp)
    obtain ⟨a, b, e⟩ := abs_form v iv
    have hv2 : absV v = ⟨k', n', t'.data.toList⟩ := hv
    rw [e] at hv2
    obtain ⟨rfl, rfl, rfl⟩ := v_inj hv2
    exact do_abs hL hA iv (Lib.hid e)
  | 1, _, hlo, hhi, hz, hv =>
    exact do_coalesce hA hN (Lib.hid hv)
  | 2, _, hlo, hhi, hz, hv =>
    have q1 : (1 : Int) ≤ (N : Int) := hlo
    have q2 : (1 : Int) < 0 ∨ (N : Int) ≤ 1 := hhi
    obtain ⟨v, rfl⟩ := len1 (show vs.length = 1 by omega)
    have mv := hm v (by simp)
    have iv := hi v (by simp)
    have zv := hz rfl v (by simp)
    have e0 := ptext_zero (t := t') (hv : Val.ptext _ = _)
    subst e0
    exact do_hex hL hA mv zv iv (Lib.hid hv)
  | 3, _, hlo, hhi, hz, hv =>
    exact do_coalesce hA hN (Lib.hid hv)
  | 4, _, hlo, hhi, hz, hv =>
    have q1 : (3 : Int) ≤ (N : Int) := hlo
    have q2 : (3 : Int) < 0 ∨ (N : Int) ≤ 3 := hhi
    obtain ⟨v, v1, v2, rfl⟩ := len3 (show vs.length = 3 by omega)
    have mv := hm v (by simp)
    have iv := hi v (by simp)
    have mv1 := hm v1 (by simp)
    have iv1 := hi v1 (by simp)
    have mv2 := hm v2 (by simp)
    have iv2 := hi v2 (by simp)
    exact do_iif hL hA iv (Lib.hid hv)
  | 5, _, hlo, hhi, hz, hv =>
    have q1 : (2 : Int) ≤ (N : Int) := hlo
    have q2 : (2 : Int) < 0 ∨ (N : Int) ≤ 2 := hhi
    obtain ⟨v, v1, rfl⟩ := len2 (show vs.length = 2 by omega)
    have mv := hm v (by simp)
    have iv := hi v (by simp)
    have mv1 := hm v1 (by simp)
    have iv1 := hi v1 (by simp)
    have zv := hz rfl v (by simp)
    have zv1 := hz rfl v1 (by simp)
    obtain ⟨rfl, rfl, rfl⟩ := v_inj hv
    exact do_instr hL hA mv mv1 zv zv1 iv iv1
  | 6, _, hlo, hhi, hz, hv =>
    have q1 : (1 : Int) ≤ (N : Int) := hlo
    have q2 : (1 : Int) < 0 ∨ (N : Int) ≤ 1 := hhi
    obtain ⟨v, rfl⟩ := len1 (show vs.length = 1 by omega)
    have mv := hm v (by simp)
    have iv := hi v (by simp)
    have zv := hz rfl v (by simp)
    obtain ⟨rfl, rfl, rfl⟩ := v_inj hv
    exact do_len hL hA mv zv iv
  | 7, _, hlo, hhi, hz, hv =>
    have q1 : (1 : Int) ≤ (N : Int) := hlo
    have q2 : (1 : Int) < 0 ∨ (N : Int) ≤ 1 := hhi
    obtain ⟨v, rfl⟩ := len1 (show vs.length = 1 by omega)
    have mv := hm v (by simp)
    have iv := hi v (by simp)
    have zv := hz rfl v (by simp)
    obtain ⟨rfl, rfl, rfl⟩ := v_inj hv
    exact do_lower hL hA mv zv iv
  | 8, _, hlo, hhi, hz, hv =>
    have q1 : (1 : Int) ≤ (N : Int) := hlo
    have q2 : (2 : Int) < 0 ∨ (N : Int) ≤ 2 := hhi
    by_cases h1 : vs.length = 1
    · obtain ⟨v, rfl⟩ := len1 h1
      obtain ⟨rfl, rfl, rfl⟩ := v_inj hv
      exact do_trim1 hL hA (hm v (by simp)) (hz rfl v (by simp)) (hi v (by simp))
    · obtain ⟨v, v1, rfl⟩ := len2 (show vs.length = 2 by omega)
      obtain ⟨rfl, rfl, rfl⟩ := v_inj hv
      exact do_trim2 hL hA (hm v (by simp)) (hz rfl v (by simp)) (hi v (by simp)) (hm v1 (by simp)) (hz rfl v1 (by simp)) (hi v1 (by simp))
  | 9, _, hlo, hhi, hz, hv =>
    have q1 : (2 : Int) ≤ (N : Int) := hlo
    match vs, hlen with
    | [], hlen => simp at hlen; omega
    | v :: vs, _ => exact do_ext hA hN (by omega) hcap (fun x hx => may_small (hm x hx)) (Lib.hid hv)
  | 10, _, hlo, hhi, hz, hv =>
    have q1 : (2 : Int) ≤ (N : Int) := hlo
    match vs, hlen with
    | [], hlen => simp at hlen; omega
    | v :: vs, _ => exact do_ext hA hN (by omega) hcap (fun x hx => may_small (hm x hx)) (Lib.hid hv)
  | 11, _, hlo, hhi, hz, hv =>
    have q1 : (2 : Int) ≤ (N : Int) := hlo
    have q2 : (2 : Int) < 0 ∨ (N : Int) ≤ 2 := hhi
    obtain ⟨v, v1, rfl⟩ := len2 (show vs.length = 2 by omega)
    have mv := hm v (by simp)
    have iv := hi v (by simp)
    have mv1 := hm v1 (by simp)
    have iv1 := hi v1 (by simp)
    exact do_nullif hA (may_small mv) (may_small mv1) (Lib.hid hv)
  | 12, _, hlo, hhi, hz, hv =>
    have q1 : (1 : Int) ≤ (N : Int) := hlo
    have q2 : (1 : Int) < 0 ∨ (N : Int) ≤ 1 := hhi
    obtain ⟨v, rfl⟩ := len1 (show vs.length = 1 by omega)
    have mv := hm v (by simp)
    have iv := hi v (by simp)
    have e0 := ptext_zero (t := t') (hv : Val.ptext _ = _)
    subst e0
    exact do_quote hL hA iv (Lib.hid hv)
  | 13, _, hlo, hhi, hz, hv =>
    have q1 : (3 : Int) ≤ (N : Int) := hlo
    have q2 : (3 : Int) < 0 ∨ (N : Int) ≤ 3 := hhi
    obtain ⟨v, v1, v2, rfl⟩ := len3 (show vs.length = 3 by omega)
    have mv := hm v (by simp)
    have iv := hi v (by simp)
    have mv1 := hm v1 (by simp)
    have iv1 := hi v1 (by simp)
    have mv2 := hm v2 (by simp)
    have iv2 := hi v2 (by simp)
    have zv := hz rfl v (by simp)
    have zv1 := hz rfl v1 (by simp)
    have zv2 := hz rfl v2 (by simp)
    have e0 := ptext_zero (t := t') (hv : Val.ptext _ = _)
    subst e0
    exact do_replace hL hA mv mv1 mv2 zv zv1 zv2 iv iv1 iv2 (Lib.hid hv)
  | 14, _, hlo, hhi, hz, hv =>
    have q1 : (1 : Int) ≤ (N : Int) := hlo
    have q2 : (2 : Int) < 0 ∨ (N : Int) ≤ 2 := hhi
    by_cases h1 : vs.length = 1
    · obtain ⟨v, rfl⟩ := len1 h1
      obtain ⟨rfl, rfl, rfl⟩ := v_inj hv
      exact do_trim1 hL hA (hm v (by simp)) (hz rfl v (by simp)) (hi v (by simp))
    · obtain ⟨v, v1, rfl⟩ := len2 (show vs.length = 2 by omega)
      obtain ⟨rfl, rfl, rfl⟩ := v_inj hv
      exact do_trim2 hL hA (hm v (by simp)) (hz rfl v (by simp)) (hi v (by simp)) (hm v1 (by simp)) (hz rfl v1 (by simp)) (hi v1 (by simp))
  | 15, _, hlo, hhi, hz, hv =>
    have q1 : (1 : Int) ≤ (N : Int) := hlo
    have q2 : (1 : Int) < 0 ∨ (N : Int) ≤ 1 := hhi
    obtain ⟨v, rfl⟩ := len1 (show vs.length = 1 by omega)
    have mv := hm v (by simp)
    have iv := hi v (by simp)
    obtain ⟨a, b, e⟩ := sign_form v iv
    have hv2 : signV v = ⟨k', n', t'.data.toList⟩ := hv
    rw [e] at hv2
    obtain ⟨rfl, rfl, rfl⟩ := v_inj hv2
    exact do_sign hL hA iv (Lib.hid e)
  | 16, _, hlo, hhi, hz, hv =>
    have q1 : (2 : Int) ≤ (N : Int) := hlo
    have q2 : (3 : Int) < 0 ∨ (N : Int) ≤ 3 := hhi
    by_cases h1 : vs.length = 2
    · obtain ⟨v, v1, rfl⟩ := len2 h1
      exact do_substr2 hL hA (hm v (by simp)) (hz rfl v (by simp)) (hi v (by simp)) (hi v1 (by simp)) (Lib.hid hv)
    · obtain ⟨v, v1, v2, rfl⟩ := len3 (show vs.length = 3 by omega)
      exact do_substr3 hL hA (hm v (by simp)) (hz rfl v (by simp)) (hi v (by simp)) (hi v1 (by simp)) (hi v2 (by simp)) (Lib.hid hv)
  | 17, _, hlo, hhi, hz, hv =>
    have q1 : (1 : Int) ≤ (N : Int) := hlo
    have q2 : (2 : Int) < 0 ∨ (N : Int) ≤ 2 := hhi
    by_cases h1 : vs.length = 1
    · obtain ⟨v, rfl⟩ := len1 h1
      obtain ⟨rfl, rfl, rfl⟩ := v_inj hv
      exact do_trim1 hL hA (hm v (by simp)) (hz rfl v (by simp)) (hi v (by simp))
    · obtain ⟨v, v1, rfl⟩ := len2 (show vs.length = 2 by omega)
      obtain ⟨rfl, rfl, rfl⟩ := v_inj hv
      exact do_trim2 hL hA (hm v (by simp)) (hz rfl v (by simp)) (hi v (by simp)) (hm v1 (by simp)) (hz rfl v1 (by simp)) (hi v1 (by simp))
  | 18, _, hlo, hhi, hz, hv =>
    have q1 : (1 : Int) ≤ (N : Int) := hlo
    have q2 : (1 : Int) < 0 ∨ (N : Int) ≤ 1 := hhi
    obtain ⟨v, rfl⟩ := len1 (show vs.length = 1 by omega)
    have mv := hm v (by simp)
    have iv := hi v (by simp)
    obtain ⟨rfl, rfl, rfl⟩ := v_inj hv
    exact do_typeof hA (may_kind mv)
  | 19, _, hlo, hhi, hz, hv =>
    have q1 : (1 : Int) ≤ (N : Int) := hlo
    have q2 : (1 : Int) < 0 ∨ (N : Int) ≤ 1 := hhi
    obtain ⟨v, rfl⟩ := len1 (show vs.length = 1 by omega)
    have mv := hm v (by simp)
    have iv := hi v (by simp)
    have zv := hz rfl v (by simp)
    obtain ⟨rfl, rfl, rfl⟩ := v_inj hv
    exact do_upper hL hA mv zv iv
  | k + 20, h, _, _, _, _ => exact absurd h (by omega)

end Go.Proofs.YtmkgalcojoeniaaGreatDoor

namespace Go.Proofs.YtmkgalcojoeniaaGreatDoor
open Go.RowKit

/-- what Call answers -/
def callV (nm : List UInt8) (c : Int) (vs : List Val.V) : Val.V × Int :=
  if findAt nm (vs.length : Int) < 0 then (Val.zero, 4)
  else if vs.any (fun v => !Val.may v) = true then (Val.zero, 2)
  else if fnullss.getD (findAt nm (vs.length : Int)).toNat false = false ∧ vs.any (fun v => v.kind == 0) = true then (Val.zero, 0)
  else (fnV (findAt nm (vs.length : Int)).toNat c vs, 0)
theorem call_is (nm : ByteArray) (c : Int) (p : Option Addr) (N cap : Nat) (vs : List Val.V) (w : World) (hL : Lits w) (hnm : nm.size ≤ 1048576) (hA : ValsAt w p N vs) (hN : N ≤ 1048576) (hcap : N ≤ cap) (hi : ∀ v ∈ vs, Val.inr v.int) (k' n' : Int) (t' : ByteArray) (E : Int) (hv : Hid (callV nm.data.toList c vs = (⟨k', n', t'.data.toList⟩, E))) :
    Calls Tryz.prog 9 #[.string nm, .int .i64 c, .slice p N cap] w (VRet2 k' n' t' E w) := by
  have hv' := hv.out
  unfold callV at hv'
  rw [hA.1] at hv'
  have hz : ∀ {E' : Int}, ((Val.zero, E') : Val.V × Int) = (⟨k', n', t'.data.toList⟩, E) → k' = 0 ∧ n' = 0 ∧ t' = ⟨#[]⟩ ∧ E = E' := by
    intro E' h
    injection h with h1 h2
    injection h1 with e1 e2 e3
    exact ⟨e1.symm, e2.symm, by rw [← bs_of t', ← e3]; rfl, h2.symm⟩
  rcases firstFrom_range (fits nm.data.toList (N : Int)) 20 0 with h | ⟨k, h, _, hk, hf⟩
  · have hF : findAt nm.data.toList (N : Int) = -1 := h
    rw [if_pos (by rw [hF]; decide)] at hv'
    obtain ⟨rfl, rfl, rfl, rfl⟩ := hz hv'
    exact call_none nm c p N cap w hnm (Lib.hid hF)
  · have hF : findAt nm.data.toList (N : Int) = (k : Int) := h
    rw [hF, if_neg (by omega), Int.toNat_natCast] at hv'
    have hk' : k < 20 := by omega
    unfold fits at hf
    rw [Bool.and_eq_true, Bool.and_eq_true, Bool.or_eq_true, decide_eq_true_iff, decide_eq_true_iff, decide_eq_true_iff] at hf
    cases hm : vs.any (fun v => !Val.may v) with
    | true =>
      rw [if_pos hm] at hv'
      obtain ⟨rfl, rfl, rfl, rfl⟩ := hz hv'
      exact call_bad k hk' nm c p N cap vs w hnm hA hN (Lib.hid hF) (Lib.hid hm)
    | false =>
      rw [if_neg (by rw [hm]; simp)] at hv'
      have hmay : ∀ v ∈ vs, Val.may v = true := fun v hvm => by
        have := List.any_eq_false.1 hm v hvm
        simpa using this
      have hall := do_all (c := c) hL hA hN hcap hmay hi k hk' hf.1.2 hf.2
      cases hn : fnullss.getD k false with
      | true =>
        rw [if_neg (by rw [hn]; simp)] at hv'
        injection hv' with h1 h2
        subst h2
        exact call_do1 k hk' nm c p N cap vs w hnm hA hN (Lib.hid hF) (Lib.hid hm) hn k' n' t' (fun fid lb W hat hb => hall (fun h => by rw [hn] at h; cases h) k' n' t' h1 fid lb W hat hb)
      | false =>
        cases hz0 : vs.any (fun v => v.kind == 0) with
        | true =>
          rw [if_pos ⟨hn, hz0⟩] at hv'
          obtain ⟨rfl, rfl, rfl, rfl⟩ := hz hv'
          exact call_null k hk' nm c p N cap vs w hnm hA hN (Lib.hid hF) (Lib.hid hm) hn (Lib.hid hz0)
        | false =>
          rw [if_neg (by rw [hz0]; simp)] at hv'
          injection hv' with h1 h2
          subst h2
          refine call_do0 k hk' nm c p N cap vs w hnm hA hN (Lib.hid hF) (Lib.hid hm) hn (Lib.hid hz0) k' n' t' (fun fid lb W hat hb => hall (fun _ v hvm => ?_) k' n' t' h1 fid lb W hat hb)
          have := List.any_eq_false.1 hz0 v hvm
          simpa using this

end Go.Proofs.YtmkgalcojoeniaaGreatDoor

