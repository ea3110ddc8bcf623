/- Walks: Best, Numbers of the reference of layer 18. Walks: Substr of the reference of layer 18. -/
import Derived.Test.YtmkgalcojoeniaaGreatDoorFrA
import Derived.Deep.RegionHeld3
import Derived.Test.YtmkgalcojoeniaaGreatDoorAgA
set_option maxRecDepth 100000
set_option linter.unusedVariables false
set_option linter.unusedSimpArgs false
namespace Go.Proofs.YtmkgalcojoeniaaGreatDoor
open Go.RowKit
attribute [local go_sem] run_store_fn run_store_nofn

/-- what a round of Best reads -/
def BestS (w W : World) (b o : Nat) (kv nv : Int) (tv : ByteArray) (kb nb : Int) (tb : ByteArray) : Prop := V3 W (w.heap.size + 1) kb nb tb ∧ V3 W w.heap.size 0 0 ⟨#[]⟩ ∧ VAt W b o kv nv tv ∧ Below w.heap.size w W
theorem BestS.on {w W W' : World} {b o : Nat} {kv nv : Int} {tv : ByteArray} {kb nb : Int} {tb : ByteArray} (h : BestS w W b o kv nv tv kb nb tb) (hb : Below W.heap.size W W') : BestS w W' b o kv nv tv kb nb tb :=
  ⟨h.1.on hb, h.2.1.on hb, h.2.2.1.on hb, below_step h.2.2.2 h.2.2.2.size hb⟩
set_option maxHeartbeats 8000000 in
theorem rbest18_is (way c : Int) (b off N cap : Nat) (vs : List Val.V) (k0 n0 : Int) (t0 : ByteArray) (w : World) (hA : ValsAt w (some ⟨b, off, none⟩) N (⟨k0, n0, t0.data.toList⟩ :: vs)) (hN : N ≤ 1048576) (h0s : t0.size ≤ 1048576) (hsm : ∀ v ∈ vs, smallV v) (k' n' : Int) (t' : ByteArray) (hv : Hid (bestV way c ⟨k0, n0, t0.data.toList⟩ vs = ⟨k', n', t'.data.toList⟩)) :
    Calls Tryz.prog 35 #[.slice (some ⟨b, off, none⟩) N cap, .int .i64 way, .int .i64 c] w (VRet k' n' t' w) := by
  have hlen := hA.1
  rw [List.length_cons] at hlen
  have hN1 : 0 < N := by omega
  have hb0 := below_new w (.cells #[.int .i64 0, .int .i64 0, .string ⟨#[]⟩] 25)
  have hR0 := V3.new w 0 0 ⟨#[]⟩
  obtain ⟨b', off', he, hat⟩ := hA.get (i := 0) rfl
  cases he
  obtain ⟨c0, c1, c2, hbl⟩ := hat.on hb0
  simp only [Nat.zero_mul, Nat.add_zero, bs_of] at c0 c1 c2
  have i1 : (0 : Int) < (N : Int) := by omega
  go_enter Tryz.func35, Tryz.ntmps35
  go_wp2
  obtain ⟨W0, hW0⟩ : ∃ W, (w.alloc (.cells #[.int .i64 0, .int .i64 0, .string ⟨#[]⟩] 25)).alloc (.cells #[.int .i64 k0, .int .i64 n0, .string t0] 25) = W := ⟨_, rfl⟩
  have hB0 : Below w.heap.size w W0 := by rw [← hW0]; exact hb0.alloc hb0.size _
  have hR1 : V3 W0 w.heap.size 0 0 ⟨#[]⟩ := by rw [← hW0]; exact hR0.alloc _
  have hbest : V3 W0 (w.heap.size + 1) k0 n0 t0 := by rw [← hW0]; have := V3.new (w.alloc (.cells #[.int .i64 0, .int .i64 0, .string ⟨#[]⟩] 25)) k0 n0 t0; rw [World.size_alloc] at this; exact this
  rw [hW0]
  replace hlen := Lib.hid hlen
  replace hsm := Lib.hid hsm
  clear hW0 hb0 hR0 c0 c1 c2 hat hbl
  go_loopw [8] (fun iv wr => ∃ (k : Nat) (kb nb : Int) (tb : ByteArray), iv = .int .i64 (k : Int) ∧ 1 ≤ k ∧ k ≤ N ∧ tb.size ≤ 1048576 ∧ Hid (bestV way c ⟨kb, nb, tb.data.toList⟩ (vs.drop (k - 1)) = ⟨k', n', t'.data.toList⟩) ∧ Hid (V3 wr (w.heap.size + 1) kb nb tb) ∧ Hid (V3 wr w.heap.size 0 0 ⟨#[]⟩) ∧ Below w.heap.size w wr) (fun iv _ => N - (intOf iv).toNat)
  case atStart => exact ⟨1, k0, n0, t0, by go_num, by omega, by omega, h0s, hv, Lib.hid hbest, Lib.hid hR1, hB0⟩
  case round =>
    obtain ⟨k, kb, nb, tb, rfl, hk1, hk, htb, hbv, hbe, hR, hBe⟩ := hrel
    clear hv hbest hR1 hB0
    have hzB := hBe.size
    by_cases hlt : k < N
    · have hlk : k - 1 < vs.length := by have := hlen.out; omega
      have hb2 := hbv.out
      rw [List.drop_eq_getElem_cons hlk, show k - 1 + 1 = k by omega] at hb2
      obtain ⟨v, hvk⟩ : ∃ v, vs[k - 1] = v := ⟨_, rfl⟩
      have hgk : (⟨k0, n0, t0.data.toList⟩ :: vs)[k]? = some v := by
        rw [show k = k - 1 + 1 by omega, List.getElem?_cons_succ, List.getElem?_eq_getElem hlk, hvk]
      rw [hvk] at hb2
      have hvs := hsm.out v (by rw [← hvk]; exact List.getElem_mem hlk)
      obtain ⟨b', off', he, hat⟩ := (hA.below hBe).get hgk
      cases he
      obtain ⟨kd, n, tx⟩ := v
      obtain ⟨t, rfl⟩ : ∃ t : ByteArray, tx = t.data.toList := ⟨bs tx, rfl⟩
      have hts : t.size ≤ 1048576 := hvs
      rw [bs_of] at hat
      simp only at hat
      have lB : decide ((k : Int) < (N : Int)) = true := by simp; omega
      have i0 : (0 : Int) ≤ (k : Int) := by omega
      have i2 : (k : Int) < (N : Int) := by omega
      simp only [bestV] at hb2
      obtain ⟨r, hr⟩ : ∃ r, Val.cmp ⟨kd, n, t.data.toList⟩ ⟨kb, nb, tb.data.toList⟩ c = r := ⟨_, rfl⟩
      rw [hr] at hb2
      have hX : BestS w wr.drew b (off + k * 3) kd n t kb nb tb := ⟨hbe.out, hR.out, hat.on (Below.refl _ wr).drew, hBe.drew⟩
      replace hr := Lib.hid hr
      replace hb2 := Lib.hid hb2
      clear hvk hgk hlk hvs hbv hbe hR hat
      go_wp2
      obtain ⟨W1, hW1⟩ : ∃ W, wr.drew = W := ⟨_, rfl⟩
      rw [hW1] at hX
      refine wp_region_held_drew (S := fun W => BestS w W b (off + k * 3) kd n t kb nb tb) (by kernel_rfl) ?_ (fun hH => ?_)
      · rw [hW1]; exact hX
      rw [hW1] at hH ⊢
      clear hW1 hX hBe hzB
      refine wpAnyH_take (i := 0) (v := ?_) rfl (by kernel_rfl) (by kernel_rfl) (by kernel_rfl) (fun _ _ _ h => h) (Or.inl ⟨by rfl, ?_⟩) hH ?_
      rotate_left
      · (intro W hSw; (try dsimp only at hSw); go_simp; try with_reducible rfl)
      try simp only [List.getElem_toArray, List.getElem_cons_zero, List.getElem_cons_succ, Act.put, List.setIfInBounds_toArray, List.set_cons_zero, List.set_cons_succ]
      refine wpAnyH_take (i := 1) (v := ?_) rfl (by kernel_rfl) (by kernel_rfl) (by kernel_rfl) (fun _ _ _ h => h) (Or.inl ⟨by rfl, ?_⟩) hH ?_
      rotate_left
      · (intro W hSw; (try dsimp only at hSw); go_simp; try with_reducible rfl)
      try simp only [List.getElem_toArray, List.getElem_cons_zero, List.getElem_cons_succ, Act.put, List.setIfInBounds_toArray, List.set_cons_zero, List.set_cons_succ]
      refine wpAnyH_take (i := 2) (v := ?_) rfl (by kernel_rfl) (by kernel_rfl) (by kernel_rfl) (fun _ _ _ h => h) (Or.inl ⟨by rfl, ?_⟩) hH ?_
      rotate_left
      · (intro W hSw; (try dsimp only at hSw); go_simp; try with_reducible rfl)
      try simp only [List.getElem_toArray, List.getElem_cons_zero, List.getElem_cons_succ, Act.put, List.setIfInBounds_toArray, List.set_cons_zero, List.set_cons_succ]
      refine wpAnyH_take (i := 3) (v := ?_) rfl (by kernel_rfl) (by kernel_rfl) (by kernel_rfl) (fun _ _ _ h => h) (Or.inl ⟨by rfl, ?_⟩) hH ?_
      rotate_left
      · (intro W hSw; (try dsimp only at hSw); obtain ⟨z0, z1, z2, z3, z4, z5⟩ := hSw.1.cells; obtain ⟨y0, y1, y2, y3⟩ := hSw.2.2.1; go_simp; try with_reducible rfl)
      try simp only [List.getElem_toArray, List.getElem_cons_zero, List.getElem_cons_succ, Act.put, List.setIfInBounds_toArray, List.set_cons_zero, List.set_cons_succ]
      refine wpAnyH_take (i := 4) (v := ?_) rfl (by kernel_rfl) (by kernel_rfl) (by kernel_rfl) (fun _ _ _ h => h) (Or.inl ⟨by rfl, ?_⟩) hH ?_
      rotate_left
      · (intro W hSw; (try dsimp only at hSw); obtain ⟨z0, z1, z2, z3, z4, z5⟩ := hSw.1.cells; obtain ⟨y0, y1, y2, y3⟩ := hSw.2.2.1; go_simp; try with_reducible rfl)
      try simp only [List.getElem_toArray, List.getElem_cons_zero, List.getElem_cons_succ, Act.put, List.setIfInBounds_toArray, List.set_cons_zero, List.set_cons_succ]
      refine wpAnyH_take (i := 5) (v := ?_) rfl (by kernel_rfl) (by kernel_rfl) (by kernel_rfl) (fun _ _ _ h => h) (Or.inl ⟨by rfl, ?_⟩) hH ?_
      rotate_left
      · (intro W hSw; (try dsimp only at hSw); go_simp; try with_reducible rfl)
      try simp only [List.getElem_toArray, List.getElem_cons_zero, List.getElem_cons_succ, Act.put, List.setIfInBounds_toArray, List.set_cons_zero, List.set_cons_succ]
      refine wpAnyH_take (i := 7) (v := ?_) rfl (by kernel_rfl) (by kernel_rfl) (by kernel_rfl) (fun _ _ _ h => h) (Or.inl ⟨by rfl, ?_⟩) hH ?_
      rotate_left
      · (intro W hSw; (try dsimp only at hSw); go_simp; try with_reducible rfl)
      try simp only [List.getElem_toArray, List.getElem_cons_zero, List.getElem_cons_succ, Act.put, List.setIfInBounds_toArray, List.set_cons_zero, List.set_cons_succ]
      refine wpAnyH_ready (rs := [6]) (by kernel_rfl) (by simp) ?_
      refine AllReadyH.cons rfl (fun K hK => ?_) AllReadyH.nil
      go_simp
      go_at_call 65; refine (rcmp_is _ _ _ _ _ _ _ _ hts htb _ hr).mono ?_; rintro e w2 ⟨rfl, hb2'⟩
      refine hK.out _ _ ?_ (fun hH2 => ?_)
      · exact hH.on hb2'
      clear hK K
      try simp only [List.getElem_toArray, List.getElem_cons_zero, List.getElem_cons_succ, Act.put, List.setIfInBounds_toArray, List.set_cons_zero, List.set_cons_succ]
      refine wpAnyH_take (i := 8) (v := ?_) rfl (by kernel_rfl) (by kernel_rfl) (by kernel_rfl) (fun _ _ _ h => h) (Or.inl ⟨by rfl, ?_⟩) hH2 ?_
      rotate_left
      · (intro W hSw; (try dsimp only at hSw); go_simp; try with_reducible rfl)
      try simp only [List.getElem_toArray, List.getElem_cons_zero, List.getElem_cons_succ, Act.put, List.setIfInBounds_toArray, List.set_cons_zero, List.set_cons_succ]
      refine wpAnyH_done (by kernel_rfl) ?_ _
      obtain ⟨e0, e1, e2, e3⟩ := hH2
      obtain ⟨z0, z1, z2, z3, z4, z5⟩ := e0.cells
      obtain ⟨y0, y1, y2, y3⟩ := id e2
      by_cases hrw : r = way
      · have q : (r == way) = true := by simpa using hrw
        have hb3 := hb2.out
        rw [if_pos hrw] at hb3
        have hbe' := Lib.hid (e0.put kd n t)
        have hR' := Lib.hid (e1.other (g' := w.heap.size + 1) (by omega) (.int .i64 kd) (.int .i64 n) (.string t))
        have hBe' := below_put (g := w.heap.size + 1) (a := .int .i64 kd) (b := .int .i64 n) (c := .string t) e3 (by omega)
        replace hb3 := Lib.hid hb3
        clear hrw e0 e1 e2 e3 hb2 hb2' hH
        go_wp2
        go_roundw
        case rel => exact ⟨k + 1, kd, n, t, by go_num, by omega, by omega, hts, hb3, hbe', hR', hBe'⟩
        case measure => simp [intOf]; omega
      · have q : (r == way) = false := by simpa using hrw
        have hb3 := hb2.out
        rw [if_neg hrw] at hb3
        replace hb3 := Lib.hid hb3
        replace e0 := Lib.hid e0
        replace e1 := Lib.hid e1
        clear hrw e2 hb2 hb2' hH
        go_wp2
        go_roundw
        case rel => exact ⟨k + 1, kb, nb, tb, by go_num, by omega, by omega, htb, hb3, e0, e1, e3⟩
        case measure => simp [intOf]; omega
    · have hb2 := hbv.out
      rw [List.drop_eq_nil_of_le (by have := hlen.out; omega), bestV] at hb2
      injection hb2 with e1 e2 e3
      obtain rfl : tb = t' := by rw [← bs_of tb, ← bs_of t', e3]
      subst e1
      subst e2
      have lB : decide ((k : Int) < (N : Int)) = false := by simp; omega
      obtain ⟨y0, y1, y2, y3, y4, y5⟩ := hbe.out.cells
      obtain ⟨a0, a1, a2, a3, a4, a5⟩ := hR.out.cells
      clear e3 hbv
      go_wp2
      exact bodyPost_ret (v := .agg #[.int .i64 kb, .int .i64 nb, .string tb]) (by simp only [results, Tryz.results35]; go_simp) rfl ⟨rfl, below_put hBe (Nat.le_refl _)⟩

theorem inr18z : Val.inr 0 := ⟨by decide, by decide⟩
theorem rnum18_abs_null (k n : Int) (t : ByteArray) (m : Int) (w : World) (hL : Lits w) (hm : Hid (Val.num ⟨k, n, t.data.toList⟩ = ⟨0, 0, []⟩)) :
    Calls Tryz.prog 34 #[.string ⟨#[97, 98, 115]⟩, .agg #[.int .i64 k, .int .i64 n, .string t]] w (VRet (0) (0) ⟨#[]⟩ w) := by
  have hR0 := (V3.new (w.alloc (.cells #[.int .i64 k, .int .i64 n, .string t] 25)) 0 0 ⟨#[]⟩)
  rw [World.size_alloc] at hR0
  have hb0 := (below_new w (.cells #[.int .i64 k, .int .i64 n, .string t] 25)).alloc (by simp) (.cells #[.int .i64 0, .int .i64 0, .string ⟨#[]⟩] 25)
  go_enter Tryz.func34, Tryz.ntmps34
  go_wp2_with (first
    | (go_at_call 63; refine (rnum03_is _ _ _ _ ((hL.alloc _).alloc _) _ _ hm).mono ?_; rintro e w1 ⟨rfl, hb1⟩; have hR1 := (hR0.on hb1).alloc (.cells #[.int .i64 (0), .int .i64 (0), .string ⟨#[]⟩] 25); have hb2 := (below_step hb0 hb0.size hb1).alloc (by have := hb0.size; have := hb1.size; omega) (.cells #[.int .i64 (0), .int .i64 (0), .string ⟨#[]⟩] 25); obtain ⟨a0, a1, a2, a3, a4, a5⟩ := hR1.cells)
    | (fail))
  exact bodyPost_ret (v := .agg #[.int .i64 (0), .int .i64 (0), .string ⟨#[]⟩]) (by simp only [results, Tryz.results34]; go_simp) rfl ⟨rfl, below_put hb2 (by omega)⟩
theorem rnum18_abs_pos (k n : Int) (t : ByteArray) (m : Int) (w : World) (hL : Lits w) (hm : Hid (Val.num ⟨k, n, t.data.toList⟩ = ⟨1, m, []⟩)) (h0 : 0 ≤ m) :
    Calls Tryz.prog 34 #[.string ⟨#[97, 98, 115]⟩, .agg #[.int .i64 k, .int .i64 n, .string t]] w (VRet (1) (m) ⟨#[]⟩ w) := by
  have hR0 := (V3.new (w.alloc (.cells #[.int .i64 k, .int .i64 n, .string t] 25)) 0 0 ⟨#[]⟩)
  rw [World.size_alloc] at hR0
  have hb0 := (below_new w (.cells #[.int .i64 k, .int .i64 n, .string t] 25)).alloc (by simp) (.cells #[.int .i64 0, .int .i64 0, .string ⟨#[]⟩] 25)
  have b1 : decide (m < 0) = false := decide_eq_false (by omega)
  go_enter Tryz.func34, Tryz.ntmps34
  go_wp2_with (first
    | (go_at_call 63; refine (rnum03_is _ _ _ _ ((hL.alloc _).alloc _) _ _ hm).mono ?_; rintro e w1 ⟨rfl, hb1⟩; have hR1 := (hR0.on hb1).alloc (.cells #[.int .i64 (1), .int .i64 (m), .string ⟨#[]⟩] 25); have hb2 := (below_step hb0 hb0.size hb1).alloc (by have := hb0.size; have := hb1.size; omega) (.cells #[.int .i64 (1), .int .i64 (m), .string ⟨#[]⟩] 25); obtain ⟨a0, a1, a2, a3, a4, a5⟩ := hR1.cells)
    | (fail))
  exact bodyPost_ret (v := .agg #[.int .i64 (1), .int .i64 (m), .string ⟨#[]⟩]) (by simp only [results, Tryz.results34]; go_simp) rfl ⟨rfl, below_put hb2 (by omega)⟩
theorem rnum18_abs_neg (k n : Int) (t : ByteArray) (m : Int) (w : World) (hL : Lits w) (hm : Hid (Val.num ⟨k, n, t.data.toList⟩ = ⟨1, m, []⟩)) (h0 : m < 0) (hi : Hid (Val.inr m)) (k2 n2 : Int) (hd : Hid (Val.fit (0 - m) = ⟨k2, n2, []⟩)) :
    Calls Tryz.prog 34 #[.string ⟨#[97, 98, 115]⟩, .agg #[.int .i64 k, .int .i64 n, .string t]] w (VRet (k2) (n2) ⟨#[]⟩ w) := by
  have hR0 := (V3.new (w.alloc (.cells #[.int .i64 k, .int .i64 n, .string t] 25)) 0 0 ⟨#[]⟩)
  rw [World.size_alloc] at hR0
  have hb0 := (below_new w (.cells #[.int .i64 k, .int .i64 n, .string t] 25)).alloc (by simp) (.cells #[.int .i64 0, .int .i64 0, .string ⟨#[]⟩] 25)
  have b1 : decide (m < 0) = true := decide_eq_true (by omega)
  go_enter Tryz.func34, Tryz.ntmps34
  go_wp2_with (first
    | (go_at_call 63; refine (rnum03_is _ _ _ _ ((hL.alloc _).alloc _) _ _ hm).mono ?_; rintro e w1 ⟨rfl, hb1⟩; have hR1 := (hR0.on hb1).alloc (.cells #[.int .i64 (1), .int .i64 (m), .string ⟨#[]⟩] 25); have hb2 := (below_step hb0 hb0.size hb1).alloc (by have := hb0.size; have := hb1.size; omega) (.cells #[.int .i64 (1), .int .i64 (m), .string ⟨#[]⟩] 25); obtain ⟨a0, a1, a2, a3, a4, a5⟩ := hR1.cells)
    | (go_at_call 64; refine (rdiff_is _ _ _ inr18z hi.out _ _ hd).mono ?_; rintro e w2 ⟨rfl, hbi⟩; have hR2 := hR1.on hbi; have hb3 := below_step hb2 hb2.size hbi; obtain ⟨c0, c1, c2, c3, c4, c5⟩ := hR2.cells))
  exact bodyPost_ret (v := .agg #[.int .i64 (k2), .int .i64 (n2), .string ⟨#[]⟩]) (by simp only [results, Tryz.results34]; go_simp) rfl ⟨rfl, below_put hb3 (by omega)⟩
theorem rnum18_sign_null (k n : Int) (t : ByteArray) (m : Int) (w : World) (hL : Lits w) (hm : Hid (Val.num ⟨k, n, t.data.toList⟩ = ⟨0, 0, []⟩)) :
    Calls Tryz.prog 34 #[.string ⟨#[115, 105, 103, 110]⟩, .agg #[.int .i64 k, .int .i64 n, .string t]] w (VRet (0) (0) ⟨#[]⟩ w) := by
  have hR0 := (V3.new (w.alloc (.cells #[.int .i64 k, .int .i64 n, .string t] 25)) 0 0 ⟨#[]⟩)
  rw [World.size_alloc] at hR0
  have hb0 := (below_new w (.cells #[.int .i64 k, .int .i64 n, .string t] 25)).alloc (by simp) (.cells #[.int .i64 0, .int .i64 0, .string ⟨#[]⟩] 25)
  go_enter Tryz.func34, Tryz.ntmps34
  go_wp2_with (first
    | (go_at_call 63; refine (rnum03_is _ _ _ _ ((hL.alloc _).alloc _) _ _ hm).mono ?_; rintro e w1 ⟨rfl, hb1⟩; have hR1 := (hR0.on hb1).alloc (.cells #[.int .i64 (0), .int .i64 (0), .string ⟨#[]⟩] 25); have hb2 := (below_step hb0 hb0.size hb1).alloc (by have := hb0.size; have := hb1.size; omega) (.cells #[.int .i64 (0), .int .i64 (0), .string ⟨#[]⟩] 25); obtain ⟨a0, a1, a2, a3, a4, a5⟩ := hR1.cells)
    | (fail))
  exact bodyPost_ret (v := .agg #[.int .i64 (0), .int .i64 (0), .string ⟨#[]⟩]) (by simp only [results, Tryz.results34]; go_simp) rfl ⟨rfl, below_put hb2 (by omega)⟩
theorem rnum18_sign_pos (k n : Int) (t : ByteArray) (m : Int) (w : World) (hL : Lits w) (hm : Hid (Val.num ⟨k, n, t.data.toList⟩ = ⟨1, m, []⟩)) (h0 : 0 < m) :
    Calls Tryz.prog 34 #[.string ⟨#[115, 105, 103, 110]⟩, .agg #[.int .i64 k, .int .i64 n, .string t]] w (VRet (1) (1) ⟨#[]⟩ w) := by
  have hR0 := (V3.new (w.alloc (.cells #[.int .i64 k, .int .i64 n, .string t] 25)) 0 0 ⟨#[]⟩)
  rw [World.size_alloc] at hR0
  have hb0 := (below_new w (.cells #[.int .i64 k, .int .i64 n, .string t] 25)).alloc (by simp) (.cells #[.int .i64 0, .int .i64 0, .string ⟨#[]⟩] 25)
  have b1 : decide (m > 0) = true := decide_eq_true (by omega)
  go_enter Tryz.func34, Tryz.ntmps34
  go_wp2_with (first
    | (go_at_call 63; refine (rnum03_is _ _ _ _ ((hL.alloc _).alloc _) _ _ hm).mono ?_; rintro e w1 ⟨rfl, hb1⟩; have hR1 := (hR0.on hb1).alloc (.cells #[.int .i64 (1), .int .i64 (m), .string ⟨#[]⟩] 25); have hb2 := (below_step hb0 hb0.size hb1).alloc (by have := hb0.size; have := hb1.size; omega) (.cells #[.int .i64 (1), .int .i64 (m), .string ⟨#[]⟩] 25); obtain ⟨a0, a1, a2, a3, a4, a5⟩ := hR1.cells)
    | (go_at_call 20; refine (rint_any _ _).mono ?_; rintro e w2 ⟨rfl, hbi⟩; have hR2 := hR1.on hbi; have hb3 := below_step hb2 hb2.size hbi; obtain ⟨c0, c1, c2, c3, c4, c5⟩ := hR2.cells))
  exact bodyPost_ret (v := .agg #[.int .i64 (1), .int .i64 (1), .string ⟨#[]⟩]) (by simp only [results, Tryz.results34]; go_simp) rfl ⟨rfl, below_put hb3 (by omega)⟩
theorem rnum18_sign_neg (k n : Int) (t : ByteArray) (m : Int) (w : World) (hL : Lits w) (hm : Hid (Val.num ⟨k, n, t.data.toList⟩ = ⟨1, m, []⟩)) (h0 : m < 0) :
    Calls Tryz.prog 34 #[.string ⟨#[115, 105, 103, 110]⟩, .agg #[.int .i64 k, .int .i64 n, .string t]] w (VRet (1) (-1) ⟨#[]⟩ w) := by
  have hR0 := (V3.new (w.alloc (.cells #[.int .i64 k, .int .i64 n, .string t] 25)) 0 0 ⟨#[]⟩)
  rw [World.size_alloc] at hR0
  have hb0 := (below_new w (.cells #[.int .i64 k, .int .i64 n, .string t] 25)).alloc (by simp) (.cells #[.int .i64 0, .int .i64 0, .string ⟨#[]⟩] 25)
  have b1 : decide (m > 0) = false := decide_eq_false (by omega)
  have b1' : ¬ 0 < m := by omega
  have b2 : decide (m < 0) = true := decide_eq_true (by omega)
  go_enter Tryz.func34, Tryz.ntmps34
  go_wp2_with (first
    | (go_at_call 63; refine (rnum03_is _ _ _ _ ((hL.alloc _).alloc _) _ _ hm).mono ?_; rintro e w1 ⟨rfl, hb1⟩; have hR1 := (hR0.on hb1).alloc (.cells #[.int .i64 (1), .int .i64 (m), .string ⟨#[]⟩] 25); have hb2 := (below_step hb0 hb0.size hb1).alloc (by have := hb0.size; have := hb1.size; omega) (.cells #[.int .i64 (1), .int .i64 (m), .string ⟨#[]⟩] 25); obtain ⟨a0, a1, a2, a3, a4, a5⟩ := hR1.cells)
    | (go_at_call 20; refine (rint_any _ _).mono ?_; rintro e w2 ⟨rfl, hbi⟩; have hR2 := hR1.on hbi; have hb3 := below_step hb2 hb2.size hbi; obtain ⟨c0, c1, c2, c3, c4, c5⟩ := hR2.cells))
  exact bodyPost_ret (v := .agg #[.int .i64 (1), .int .i64 (-1), .string ⟨#[]⟩]) (by simp only [results, Tryz.results34]; go_simp) rfl ⟨rfl, below_put hb3 (by omega)⟩
theorem rnum18_sign_zero (k n : Int) (t : ByteArray) (m : Int) (w : World) (hL : Lits w) (hm : Hid (Val.num ⟨k, n, t.data.toList⟩ = ⟨1, m, []⟩)) (h0 : m = 0) :
    Calls Tryz.prog 34 #[.string ⟨#[115, 105, 103, 110]⟩, .agg #[.int .i64 k, .int .i64 n, .string t]] w (VRet (1) (m) ⟨#[]⟩ w) := by
  have hR0 := (V3.new (w.alloc (.cells #[.int .i64 k, .int .i64 n, .string t] 25)) 0 0 ⟨#[]⟩)
  rw [World.size_alloc] at hR0
  have hb0 := (below_new w (.cells #[.int .i64 k, .int .i64 n, .string t] 25)).alloc (by simp) (.cells #[.int .i64 0, .int .i64 0, .string ⟨#[]⟩] 25)
  have b1 : decide (m > 0) = false := decide_eq_false (by omega)
  have b1' : ¬ 0 < m := by omega
  have b2 : decide (m < 0) = false := decide_eq_false (by omega)
  replace h0 := Lib.hid h0
  go_enter Tryz.func34, Tryz.ntmps34
  go_wp2_with (first
    | (go_at_call 63; refine (rnum03_is _ _ _ _ ((hL.alloc _).alloc _) _ _ hm).mono ?_; rintro e w1 ⟨rfl, hb1⟩; have hR1 := (hR0.on hb1).alloc (.cells #[.int .i64 (1), .int .i64 (m), .string ⟨#[]⟩] 25); have hb2 := (below_step hb0 hb0.size hb1).alloc (by have := hb0.size; have := hb1.size; omega) (.cells #[.int .i64 (1), .int .i64 (m), .string ⟨#[]⟩] 25); obtain ⟨a0, a1, a2, a3, a4, a5⟩ := hR1.cells)
    | (fail))
  exact bodyPost_ret (v := .agg #[.int .i64 (1), .int .i64 (m), .string ⟨#[]⟩]) (by simp only [results, Tryz.results34]; go_simp) rfl ⟨rfl, below_put hb2 (by omega)⟩

theorem rabs18_is (k n : Int) (t : ByteArray) (w : World) (hL : Lits w) (hi : Val.inr n) (k' n' : Int) (hv : Hid (absV ⟨k, n, t.data.toList⟩ = ⟨k', n', []⟩)) :
    Calls Tryz.prog 34 #[.string ⟨#[97, 98, 115]⟩, .agg #[.int .i64 k, .int .i64 n, .string t]] w (VRet k' n' ⟨#[]⟩ w) := by
  have hv' := hv.out
  rcases Val.num_cases (v := ⟨k, n, t.data.toList⟩) hi with h | ⟨m, h, h1, h2⟩
  · unfold absV at hv'
    rw [h, if_pos (by decide)] at hv'
    injection hv' with e1 e2 _
    subst e1 e2
    exact rnum18_abs_null k n t 0 w hL (Lib.hid h)
  · by_cases hm : m < 0
    · rw [absV_neg h hm] at hv'
      exact rnum18_abs_neg k n t m w hL (Lib.hid h) hm (Lib.hid ⟨h1, h2⟩) k' n' (Lib.hid hv')
    · unfold absV at hv'
      rw [h, if_pos (by show 0 ≤ m; omega)] at hv'
      injection hv' with e1 e2 _
      subst e1 e2
      exact rnum18_abs_pos k n t m w hL (Lib.hid h) (by omega)
theorem rsign18_is (k n : Int) (t : ByteArray) (w : World) (hL : Lits w) (hi : Val.inr n) (k' n' : Int) (hv : Hid (signV ⟨k, n, t.data.toList⟩ = ⟨k', n', []⟩)) :
    Calls Tryz.prog 34 #[.string ⟨#[115, 105, 103, 110]⟩, .agg #[.int .i64 k, .int .i64 n, .string t]] w (VRet k' n' ⟨#[]⟩ w) := by
  have hv' := hv.out
  unfold signV at hv'
  rcases Val.num_cases (v := ⟨k, n, t.data.toList⟩) hi with h | ⟨m, h, h1, h2⟩
  · rw [h, if_neg (by decide), if_neg (by decide)] at hv'
    injection hv' with e1 e2 _
    subst e1 e2
    exact rnum18_sign_null k n t 0 w hL (Lib.hid h)
  · rw [h] at hv'
    rcases Int.lt_trichotomy m 0 with hm | hm | hm
    · rw [if_neg (by show ¬ 0 < m; omega), if_pos (by show m < 0; omega)] at hv'
      injection hv' with e1 e2 _
      subst e1 e2
      exact rnum18_sign_neg k n t m w hL (Lib.hid h) hm
    · rw [if_neg (by show ¬ 0 < m; omega), if_neg (by show ¬ m < 0; omega)] at hv'
      injection hv' with e1 e2 _
      subst e1 e2
      exact rnum18_sign_zero k n t m w hL (Lib.hid h) hm
    · rw [if_pos (by show 0 < m; omega)] at hv'
      injection hv' with e1 e2 _
      subst e1 e2
      exact rnum18_sign_pos k n t m w hL (Lib.hid h) hm

end Go.Proofs.YtmkgalcojoeniaaGreatDoor

namespace Go.Proofs.YtmkgalcojoeniaaGreatDoor
open Go.RowKit
attribute [local go_sem] run_store_fn run_store_nofn

theorem pieceT_len (s : List UInt8) (b e : Int) : (pieceT s b e).length ≤ s.length := by
  unfold pieceT
  rw [List.length_take, List.length_drop]
  omega
theorem AgS.one (w : World) (k n : Int) (t : ByteArray) : AgS w [(w.heap.size, ⟨k, n, t.data.toList⟩)] (w.alloc (.cells #[.int .i64 k, .int .i64 n, .string t] 25)) :=
  AgS.new (L := []) ⟨fun x hx => absurd hx List.not_mem_nil, Below.refl _ _⟩ k n t
/-- the value in the block that came last, put anew -/
theorem AgS.set {w W : World} {L : List (Nat × Val.V)} {g : Nat} {k0 n0 : Int} {t0 : ByteArray} (h : AgS w ((g, ⟨k0, n0, t0.data.toList⟩) :: L) W) (hw : w.heap.size ≤ g) (hne : ∀ x ∈ L, x.1 ≠ g) (k n : Int) (t : ByteArray) :
    AgS w ((g, ⟨k, n, t.data.toList⟩) :: L) (((W.setCell ⟨g, 0, none⟩ (.int .i64 k)).setCell ⟨g, 1, none⟩ (.int .i64 n)).setCell ⟨g, 2, none⟩ (.string t)) :=
  AgS.put ⟨fun y hy => h.1 y (List.mem_cons_of_mem _ hy), h.2⟩ (h.get List.mem_cons_self) hw hne k n t
theorem ne2 {a b c : Nat} (v1 v2 : Val.V) (h1 : a ≠ c) (h2 : b ≠ c) : ∀ x ∈ [(a, v1), (b, v2)], x.1 ≠ c := by
  intro x hx
  simp only [List.mem_cons, List.not_mem_nil, or_false] at hx
  rcases hx with rfl | rfl
  · exact h1
  · exact h2

set_option maxHeartbeats 4000000 in
theorem rsub2_null1 (b off cap : Nat) (k n : Int) (t : ByteArray) (k1 n1 : Int) (t1 : ByteArray) (w : World) (hL : Lits w) (hA : ValsAt w (some ⟨b, off, none⟩) 2 [⟨k, n, t.data.toList⟩, ⟨k1, n1, t1.data.toList⟩]) (hi : Val.inr n) (s : ByteArray) (hs : s.size ≤ 400) (hsh : Hid (Val.pshow ⟨k, n, t.data.toList⟩ = ⟨2, 0, s.data.toList⟩)) (p m k2x n2x : Int) (hp : Val.inr p) (hm : Val.inr m) (h1 : Hid (Val.num ⟨k1, n1, t1.data.toList⟩ = ⟨0, 0, []⟩)) :
    Calls Tryz.prog 36 #[.slice (some ⟨b, off, none⟩) 2 cap] w (VRet 0 0 ⟨#[]⟩ w) := by
  obtain ⟨b', off', he, hV0⟩ := hA.get (i := 0) rfl
  cases he
  simp only [bs_of, Nat.zero_mul, Nat.one_mul, Nat.add_zero, Nat.reduceMul] at hV0
  obtain ⟨b', off', he, hV1⟩ := hA.get (i := 1) rfl
  cases he
  simp only [bs_of, Nat.zero_mul, Nat.one_mul, Nat.add_zero, Nat.reduceMul] at hV1
  obtain ⟨g0, hg0⟩ : ∃ g, w.heap.size = g := ⟨_, rfl⟩
  have hA0 := AgS.one w 0 0 ⟨#[]⟩
  rw [hg0] at hA0
  have hw0 : w.heap.size ≤ g0 := Nat.le_of_eq hg0
  obtain ⟨c0, c1, c2, _⟩ := hV0.on hA0.2
  obtain ⟨p0, p1⟩ := id hp
  obtain ⟨m0, m1⟩ := id hm
  replace hi := Lib.hid hi
  replace hp := Lib.hid hp
  replace hm := Lib.hid hm
  replace hw0 := Lib.hid hw0
  replace hg0 := Lib.hid hg0
  clear hA
  go_enter Tryz.func36, Tryz.ntmps36
  go_upto_region 1 with fail
  rw [hg0.out]
  go_wp2_with fail
  refine (rbytes18_is _ _ _ _ hi.out (hL.below hA0.2) _ _ hsh).mono ?_
  rintro e w1 ⟨rfl, hb1⟩
  have hA1 := hA0.on hb1
  obtain ⟨d0, d1, d2, _⟩ := hV1.on hA1.2
  clear c0 c1 c2
  go_wp2_with fail
  refine (rnum03_is _ _ _ _ (hL.below hA1.2) _ _ h1).mono ?_
  rintro e w2 ⟨rfl, hb2⟩
  have hA2 := (hA1.on hb2).new 0 0 ⟨#[]⟩
  clear d0 d1 d2
  go_wp2_with fail
  refine (rint_any _ _).mono ?_
  rintro e w3 ⟨rfl, hb3⟩
  have hA3 := (hA2.on hb3).new 1 9000 ⟨#[]⟩
  go_upto_region 4 with fail
  obtain ⟨g4, hg4⟩ : ∃ g, w2.heap.size = g := ⟨_, rfl⟩
  obtain ⟨g5, hg5⟩ : ∃ g, w3.heap.size = g := ⟨_, rfl⟩
  have l4 : g4 < g5 := by have := hb3.size; rw [World.size_alloc] at this; omega
  have l0 : g0 < g4 := by rw [← hg4]; exact (hA1.on hb2).lt List.mem_cons_self
  obtain ⟨W3, hW3⟩ : ∃ W, w3.alloc (.cells #[.int .i64 1, .int .i64 9000, .string ⟨#[]⟩] 25) = W := ⟨_, rfl⟩
  rw [hg4, hg5, hW3] at hA3
  rw [hg4, hg5, hW3]
  clear hW3 hg4 hg5 hA2 hA1 hA0 hb1 hb2 hb3
  obtain ⟨yn0, yn1, yn2, yn3, yn4, yn5⟩ := (AgS.get hA3 (g := g5) (k := 1) (n := 9000) (t := ⟨#[]⟩) List.mem_cons_self).cells
  obtain ⟨yp0, yp1, yp2, yp3, yp4, yp5⟩ := (AgS.get hA3 (g := g4) (k := 0) (n := 0) (t := ⟨#[]⟩) (List.mem_cons_of_mem _ List.mem_cons_self)).cells
  obtain ⟨yr0, yr1, yr2, yr3, yr4, yr5⟩ := (AgS.get hA3 (g := g0) (k := 0) (n := 0) (t := ⟨#[]⟩) (List.mem_cons_of_mem _ (List.mem_cons_of_mem _ List.mem_cons_self))).cells
  go_wp2
  exact bodyPost_ret (v := .agg #[.int .i64 0, .int .i64 0, .string ⟨#[]⟩]) (by simp only [results, Tryz.results36]; go_simp) rfl ⟨rfl, below_put hA3.2 hw0.out⟩

set_option maxHeartbeats 4000000 in
theorem rsub3_null1 (b off cap : Nat) (k n : Int) (t : ByteArray) (k1 n1 : Int) (t1 : ByteArray) (k2 n2 : Int) (t2 : ByteArray) (w : World) (hL : Lits w) (hA : ValsAt w (some ⟨b, off, none⟩) 3 [⟨k, n, t.data.toList⟩, ⟨k1, n1, t1.data.toList⟩, ⟨k2, n2, t2.data.toList⟩]) (hi : Val.inr n) (s : ByteArray) (hs : s.size ≤ 400) (hsh : Hid (Val.pshow ⟨k, n, t.data.toList⟩ = ⟨2, 0, s.data.toList⟩)) (p m k2x n2x : Int) (hp : Val.inr p) (hm : Val.inr m) (h1 : Hid (Val.num ⟨k1, n1, t1.data.toList⟩ = ⟨0, 0, []⟩)) (h2 : Hid (Val.num ⟨k2, n2, t2.data.toList⟩ = ⟨k2x, n2x, []⟩)) :
    Calls Tryz.prog 36 #[.slice (some ⟨b, off, none⟩) 3 cap] w (VRet 0 0 ⟨#[]⟩ w) := by
  obtain ⟨b', off', he, hV0⟩ := hA.get (i := 0) rfl
  cases he
  simp only [bs_of, Nat.zero_mul, Nat.one_mul, Nat.add_zero, Nat.reduceMul] at hV0
  obtain ⟨b', off', he, hV1⟩ := hA.get (i := 1) rfl
  cases he
  simp only [bs_of, Nat.zero_mul, Nat.one_mul, Nat.add_zero, Nat.reduceMul] at hV1
  obtain ⟨b', off', he, hV2⟩ := hA.get (i := 2) rfl
  cases he
  simp only [bs_of, Nat.zero_mul, Nat.one_mul, Nat.add_zero, Nat.reduceMul] at hV2
  obtain ⟨g0, hg0⟩ : ∃ g, w.heap.size = g := ⟨_, rfl⟩
  have hA0 := AgS.one w 0 0 ⟨#[]⟩
  rw [hg0] at hA0
  have hw0 : w.heap.size ≤ g0 := Nat.le_of_eq hg0
  obtain ⟨c0, c1, c2, _⟩ := hV0.on hA0.2
  obtain ⟨p0, p1⟩ := id hp
  obtain ⟨m0, m1⟩ := id hm
  replace hi := Lib.hid hi
  replace hp := Lib.hid hp
  replace hm := Lib.hid hm
  replace hw0 := Lib.hid hw0
  replace hg0 := Lib.hid hg0
  clear hA
  go_enter Tryz.func36, Tryz.ntmps36
  go_upto_region 1 with fail
  rw [hg0.out]
  go_wp2_with fail
  refine (rbytes18_is _ _ _ _ hi.out (hL.below hA0.2) _ _ hsh).mono ?_
  rintro e w1 ⟨rfl, hb1⟩
  have hA1 := hA0.on hb1
  obtain ⟨d0, d1, d2, _⟩ := hV1.on hA1.2
  clear c0 c1 c2
  go_wp2_with fail
  refine (rnum03_is _ _ _ _ (hL.below hA1.2) _ _ h1).mono ?_
  rintro e w2 ⟨rfl, hb2⟩
  have hA2 := (hA1.on hb2).new 0 0 ⟨#[]⟩
  clear d0 d1 d2
  go_wp2_with fail
  refine (rint_any _ _).mono ?_
  rintro e w3 ⟨rfl, hb3⟩
  have hA3 := (hA2.on hb3).new 1 9000 ⟨#[]⟩
  go_upto_region 4 with fail
  obtain ⟨g4, hg4⟩ : ∃ g, w2.heap.size = g := ⟨_, rfl⟩
  obtain ⟨g5, hg5⟩ : ∃ g, w3.heap.size = g := ⟨_, rfl⟩
  have l4 : g4 < g5 := by have := hb3.size; rw [World.size_alloc] at this; omega
  have l0 : g0 < g4 := by rw [← hg4]; exact (hA1.on hb2).lt List.mem_cons_self
  obtain ⟨W3, hW3⟩ : ∃ W, w3.alloc (.cells #[.int .i64 1, .int .i64 9000, .string ⟨#[]⟩] 25) = W := ⟨_, rfl⟩
  rw [hg4, hg5, hW3] at hA3
  rw [hg4, hg5, hW3]
  clear hW3 hg4 hg5 hA2 hA1 hA0 hb1 hb2 hb3
  obtain ⟨c0, c1, c2, _⟩ := hV2.on hA3.2
  go_wp2_with fail
  refine (rnum03_is _ _ _ _ (hL.below hA3.2) _ _ h2).mono ?_
  rintro e w4 ⟨rfl, hb4⟩
  have hA4 := hA3.on hb4
  obtain ⟨xn0, xn1, xn2, xn3, xn4, xn5⟩ := (AgS.get hA4 (g := g5) (k := 1) (n := 9000) (t := ⟨#[]⟩) List.mem_cons_self).cells
  have hA5 := AgS.set (w := w) (W := w4) (k0 := 1) (n0 := 9000) (t0 := ⟨#[]⟩) hA4 (g := g5) (by have := hw0.out; omega) (ne2 (a := g4) (b := g0) (c := g5) _ _ (by omega) (by omega)) k2x n2x ⟨#[]⟩
  obtain ⟨W5, hW5⟩ : ∃ W, ((w4.setCell ⟨g5, 0, none⟩ (.int .i64 k2x)).setCell ⟨g5, 1, none⟩ (.int .i64 n2x)).setCell ⟨g5, 2, none⟩ (.string ⟨#[]⟩) = W := ⟨_, rfl⟩
  rw [hW5] at hA5
  replace hW5 := Lib.hid hW5
  clear c0 c1 c2 hA3 hb4
  go_upto_region 6 with fail
  rw [hW5.out]
  clear hW5 hA4 xn0 xn1 xn2 xn3 xn4 xn5
  obtain ⟨yn0, yn1, yn2, yn3, yn4, yn5⟩ := (AgS.get hA5 (g := g5) (k := k2x) (n := n2x) (t := ⟨#[]⟩) List.mem_cons_self).cells
  obtain ⟨yp0, yp1, yp2, yp3, yp4, yp5⟩ := (AgS.get hA5 (g := g4) (k := 0) (n := 0) (t := ⟨#[]⟩) (List.mem_cons_of_mem _ List.mem_cons_self)).cells
  obtain ⟨yr0, yr1, yr2, yr3, yr4, yr5⟩ := (AgS.get hA5 (g := g0) (k := 0) (n := 0) (t := ⟨#[]⟩) (List.mem_cons_of_mem _ (List.mem_cons_of_mem _ List.mem_cons_self))).cells
  go_wp2
  exact bodyPost_ret (v := .agg #[.int .i64 0, .int .i64 0, .string ⟨#[]⟩]) (by simp only [results, Tryz.results36]; go_simp) rfl ⟨rfl, below_put hA5.2 hw0.out⟩

set_option maxHeartbeats 4000000 in
theorem rsub3_null2 (b off cap : Nat) (k n : Int) (t : ByteArray) (k1 n1 : Int) (t1 : ByteArray) (k2 n2 : Int) (t2 : ByteArray) (w : World) (hL : Lits w) (hA : ValsAt w (some ⟨b, off, none⟩) 3 [⟨k, n, t.data.toList⟩, ⟨k1, n1, t1.data.toList⟩, ⟨k2, n2, t2.data.toList⟩]) (hi : Val.inr n) (s : ByteArray) (hs : s.size ≤ 400) (hsh : Hid (Val.pshow ⟨k, n, t.data.toList⟩ = ⟨2, 0, s.data.toList⟩)) (p m k2x n2x : Int) (hp : Val.inr p) (hm : Val.inr m) (h1 : Hid (Val.num ⟨k1, n1, t1.data.toList⟩ = ⟨1, p, []⟩)) (h2 : Hid (Val.num ⟨k2, n2, t2.data.toList⟩ = ⟨0, 0, []⟩)) :
    Calls Tryz.prog 36 #[.slice (some ⟨b, off, none⟩) 3 cap] w (VRet 0 0 ⟨#[]⟩ w) := by
  obtain ⟨b', off', he, hV0⟩ := hA.get (i := 0) rfl
  cases he
  simp only [bs_of, Nat.zero_mul, Nat.one_mul, Nat.add_zero, Nat.reduceMul] at hV0
  obtain ⟨b', off', he, hV1⟩ := hA.get (i := 1) rfl
  cases he
  simp only [bs_of, Nat.zero_mul, Nat.one_mul, Nat.add_zero, Nat.reduceMul] at hV1
  obtain ⟨b', off', he, hV2⟩ := hA.get (i := 2) rfl
  cases he
  simp only [bs_of, Nat.zero_mul, Nat.one_mul, Nat.add_zero, Nat.reduceMul] at hV2
  obtain ⟨g0, hg0⟩ : ∃ g, w.heap.size = g := ⟨_, rfl⟩
  have hA0 := AgS.one w 0 0 ⟨#[]⟩
  rw [hg0] at hA0
  have hw0 : w.heap.size ≤ g0 := Nat.le_of_eq hg0
  obtain ⟨c0, c1, c2, _⟩ := hV0.on hA0.2
  obtain ⟨p0, p1⟩ := id hp
  obtain ⟨m0, m1⟩ := id hm
  replace hi := Lib.hid hi
  replace hp := Lib.hid hp
  replace hm := Lib.hid hm
  replace hw0 := Lib.hid hw0
  replace hg0 := Lib.hid hg0
  clear hA
  go_enter Tryz.func36, Tryz.ntmps36
  go_upto_region 1 with fail
  rw [hg0.out]
  go_wp2_with fail
  refine (rbytes18_is _ _ _ _ hi.out (hL.below hA0.2) _ _ hsh).mono ?_
  rintro e w1 ⟨rfl, hb1⟩
  have hA1 := hA0.on hb1
  obtain ⟨d0, d1, d2, _⟩ := hV1.on hA1.2
  clear c0 c1 c2
  go_wp2_with fail
  refine (rnum03_is _ _ _ _ (hL.below hA1.2) _ _ h1).mono ?_
  rintro e w2 ⟨rfl, hb2⟩
  have hA2 := (hA1.on hb2).new 1 p ⟨#[]⟩
  clear d0 d1 d2
  go_wp2_with fail
  refine (rint_any _ _).mono ?_
  rintro e w3 ⟨rfl, hb3⟩
  have hA3 := (hA2.on hb3).new 1 9000 ⟨#[]⟩
  go_upto_region 4 with fail
  obtain ⟨g4, hg4⟩ : ∃ g, w2.heap.size = g := ⟨_, rfl⟩
  obtain ⟨g5, hg5⟩ : ∃ g, w3.heap.size = g := ⟨_, rfl⟩
  have l4 : g4 < g5 := by have := hb3.size; rw [World.size_alloc] at this; omega
  have l0 : g0 < g4 := by rw [← hg4]; exact (hA1.on hb2).lt List.mem_cons_self
  obtain ⟨W3, hW3⟩ : ∃ W, w3.alloc (.cells #[.int .i64 1, .int .i64 9000, .string ⟨#[]⟩] 25) = W := ⟨_, rfl⟩
  rw [hg4, hg5, hW3] at hA3
  rw [hg4, hg5, hW3]
  clear hW3 hg4 hg5 hA2 hA1 hA0 hb1 hb2 hb3
  obtain ⟨c0, c1, c2, _⟩ := hV2.on hA3.2
  go_wp2_with fail
  refine (rnum03_is _ _ _ _ (hL.below hA3.2) _ _ h2).mono ?_
  rintro e w4 ⟨rfl, hb4⟩
  have hA4 := hA3.on hb4
  obtain ⟨xn0, xn1, xn2, xn3, xn4, xn5⟩ := (AgS.get hA4 (g := g5) (k := 1) (n := 9000) (t := ⟨#[]⟩) List.mem_cons_self).cells
  have hA5 := AgS.set (w := w) (W := w4) (k0 := 1) (n0 := 9000) (t0 := ⟨#[]⟩) hA4 (g := g5) (by have := hw0.out; omega) (ne2 (a := g4) (b := g0) (c := g5) _ _ (by omega) (by omega)) 0 0 ⟨#[]⟩
  obtain ⟨W5, hW5⟩ : ∃ W, ((w4.setCell ⟨g5, 0, none⟩ (.int .i64 0)).setCell ⟨g5, 1, none⟩ (.int .i64 0)).setCell ⟨g5, 2, none⟩ (.string ⟨#[]⟩) = W := ⟨_, rfl⟩
  rw [hW5] at hA5
  replace hW5 := Lib.hid hW5
  clear c0 c1 c2 hA3 hb4
  go_upto_region 6 with fail
  rw [hW5.out]
  clear hW5 hA4 xn0 xn1 xn2 xn3 xn4 xn5
  obtain ⟨yn0, yn1, yn2, yn3, yn4, yn5⟩ := (AgS.get hA5 (g := g5) (k := 0) (n := 0) (t := ⟨#[]⟩) List.mem_cons_self).cells
  obtain ⟨yp0, yp1, yp2, yp3, yp4, yp5⟩ := (AgS.get hA5 (g := g4) (k := 1) (n := p) (t := ⟨#[]⟩) (List.mem_cons_of_mem _ List.mem_cons_self)).cells
  obtain ⟨yr0, yr1, yr2, yr3, yr4, yr5⟩ := (AgS.get hA5 (g := g0) (k := 0) (n := 0) (t := ⟨#[]⟩) (List.mem_cons_of_mem _ (List.mem_cons_of_mem _ List.mem_cons_self))).cells
  go_wp2
  exact bodyPost_ret (v := .agg #[.int .i64 0, .int .i64 0, .string ⟨#[]⟩]) (by simp only [results, Tryz.results36]; go_simp) rfl ⟨rfl, below_put hA5.2 hw0.out⟩

set_option maxHeartbeats 4000000 in
theorem rsub2_okmb (b off cap : Nat) (k n : Int) (t : ByteArray) (k1 n1 : Int) (t1 : ByteArray) (w : World) (hL : Lits w) (hA : ValsAt w (some ⟨b, off, none⟩) 2 [⟨k, n, t.data.toList⟩, ⟨k1, n1, t1.data.toList⟩]) (hi : Val.inr n) (s : ByteArray) (hs : s.size ≤ 400) (hsh : Hid (Val.pshow ⟨k, n, t.data.toList⟩ = ⟨2, 0, s.data.toList⟩)) (p m k2x n2x : Int) (hp : Val.inr p) (hm : Val.inr m) (h1 : Hid (Val.num ⟨k1, n1, t1.data.toList⟩ = ⟨1, p, []⟩)) (hpp : p < 0) (hbl : k = 3) (R : ByteArray) (hR : Hid (bs (pieceT s.data.toList (p + (s.size : Int)) (s.size : Int)) = R)) :
    Calls Tryz.prog 36 #[.slice (some ⟨b, off, none⟩) 2 cap] w (VRet 3 0 R w) := by
  obtain ⟨b', off', he, hV0⟩ := hA.get (i := 0) rfl
  cases he
  simp only [bs_of, Nat.zero_mul, Nat.one_mul, Nat.add_zero, Nat.reduceMul] at hV0
  obtain ⟨b', off', he, hV1⟩ := hA.get (i := 1) rfl
  cases he
  simp only [bs_of, Nat.zero_mul, Nat.one_mul, Nat.add_zero, Nat.reduceMul] at hV1
  obtain ⟨g0, hg0⟩ : ∃ g, w.heap.size = g := ⟨_, rfl⟩
  have hA0 := AgS.one w 0 0 ⟨#[]⟩
  rw [hg0] at hA0
  have hw0 : w.heap.size ≤ g0 := Nat.le_of_eq hg0
  obtain ⟨c0, c1, c2, _⟩ := hV0.on hA0.2
  obtain ⟨p0, p1⟩ := id hp
  obtain ⟨m0, m1⟩ := id hm
  have b1 : decide (p < 0) = true := decide_eq_true hpp
  subst hbl
  have hRs : R.size ≤ 400 := by rw [← hR.out, ← ByteArray.size_data]; have := pieceT_len s.data.toList (p + (s.size : Int)) (s.size : Int); have e : s.data.toList.length = s.size := rfl; exact Nat.le_trans this (by omega)
  have hbe : Val.inr (p + (s.size : Int)) := by constructor <;> omega
  replace hbe := Lib.hid hbe
  replace hi := Lib.hid hi
  replace hp := Lib.hid hp
  replace hm := Lib.hid hm
  replace hw0 := Lib.hid hw0
  replace hg0 := Lib.hid hg0
  clear hA
  go_enter Tryz.func36, Tryz.ntmps36
  go_upto_region 1 with fail
  rw [hg0.out]
  go_wp2_with fail
  refine (rbytes18_is _ _ _ _ hi.out (hL.below hA0.2) _ _ hsh).mono ?_
  rintro e w1 ⟨rfl, hb1⟩
  have hA1 := hA0.on hb1
  obtain ⟨d0, d1, d2, _⟩ := hV1.on hA1.2
  clear c0 c1 c2
  go_wp2_with fail
  refine (rnum03_is _ _ _ _ (hL.below hA1.2) _ _ h1).mono ?_
  rintro e w2 ⟨rfl, hb2⟩
  have hA2 := (hA1.on hb2).new 1 p ⟨#[]⟩
  clear d0 d1 d2
  go_wp2_with fail
  refine (rint_any _ _).mono ?_
  rintro e w3 ⟨rfl, hb3⟩
  have hA3 := (hA2.on hb3).new 1 9000 ⟨#[]⟩
  go_upto_region 4 with fail
  obtain ⟨g4, hg4⟩ : ∃ g, w2.heap.size = g := ⟨_, rfl⟩
  obtain ⟨g5, hg5⟩ : ∃ g, w3.heap.size = g := ⟨_, rfl⟩
  have l4 : g4 < g5 := by have := hb3.size; rw [World.size_alloc] at this; omega
  have l0 : g0 < g4 := by rw [← hg4]; exact (hA1.on hb2).lt List.mem_cons_self
  obtain ⟨W3, hW3⟩ : ∃ W, w3.alloc (.cells #[.int .i64 1, .int .i64 9000, .string ⟨#[]⟩] 25) = W := ⟨_, rfl⟩
  rw [hg4, hg5, hW3] at hA3
  rw [hg4, hg5, hW3]
  clear hW3 hg4 hg5 hA2 hA1 hA0 hb1 hb2 hb3
  obtain ⟨yn0, yn1, yn2, yn3, yn4, yn5⟩ := (AgS.get hA3 (g := g5) (k := 1) (n := 9000) (t := ⟨#[]⟩) List.mem_cons_self).cells
  obtain ⟨yp0, yp1, yp2, yp3, yp4, yp5⟩ := (AgS.get hA3 (g := g4) (k := 1) (n := p) (t := ⟨#[]⟩) (List.mem_cons_of_mem _ List.mem_cons_self)).cells
  obtain ⟨yr0, yr1, yr2, yr3, yr4, yr5⟩ := (AgS.get hA3 (g := g0) (k := 0) (n := 0) (t := ⟨#[]⟩) (List.mem_cons_of_mem _ (List.mem_cons_of_mem _ List.mem_cons_self))).cells
  obtain ⟨u0, u1, u2, _⟩ := hV0.on hA3.2
  go_wp2_with fail
  refine (rpiece18_any _ _ _ _ (by omega) hbe.out (by constructor <;> omega) _ hR).mono ?_
  rintro e w8 ⟨rfl, hb8⟩
  have hA8 := hA3.on hb8
  clear yn0 yn1 yn2 yn3 yn4 yn5 yp0 yp1 yp2 yp3 yp4 yp5 yr0 yr1 yr2 yr3 yr4 yr5 u0 u1 u2
  obtain ⟨yr0, yr1, yr2, yr3, yr4, yr5⟩ := (AgS.get hA8 (g := g0) (k := 0) (n := 0) (t := ⟨#[]⟩) (List.mem_cons_of_mem _ (List.mem_cons_of_mem _ List.mem_cons_self))).cells
  go_wp2
  exact bodyPost_ret (v := .agg #[.int .i64 3, .int .i64 0, .string R]) (by simp only [results, Tryz.results36]; go_simp) rfl ⟨rfl, below_put hA8.2 hw0.out⟩

set_option maxHeartbeats 4000000 in
theorem rsub3_okmmb (b off cap : Nat) (k n : Int) (t : ByteArray) (k1 n1 : Int) (t1 : ByteArray) (k2 n2 : Int) (t2 : ByteArray) (w : World) (hL : Lits w) (hA : ValsAt w (some ⟨b, off, none⟩) 3 [⟨k, n, t.data.toList⟩, ⟨k1, n1, t1.data.toList⟩, ⟨k2, n2, t2.data.toList⟩]) (hi : Val.inr n) (s : ByteArray) (hs : s.size ≤ 400) (hsh : Hid (Val.pshow ⟨k, n, t.data.toList⟩ = ⟨2, 0, s.data.toList⟩)) (p m k2x n2x : Int) (hp : Val.inr p) (hm : Val.inr m) (h1 : Hid (Val.num ⟨k1, n1, t1.data.toList⟩ = ⟨1, p, []⟩)) (h2 : Hid (Val.num ⟨k2, n2, t2.data.toList⟩ = ⟨1, m, []⟩)) (hpp : p < 0) (hmm : m < 0) (hbl : k = 3) (R : ByteArray) (hR : Hid (bs (pieceT s.data.toList (clampI ((p + (s.size : Int)) + m)) (p + (s.size : Int))) = R)) :
    Calls Tryz.prog 36 #[.slice (some ⟨b, off, none⟩) 3 cap] w (VRet 3 0 R w) := by
  obtain ⟨b', off', he, hV0⟩ := hA.get (i := 0) rfl
  cases he
  simp only [bs_of, Nat.zero_mul, Nat.one_mul, Nat.add_zero, Nat.reduceMul] at hV0
  obtain ⟨b', off', he, hV1⟩ := hA.get (i := 1) rfl
  cases he
  simp only [bs_of, Nat.zero_mul, Nat.one_mul, Nat.add_zero, Nat.reduceMul] at hV1
  obtain ⟨b', off', he, hV2⟩ := hA.get (i := 2) rfl
  cases he
  simp only [bs_of, Nat.zero_mul, Nat.one_mul, Nat.add_zero, Nat.reduceMul] at hV2
  obtain ⟨g0, hg0⟩ : ∃ g, w.heap.size = g := ⟨_, rfl⟩
  have hA0 := AgS.one w 0 0 ⟨#[]⟩
  rw [hg0] at hA0
  have hw0 : w.heap.size ≤ g0 := Nat.le_of_eq hg0
  obtain ⟨c0, c1, c2, _⟩ := hV0.on hA0.2
  obtain ⟨p0, p1⟩ := id hp
  obtain ⟨m0, m1⟩ := id hm
  have b1 : decide (p < 0) = true := decide_eq_true hpp
  have b2 : decide (m < 0) = true := decide_eq_true hmm
  subst hbl
  have hRs : R.size ≤ 400 := by rw [← hR.out, ← ByteArray.size_data]; have := pieceT_len s.data.toList (clampI ((p + (s.size : Int)) + m)) (p + (s.size : Int)); have e : s.data.toList.length = s.size := rfl; exact Nat.le_trans this (by omega)
  have hbe : Val.inr (p + (s.size : Int)) := by constructor <;> omega
  have hcl : Val.inr (clampI ((p + (s.size : Int)) + m)) := by unfold clampI; constructor <;> (split <;> first | omega | (split <;> omega))
  replace hbe := Lib.hid hbe
  replace hcl := Lib.hid hcl
  replace hi := Lib.hid hi
  replace hp := Lib.hid hp
  replace hm := Lib.hid hm
  replace hw0 := Lib.hid hw0
  replace hg0 := Lib.hid hg0
  clear hA
  go_enter Tryz.func36, Tryz.ntmps36
  go_upto_region 1 with fail
  rw [hg0.out]
  go_wp2_with fail
  refine (rbytes18_is _ _ _ _ hi.out (hL.below hA0.2) _ _ hsh).mono ?_
  rintro e w1 ⟨rfl, hb1⟩
  have hA1 := hA0.on hb1
  obtain ⟨d0, d1, d2, _⟩ := hV1.on hA1.2
  clear c0 c1 c2
  go_wp2_with fail
  refine (rnum03_is _ _ _ _ (hL.below hA1.2) _ _ h1).mono ?_
  rintro e w2 ⟨rfl, hb2⟩
  have hA2 := (hA1.on hb2).new 1 p ⟨#[]⟩
  clear d0 d1 d2
  go_wp2_with fail
  refine (rint_any _ _).mono ?_
  rintro e w3 ⟨rfl, hb3⟩
  have hA3 := (hA2.on hb3).new 1 9000 ⟨#[]⟩
  go_upto_region 4 with fail
  obtain ⟨g4, hg4⟩ : ∃ g, w2.heap.size = g := ⟨_, rfl⟩
  obtain ⟨g5, hg5⟩ : ∃ g, w3.heap.size = g := ⟨_, rfl⟩
  have l4 : g4 < g5 := by have := hb3.size; rw [World.size_alloc] at this; omega
  have l0 : g0 < g4 := by rw [← hg4]; exact (hA1.on hb2).lt List.mem_cons_self
  obtain ⟨W3, hW3⟩ : ∃ W, w3.alloc (.cells #[.int .i64 1, .int .i64 9000, .string ⟨#[]⟩] 25) = W := ⟨_, rfl⟩
  rw [hg4, hg5, hW3] at hA3
  rw [hg4, hg5, hW3]
  clear hW3 hg4 hg5 hA2 hA1 hA0 hb1 hb2 hb3
  obtain ⟨c0, c1, c2, _⟩ := hV2.on hA3.2
  go_wp2_with fail
  refine (rnum03_is _ _ _ _ (hL.below hA3.2) _ _ h2).mono ?_
  rintro e w4 ⟨rfl, hb4⟩
  have hA4 := hA3.on hb4
  obtain ⟨xn0, xn1, xn2, xn3, xn4, xn5⟩ := (AgS.get hA4 (g := g5) (k := 1) (n := 9000) (t := ⟨#[]⟩) List.mem_cons_self).cells
  have hA5 := AgS.set (w := w) (W := w4) (k0 := 1) (n0 := 9000) (t0 := ⟨#[]⟩) hA4 (g := g5) (by have := hw0.out; omega) (ne2 (a := g4) (b := g0) (c := g5) _ _ (by omega) (by omega)) 1 m ⟨#[]⟩
  obtain ⟨W5, hW5⟩ : ∃ W, ((w4.setCell ⟨g5, 0, none⟩ (.int .i64 1)).setCell ⟨g5, 1, none⟩ (.int .i64 m)).setCell ⟨g5, 2, none⟩ (.string ⟨#[]⟩) = W := ⟨_, rfl⟩
  rw [hW5] at hA5
  replace hW5 := Lib.hid hW5
  clear c0 c1 c2 hA3 hb4
  go_upto_region 6 with fail
  rw [hW5.out]
  clear hW5 hA4 xn0 xn1 xn2 xn3 xn4 xn5
  obtain ⟨yn0, yn1, yn2, yn3, yn4, yn5⟩ := (AgS.get hA5 (g := g5) (k := 1) (n := m) (t := ⟨#[]⟩) List.mem_cons_self).cells
  obtain ⟨yp0, yp1, yp2, yp3, yp4, yp5⟩ := (AgS.get hA5 (g := g4) (k := 1) (n := p) (t := ⟨#[]⟩) (List.mem_cons_of_mem _ List.mem_cons_self)).cells
  obtain ⟨yr0, yr1, yr2, yr3, yr4, yr5⟩ := (AgS.get hA5 (g := g0) (k := 0) (n := 0) (t := ⟨#[]⟩) (List.mem_cons_of_mem _ (List.mem_cons_of_mem _ List.mem_cons_self))).cells
  go_wp2_with fail
  refine (rsum18_is _ _ _ hbe.out hm.out).mono ?_
  rintro e w6 ⟨rfl, hb6⟩
  have hA6 := hA5.on hb6
  clear yn0 yn1 yn2 yn3 yn4 yn5 yp0 yp1 yp2 yp3 yp4 yp5 yr0 yr1 yr2 yr3 yr4 yr5
  obtain ⟨yn0, yn1, yn2, yn3, yn4, yn5⟩ := (AgS.get hA6 (g := g5) (k := 1) (n := m) (t := ⟨#[]⟩) List.mem_cons_self).cells
  obtain ⟨yp0, yp1, yp2, yp3, yp4, yp5⟩ := (AgS.get hA6 (g := g4) (k := 1) (n := p) (t := ⟨#[]⟩) (List.mem_cons_of_mem _ List.mem_cons_self)).cells
  obtain ⟨yr0, yr1, yr2, yr3, yr4, yr5⟩ := (AgS.get hA6 (g := g0) (k := 0) (n := 0) (t := ⟨#[]⟩) (List.mem_cons_of_mem _ (List.mem_cons_of_mem _ List.mem_cons_self))).cells
  go_wp2_with fail
  refine (rsum18_is _ _ _ hbe.out hm.out).mono ?_
  rintro e w7 ⟨rfl, hb7⟩
  have hA7 := hA6.on hb7
  clear yn0 yn1 yn2 yn3 yn4 yn5 yp0 yp1 yp2 yp3 yp4 yp5 yr0 yr1 yr2 yr3 yr4 yr5
  obtain ⟨yn0, yn1, yn2, yn3, yn4, yn5⟩ := (AgS.get hA7 (g := g5) (k := 1) (n := m) (t := ⟨#[]⟩) List.mem_cons_self).cells
  obtain ⟨yp0, yp1, yp2, yp3, yp4, yp5⟩ := (AgS.get hA7 (g := g4) (k := 1) (n := p) (t := ⟨#[]⟩) (List.mem_cons_of_mem _ List.mem_cons_self)).cells
  obtain ⟨yr0, yr1, yr2, yr3, yr4, yr5⟩ := (AgS.get hA7 (g := g0) (k := 0) (n := 0) (t := ⟨#[]⟩) (List.mem_cons_of_mem _ (List.mem_cons_of_mem _ List.mem_cons_self))).cells
  obtain ⟨u0, u1, u2, _⟩ := hV0.on hA7.2
  go_wp2_with fail
  refine (rpiece18_any _ _ _ _ (by omega) hcl.out hbe.out _ hR).mono ?_
  rintro e w8 ⟨rfl, hb8⟩
  have hA8 := hA7.on hb8
  clear yn0 yn1 yn2 yn3 yn4 yn5 yp0 yp1 yp2 yp3 yp4 yp5 yr0 yr1 yr2 yr3 yr4 yr5 u0 u1 u2
  obtain ⟨yr0, yr1, yr2, yr3, yr4, yr5⟩ := (AgS.get hA8 (g := g0) (k := 0) (n := 0) (t := ⟨#[]⟩) (List.mem_cons_of_mem _ (List.mem_cons_of_mem _ List.mem_cons_self))).cells
  go_wp2
  exact bodyPost_ret (v := .agg #[.int .i64 3, .int .i64 0, .string R]) (by simp only [results, Tryz.results36]; go_simp) rfl ⟨rfl, below_put hA8.2 hw0.out⟩

set_option maxHeartbeats 4000000 in
theorem rsub3_okmpb (b off cap : Nat) (k n : Int) (t : ByteArray) (k1 n1 : Int) (t1 : ByteArray) (k2 n2 : Int) (t2 : ByteArray) (w : World) (hL : Lits w) (hA : ValsAt w (some ⟨b, off, none⟩) 3 [⟨k, n, t.data.toList⟩, ⟨k1, n1, t1.data.toList⟩, ⟨k2, n2, t2.data.toList⟩]) (hi : Val.inr n) (s : ByteArray) (hs : s.size ≤ 400) (hsh : Hid (Val.pshow ⟨k, n, t.data.toList⟩ = ⟨2, 0, s.data.toList⟩)) (p m k2x n2x : Int) (hp : Val.inr p) (hm : Val.inr m) (h1 : Hid (Val.num ⟨k1, n1, t1.data.toList⟩ = ⟨1, p, []⟩)) (h2 : Hid (Val.num ⟨k2, n2, t2.data.toList⟩ = ⟨1, m, []⟩)) (hpp : p < 0) (hmm : 0 ≤ m) (hbl : k = 3) (R : ByteArray) (hR : Hid (bs (pieceT s.data.toList (p + (s.size : Int)) (clampI ((p + (s.size : Int)) + m))) = R)) :
    Calls Tryz.prog 36 #[.slice (some ⟨b, off, none⟩) 3 cap] w (VRet 3 0 R w) := by
  obtain ⟨b', off', he, hV0⟩ := hA.get (i := 0) rfl
  cases he
  simp only [bs_of, Nat.zero_mul, Nat.one_mul, Nat.add_zero, Nat.reduceMul] at hV0
  obtain ⟨b', off', he, hV1⟩ := hA.get (i := 1) rfl
  cases he
  simp only [bs_of, Nat.zero_mul, Nat.one_mul, Nat.add_zero, Nat.reduceMul] at hV1
  obtain ⟨b', off', he, hV2⟩ := hA.get (i := 2) rfl
  cases he
  simp only [bs_of, Nat.zero_mul, Nat.one_mul, Nat.add_zero, Nat.reduceMul] at hV2
  obtain ⟨g0, hg0⟩ : ∃ g, w.heap.size = g := ⟨_, rfl⟩
  have hA0 := AgS.one w 0 0 ⟨#[]⟩
  rw [hg0] at hA0
  have hw0 : w.heap.size ≤ g0 := Nat.le_of_eq hg0
  obtain ⟨c0, c1, c2, _⟩ := hV0.on hA0.2
  obtain ⟨p0, p1⟩ := id hp
  obtain ⟨m0, m1⟩ := id hm
  have b1 : decide (p < 0) = true := decide_eq_true hpp
  have b2 : decide (m < 0) = false := decide_eq_false (by omega)
  subst hbl
  have hRs : R.size ≤ 400 := by rw [← hR.out, ← ByteArray.size_data]; have := pieceT_len s.data.toList (p + (s.size : Int)) (clampI ((p + (s.size : Int)) + m)); have e : s.data.toList.length = s.size := rfl; exact Nat.le_trans this (by omega)
  have hbe : Val.inr (p + (s.size : Int)) := by constructor <;> omega
  have hcl : Val.inr (clampI ((p + (s.size : Int)) + m)) := by unfold clampI; constructor <;> (split <;> first | omega | (split <;> omega))
  replace hbe := Lib.hid hbe
  replace hcl := Lib.hid hcl
  replace hi := Lib.hid hi
  replace hp := Lib.hid hp
  replace hm := Lib.hid hm
  replace hw0 := Lib.hid hw0
  replace hg0 := Lib.hid hg0
  clear hA
  go_enter Tryz.func36, Tryz.ntmps36
  go_upto_region 1 with fail
  rw [hg0.out]
  go_wp2_with fail
  refine (rbytes18_is _ _ _ _ hi.out (hL.below hA0.2) _ _ hsh).mono ?_
  rintro e w1 ⟨rfl, hb1⟩
  have hA1 := hA0.on hb1
  obtain ⟨d0, d1, d2, _⟩ := hV1.on hA1.2
  clear c0 c1 c2
  go_wp2_with fail
  refine (rnum03_is _ _ _ _ (hL.below hA1.2) _ _ h1).mono ?_
  rintro e w2 ⟨rfl, hb2⟩
  have hA2 := (hA1.on hb2).new 1 p ⟨#[]⟩
  clear d0 d1 d2
  go_wp2_with fail
  refine (rint_any _ _).mono ?_
  rintro e w3 ⟨rfl, hb3⟩
  have hA3 := (hA2.on hb3).new 1 9000 ⟨#[]⟩
  go_upto_region 4 with fail
  obtain ⟨g4, hg4⟩ : ∃ g, w2.heap.size = g := ⟨_, rfl⟩
  obtain ⟨g5, hg5⟩ : ∃ g, w3.heap.size = g := ⟨_, rfl⟩
  have l4 : g4 < g5 := by have := hb3.size; rw [World.size_alloc] at this; omega
  have l0 : g0 < g4 := by rw [← hg4]; exact (hA1.on hb2).lt List.mem_cons_self
  obtain ⟨W3, hW3⟩ : ∃ W, w3.alloc (.cells #[.int .i64 1, .int .i64 9000, .string ⟨#[]⟩] 25) = W := ⟨_, rfl⟩
  rw [hg4, hg5, hW3] at hA3
  rw [hg4, hg5, hW3]
  clear hW3 hg4 hg5 hA2 hA1 hA0 hb1 hb2 hb3
  obtain ⟨c0, c1, c2, _⟩ := hV2.on hA3.2
  go_wp2_with fail
  refine (rnum03_is _ _ _ _ (hL.below hA3.2) _ _ h2).mono ?_
  rintro e w4 ⟨rfl, hb4⟩
  have hA4 := hA3.on hb4
  obtain ⟨xn0, xn1, xn2, xn3, xn4, xn5⟩ := (AgS.get hA4 (g := g5) (k := 1) (n := 9000) (t := ⟨#[]⟩) List.mem_cons_self).cells
  have hA5 := AgS.set (w := w) (W := w4) (k0 := 1) (n0 := 9000) (t0 := ⟨#[]⟩) hA4 (g := g5) (by have := hw0.out; omega) (ne2 (a := g4) (b := g0) (c := g5) _ _ (by omega) (by omega)) 1 m ⟨#[]⟩
  obtain ⟨W5, hW5⟩ : ∃ W, ((w4.setCell ⟨g5, 0, none⟩ (.int .i64 1)).setCell ⟨g5, 1, none⟩ (.int .i64 m)).setCell ⟨g5, 2, none⟩ (.string ⟨#[]⟩) = W := ⟨_, rfl⟩
  rw [hW5] at hA5
  replace hW5 := Lib.hid hW5
  clear c0 c1 c2 hA3 hb4
  go_upto_region 6 with fail
  rw [hW5.out]
  clear hW5 hA4 xn0 xn1 xn2 xn3 xn4 xn5
  obtain ⟨yn0, yn1, yn2, yn3, yn4, yn5⟩ := (AgS.get hA5 (g := g5) (k := 1) (n := m) (t := ⟨#[]⟩) List.mem_cons_self).cells
  obtain ⟨yp0, yp1, yp2, yp3, yp4, yp5⟩ := (AgS.get hA5 (g := g4) (k := 1) (n := p) (t := ⟨#[]⟩) (List.mem_cons_of_mem _ List.mem_cons_self)).cells
  obtain ⟨yr0, yr1, yr2, yr3, yr4, yr5⟩ := (AgS.get hA5 (g := g0) (k := 0) (n := 0) (t := ⟨#[]⟩) (List.mem_cons_of_mem _ (List.mem_cons_of_mem _ List.mem_cons_self))).cells
  go_wp2_with fail
  refine (rsum18_is _ _ _ hbe.out hm.out).mono ?_
  rintro e w6 ⟨rfl, hb6⟩
  have hA6 := hA5.on hb6
  clear yn0 yn1 yn2 yn3 yn4 yn5 yp0 yp1 yp2 yp3 yp4 yp5 yr0 yr1 yr2 yr3 yr4 yr5
  obtain ⟨yn0, yn1, yn2, yn3, yn4, yn5⟩ := (AgS.get hA6 (g := g5) (k := 1) (n := m) (t := ⟨#[]⟩) List.mem_cons_self).cells
  obtain ⟨yp0, yp1, yp2, yp3, yp4, yp5⟩ := (AgS.get hA6 (g := g4) (k := 1) (n := p) (t := ⟨#[]⟩) (List.mem_cons_of_mem _ List.mem_cons_self)).cells
  obtain ⟨yr0, yr1, yr2, yr3, yr4, yr5⟩ := (AgS.get hA6 (g := g0) (k := 0) (n := 0) (t := ⟨#[]⟩) (List.mem_cons_of_mem _ (List.mem_cons_of_mem _ List.mem_cons_self))).cells
  obtain ⟨u0, u1, u2, _⟩ := hV0.on hA6.2
  go_wp2_with fail
  refine (rpiece18_any _ _ _ _ (by omega) hbe.out hcl.out _ hR).mono ?_
  rintro e w8 ⟨rfl, hb8⟩
  have hA8 := hA6.on hb8
  clear yn0 yn1 yn2 yn3 yn4 yn5 yp0 yp1 yp2 yp3 yp4 yp5 yr0 yr1 yr2 yr3 yr4 yr5 u0 u1 u2
  obtain ⟨yr0, yr1, yr2, yr3, yr4, yr5⟩ := (AgS.get hA8 (g := g0) (k := 0) (n := 0) (t := ⟨#[]⟩) (List.mem_cons_of_mem _ (List.mem_cons_of_mem _ List.mem_cons_self))).cells
  go_wp2
  exact bodyPost_ret (v := .agg #[.int .i64 3, .int .i64 0, .string R]) (by simp only [results, Tryz.results36]; go_simp) rfl ⟨rfl, below_put hA8.2 hw0.out⟩

set_option maxHeartbeats 4000000 in
theorem rsub2_okmt (b off cap : Nat) (k n : Int) (t : ByteArray) (k1 n1 : Int) (t1 : ByteArray) (w : World) (hL : Lits w) (hA : ValsAt w (some ⟨b, off, none⟩) 2 [⟨k, n, t.data.toList⟩, ⟨k1, n1, t1.data.toList⟩]) (hi : Val.inr n) (s : ByteArray) (hs : s.size ≤ 400) (hsh : Hid (Val.pshow ⟨k, n, t.data.toList⟩ = ⟨2, 0, s.data.toList⟩)) (p m k2x n2x : Int) (hp : Val.inr p) (hm : Val.inr m) (h1 : Hid (Val.num ⟨k1, n1, t1.data.toList⟩ = ⟨1, p, []⟩)) (hpp : p < 0) (hbl : k ≠ 3) (R : ByteArray) (hR : Hid (bs (pieceT s.data.toList (p + (s.size : Int)) (s.size : Int)) = R)) :
    Calls Tryz.prog 36 #[.slice (some ⟨b, off, none⟩) 2 cap] w (VRet 2 0 R w) := by
  obtain ⟨b', off', he, hV0⟩ := hA.get (i := 0) rfl
  cases he
  simp only [bs_of, Nat.zero_mul, Nat.one_mul, Nat.add_zero, Nat.reduceMul] at hV0
  obtain ⟨b', off', he, hV1⟩ := hA.get (i := 1) rfl
  cases he
  simp only [bs_of, Nat.zero_mul, Nat.one_mul, Nat.add_zero, Nat.reduceMul] at hV1
  obtain ⟨g0, hg0⟩ : ∃ g, w.heap.size = g := ⟨_, rfl⟩
  have hA0 := AgS.one w 0 0 ⟨#[]⟩
  rw [hg0] at hA0
  have hw0 : w.heap.size ≤ g0 := Nat.le_of_eq hg0
  obtain ⟨c0, c1, c2, _⟩ := hV0.on hA0.2
  obtain ⟨p0, p1⟩ := id hp
  obtain ⟨m0, m1⟩ := id hm
  have b1 : decide (p < 0) = true := decide_eq_true hpp
  have b3 : (k == 3) = false := by simpa using hbl
  replace hbl := Lib.hid hbl
  have hRs : R.size ≤ 400 := by rw [← hR.out, ← ByteArray.size_data]; have := pieceT_len s.data.toList (p + (s.size : Int)) (s.size : Int); have e : s.data.toList.length = s.size := rfl; exact Nat.le_trans this (by omega)
  have hbe : Val.inr (p + (s.size : Int)) := by constructor <;> omega
  replace hbe := Lib.hid hbe
  replace hi := Lib.hid hi
  replace hp := Lib.hid hp
  replace hm := Lib.hid hm
  replace hw0 := Lib.hid hw0
  replace hg0 := Lib.hid hg0
  clear hA
  go_enter Tryz.func36, Tryz.ntmps36
  go_upto_region 1 with fail
  rw [hg0.out]
  go_wp2_with fail
  refine (rbytes18_is _ _ _ _ hi.out (hL.below hA0.2) _ _ hsh).mono ?_
  rintro e w1 ⟨rfl, hb1⟩
  have hA1 := hA0.on hb1
  obtain ⟨d0, d1, d2, _⟩ := hV1.on hA1.2
  clear c0 c1 c2
  go_wp2_with fail
  refine (rnum03_is _ _ _ _ (hL.below hA1.2) _ _ h1).mono ?_
  rintro e w2 ⟨rfl, hb2⟩
  have hA2 := (hA1.on hb2).new 1 p ⟨#[]⟩
  clear d0 d1 d2
  go_wp2_with fail
  refine (rint_any _ _).mono ?_
  rintro e w3 ⟨rfl, hb3⟩
  have hA3 := (hA2.on hb3).new 1 9000 ⟨#[]⟩
  go_upto_region 4 with fail
  obtain ⟨g4, hg4⟩ : ∃ g, w2.heap.size = g := ⟨_, rfl⟩
  obtain ⟨g5, hg5⟩ : ∃ g, w3.heap.size = g := ⟨_, rfl⟩
  have l4 : g4 < g5 := by have := hb3.size; rw [World.size_alloc] at this; omega
  have l0 : g0 < g4 := by rw [← hg4]; exact (hA1.on hb2).lt List.mem_cons_self
  obtain ⟨W3, hW3⟩ : ∃ W, w3.alloc (.cells #[.int .i64 1, .int .i64 9000, .string ⟨#[]⟩] 25) = W := ⟨_, rfl⟩
  rw [hg4, hg5, hW3] at hA3
  rw [hg4, hg5, hW3]
  clear hW3 hg4 hg5 hA2 hA1 hA0 hb1 hb2 hb3
  obtain ⟨yn0, yn1, yn2, yn3, yn4, yn5⟩ := (AgS.get hA3 (g := g5) (k := 1) (n := 9000) (t := ⟨#[]⟩) List.mem_cons_self).cells
  obtain ⟨yp0, yp1, yp2, yp3, yp4, yp5⟩ := (AgS.get hA3 (g := g4) (k := 1) (n := p) (t := ⟨#[]⟩) (List.mem_cons_of_mem _ List.mem_cons_self)).cells
  obtain ⟨yr0, yr1, yr2, yr3, yr4, yr5⟩ := (AgS.get hA3 (g := g0) (k := 0) (n := 0) (t := ⟨#[]⟩) (List.mem_cons_of_mem _ (List.mem_cons_of_mem _ List.mem_cons_self))).cells
  obtain ⟨u0, u1, u2, _⟩ := hV0.on hA3.2
  go_wp2_with fail
  refine (rpiece18_any _ _ _ _ (by omega) hbe.out (by constructor <;> omega) _ hR).mono ?_
  rintro e w8 ⟨rfl, hb8⟩
  have hA8 := hA3.on hb8
  clear yn0 yn1 yn2 yn3 yn4 yn5 yp0 yp1 yp2 yp3 yp4 yp5 yr0 yr1 yr2 yr3 yr4 yr5 u0 u1 u2
  obtain ⟨yr0, yr1, yr2, yr3, yr4, yr5⟩ := (AgS.get hA8 (g := g0) (k := 0) (n := 0) (t := ⟨#[]⟩) (List.mem_cons_of_mem _ (List.mem_cons_of_mem _ List.mem_cons_self))).cells
  go_wp2_with fail
  refine (rtext_ok _ _ hRs).mono ?_
  rintro e w9 ⟨rfl, hb9⟩
  have hA9 := hA8.on hb9
  clear yr0 yr1 yr2 yr3 yr4 yr5
  obtain ⟨yr0, yr1, yr2, yr3, yr4, yr5⟩ := (AgS.get hA9 (g := g0) (k := 0) (n := 0) (t := ⟨#[]⟩) (List.mem_cons_of_mem _ (List.mem_cons_of_mem _ List.mem_cons_self))).cells
  go_wp2
  exact bodyPost_ret (v := .agg #[.int .i64 2, .int .i64 0, .string R]) (by simp only [results, Tryz.results36]; go_simp) rfl ⟨rfl, below_put hA9.2 hw0.out⟩

set_option maxHeartbeats 4000000 in
theorem rsub3_okmmt (b off cap : Nat) (k n : Int) (t : ByteArray) (k1 n1 : Int) (t1 : ByteArray) (k2 n2 : Int) (t2 : ByteArray) (w : World) (hL : Lits w) (hA : ValsAt w (some ⟨b, off, none⟩) 3 [⟨k, n, t.data.toList⟩, ⟨k1, n1, t1.data.toList⟩, ⟨k2, n2, t2.data.toList⟩]) (hi : Val.inr n) (s : ByteArray) (hs : s.size ≤ 400) (hsh : Hid (Val.pshow ⟨k, n, t.data.toList⟩ = ⟨2, 0, s.data.toList⟩)) (p m k2x n2x : Int) (hp : Val.inr p) (hm : Val.inr m) (h1 : Hid (Val.num ⟨k1, n1, t1.data.toList⟩ = ⟨1, p, []⟩)) (h2 : Hid (Val.num ⟨k2, n2, t2.data.toList⟩ = ⟨1, m, []⟩)) (hpp : p < 0) (hmm : m < 0) (hbl : k ≠ 3) (R : ByteArray) (hR : Hid (bs (pieceT s.data.toList (clampI ((p + (s.size : Int)) + m)) (p + (s.size : Int))) = R)) :
    Calls Tryz.prog 36 #[.slice (some ⟨b, off, none⟩) 3 cap] w (VRet 2 0 R w) := by
  obtain ⟨b', off', he, hV0⟩ := hA.get (i := 0) rfl
  cases he
  simp only [bs_of, Nat.zero_mul, Nat.one_mul, Nat.add_zero, Nat.reduceMul] at hV0
  obtain ⟨b', off', he, hV1⟩ := hA.get (i := 1) rfl
  cases he
  simp only [bs_of, Nat.zero_mul, Nat.one_mul, Nat.add_zero, Nat.reduceMul] at hV1
  obtain ⟨b', off', he, hV2⟩ := hA.get (i := 2) rfl
  cases he
  simp only [bs_of, Nat.zero_mul, Nat.one_mul, Nat.add_zero, Nat.reduceMul] at hV2
  obtain ⟨g0, hg0⟩ : ∃ g, w.heap.size = g := ⟨_, rfl⟩
  have hA0 := AgS.one w 0 0 ⟨#[]⟩
  rw [hg0] at hA0
  have hw0 : w.heap.size ≤ g0 := Nat.le_of_eq hg0
  obtain ⟨c0, c1, c2, _⟩ := hV0.on hA0.2
  obtain ⟨p0, p1⟩ := id hp
  obtain ⟨m0, m1⟩ := id hm
  have b1 : decide (p < 0) = true := decide_eq_true hpp
  have b2 : decide (m < 0) = true := decide_eq_true hmm
  have b3 : (k == 3) = false := by simpa using hbl
  replace hbl := Lib.hid hbl
  have hRs : R.size ≤ 400 := by rw [← hR.out, ← ByteArray.size_data]; have := pieceT_len s.data.toList (clampI ((p + (s.size : Int)) + m)) (p + (s.size : Int)); have e : s.data.toList.length = s.size := rfl; exact Nat.le_trans this (by omega)
  have hbe : Val.inr (p + (s.size : Int)) := by constructor <;> omega
  have hcl : Val.inr (clampI ((p + (s.size : Int)) + m)) := by unfold clampI; constructor <;> (split <;> first | omega | (split <;> omega))
  replace hbe := Lib.hid hbe
  replace hcl := Lib.hid hcl
  replace hi := Lib.hid hi
  replace hp := Lib.hid hp
  replace hm := Lib.hid hm
  replace hw0 := Lib.hid hw0
  replace hg0 := Lib.hid hg0
  clear hA
  go_enter Tryz.func36, Tryz.ntmps36
  go_upto_region 1 with fail
  rw [hg0.out]
  go_wp2_with fail
  refine (rbytes18_is _ _ _ _ hi.out (hL.below hA0.2) _ _ hsh).mono ?_
  rintro e w1 ⟨rfl, hb1⟩
  have hA1 := hA0.on hb1
  obtain ⟨d0, d1, d2, _⟩ := hV1.on hA1.2
  clear c0 c1 c2
  go_wp2_with fail
  refine (rnum03_is _ _ _ _ (hL.below hA1.2) _ _ h1).mono ?_
  rintro e w2 ⟨rfl, hb2⟩
  have hA2 := (hA1.on hb2).new 1 p ⟨#[]⟩
  clear d0 d1 d2
  go_wp2_with fail
  refine (rint_any _ _).mono ?_
  rintro e w3 ⟨rfl, hb3⟩
  have hA3 := (hA2.on hb3).new 1 9000 ⟨#[]⟩
  go_upto_region 4 with fail
  obtain ⟨g4, hg4⟩ : ∃ g, w2.heap.size = g := ⟨_, rfl⟩
  obtain ⟨g5, hg5⟩ : ∃ g, w3.heap.size = g := ⟨_, rfl⟩
  have l4 : g4 < g5 := by have := hb3.size; rw [World.size_alloc] at this; omega
  have l0 : g0 < g4 := by rw [← hg4]; exact (hA1.on hb2).lt List.mem_cons_self
  obtain ⟨W3, hW3⟩ : ∃ W, w3.alloc (.cells #[.int .i64 1, .int .i64 9000, .string ⟨#[]⟩] 25) = W := ⟨_, rfl⟩
  rw [hg4, hg5, hW3] at hA3
  rw [hg4, hg5, hW3]
  clear hW3 hg4 hg5 hA2 hA1 hA0 hb1 hb2 hb3
  obtain ⟨c0, c1, c2, _⟩ := hV2.on hA3.2
  go_wp2_with fail
  refine (rnum03_is _ _ _ _ (hL.below hA3.2) _ _ h2).mono ?_
  rintro e w4 ⟨rfl, hb4⟩
  have hA4 := hA3.on hb4
  obtain ⟨xn0, xn1, xn2, xn3, xn4, xn5⟩ := (AgS.get hA4 (g := g5) (k := 1) (n := 9000) (t := ⟨#[]⟩) List.mem_cons_self).cells
  have hA5 := AgS.set (w := w) (W := w4) (k0 := 1) (n0 := 9000) (t0 := ⟨#[]⟩) hA4 (g := g5) (by have := hw0.out; omega) (ne2 (a := g4) (b := g0) (c := g5) _ _ (by omega) (by omega)) 1 m ⟨#[]⟩
  obtain ⟨W5, hW5⟩ : ∃ W, ((w4.setCell ⟨g5, 0, none⟩ (.int .i64 1)).setCell ⟨g5, 1, none⟩ (.int .i64 m)).setCell ⟨g5, 2, none⟩ (.string ⟨#[]⟩) = W := ⟨_, rfl⟩
  rw [hW5] at hA5
  replace hW5 := Lib.hid hW5
  clear c0 c1 c2 hA3 hb4
  go_upto_region 6 with fail
  rw [hW5.out]
  clear hW5 hA4 xn0 xn1 xn2 xn3 xn4 xn5
  obtain ⟨yn0, yn1, yn2, yn3, yn4, yn5⟩ := (AgS.get hA5 (g := g5) (k := 1) (n := m) (t := ⟨#[]⟩) List.mem_cons_self).cells
  obtain ⟨yp0, yp1, yp2, yp3, yp4, yp5⟩ := (AgS.get hA5 (g := g4) (k := 1) (n := p) (t := ⟨#[]⟩) (List.mem_cons_of_mem _ List.mem_cons_self)).cells
  obtain ⟨yr0, yr1, yr2, yr3, yr4, yr5⟩ := (AgS.get hA5 (g := g0) (k := 0) (n := 0) (t := ⟨#[]⟩) (List.mem_cons_of_mem _ (List.mem_cons_of_mem _ List.mem_cons_self))).cells
  go_wp2_with fail
  refine (rsum18_is _ _ _ hbe.out hm.out).mono ?_
  rintro e w6 ⟨rfl, hb6⟩
  have hA6 := hA5.on hb6
  clear yn0 yn1 yn2 yn3 yn4 yn5 yp0 yp1 yp2 yp3 yp4 yp5 yr0 yr1 yr2 yr3 yr4 yr5
  obtain ⟨yn0, yn1, yn2, yn3, yn4, yn5⟩ := (AgS.get hA6 (g := g5) (k := 1) (n := m) (t := ⟨#[]⟩) List.mem_cons_self).cells
  obtain ⟨yp0, yp1, yp2, yp3, yp4, yp5⟩ := (AgS.get hA6 (g := g4) (k := 1) (n := p) (t := ⟨#[]⟩) (List.mem_cons_of_mem _ List.mem_cons_self)).cells
  obtain ⟨yr0, yr1, yr2, yr3, yr4, yr5⟩ := (AgS.get hA6 (g := g0) (k := 0) (n := 0) (t := ⟨#[]⟩) (List.mem_cons_of_mem _ (List.mem_cons_of_mem _ List.mem_cons_self))).cells
  go_wp2_with fail
  refine (rsum18_is _ _ _ hbe.out hm.out).mono ?_
  rintro e w7 ⟨rfl, hb7⟩
  have hA7 := hA6.on hb7
  clear yn0 yn1 yn2 yn3 yn4 yn5 yp0 yp1 yp2 yp3 yp4 yp5 yr0 yr1 yr2 yr3 yr4 yr5
  obtain ⟨yn0, yn1, yn2, yn3, yn4, yn5⟩ := (AgS.get hA7 (g := g5) (k := 1) (n := m) (t := ⟨#[]⟩) List.mem_cons_self).cells
  obtain ⟨yp0, yp1, yp2, yp3, yp4, yp5⟩ := (AgS.get hA7 (g := g4) (k := 1) (n := p) (t := ⟨#[]⟩) (List.mem_cons_of_mem _ List.mem_cons_self)).cells
  obtain ⟨yr0, yr1, yr2, yr3, yr4, yr5⟩ := (AgS.get hA7 (g := g0) (k := 0) (n := 0) (t := ⟨#[]⟩) (List.mem_cons_of_mem _ (List.mem_cons_of_mem _ List.mem_cons_self))).cells
  obtain ⟨u0, u1, u2, _⟩ := hV0.on hA7.2
  go_wp2_with fail
  refine (rpiece18_any _ _ _ _ (by omega) hcl.out hbe.out _ hR).mono ?_
  rintro e w8 ⟨rfl, hb8⟩
  have hA8 := hA7.on hb8
  clear yn0 yn1 yn2 yn3 yn4 yn5 yp0 yp1 yp2 yp3 yp4 yp5 yr0 yr1 yr2 yr3 yr4 yr5 u0 u1 u2
  obtain ⟨yr0, yr1, yr2, yr3, yr4, yr5⟩ := (AgS.get hA8 (g := g0) (k := 0) (n := 0) (t := ⟨#[]⟩) (List.mem_cons_of_mem _ (List.mem_cons_of_mem _ List.mem_cons_self))).cells
  go_wp2_with fail
  refine (rtext_ok _ _ hRs).mono ?_
  rintro e w9 ⟨rfl, hb9⟩
  have hA9 := hA8.on hb9
  clear yr0 yr1 yr2 yr3 yr4 yr5
  obtain ⟨yr0, yr1, yr2, yr3, yr4, yr5⟩ := (AgS.get hA9 (g := g0) (k := 0) (n := 0) (t := ⟨#[]⟩) (List.mem_cons_of_mem _ (List.mem_cons_of_mem _ List.mem_cons_self))).cells
  go_wp2
  exact bodyPost_ret (v := .agg #[.int .i64 2, .int .i64 0, .string R]) (by simp only [results, Tryz.results36]; go_simp) rfl ⟨rfl, below_put hA9.2 hw0.out⟩

set_option maxHeartbeats 4000000 in
theorem rsub3_okmpt (b off cap : Nat) (k n : Int) (t : ByteArray) (k1 n1 : Int) (t1 : ByteArray) (k2 n2 : Int) (t2 : ByteArray) (w : World) (hL : Lits w) (hA : ValsAt w (some ⟨b, off, none⟩) 3 [⟨k, n, t.data.toList⟩, ⟨k1, n1, t1.data.toList⟩, ⟨k2, n2, t2.data.toList⟩]) (hi : Val.inr n) (s : ByteArray) (hs : s.size ≤ 400) (hsh : Hid (Val.pshow ⟨k, n, t.data.toList⟩ = ⟨2, 0, s.data.toList⟩)) (p m k2x n2x : Int) (hp : Val.inr p) (hm : Val.inr m) (h1 : Hid (Val.num ⟨k1, n1, t1.data.toList⟩ = ⟨1, p, []⟩)) (h2 : Hid (Val.num ⟨k2, n2, t2.data.toList⟩ = ⟨1, m, []⟩)) (hpp : p < 0) (hmm : 0 ≤ m) (hbl : k ≠ 3) (R : ByteArray) (hR : Hid (bs (pieceT s.data.toList (p + (s.size : Int)) (clampI ((p + (s.size : Int)) + m))) = R)) :
    Calls Tryz.prog 36 #[.slice (some ⟨b, off, none⟩) 3 cap] w (VRet 2 0 R w) := by
  obtain ⟨b', off', he, hV0⟩ := hA.get (i := 0) rfl
  cases he
  simp only [bs_of, Nat.zero_mul, Nat.one_mul, Nat.add_zero, Nat.reduceMul] at hV0
  obtain ⟨b', off', he, hV1⟩ := hA.get (i := 1) rfl
  cases he
  simp only [bs_of, Nat.zero_mul, Nat.one_mul, Nat.add_zero, Nat.reduceMul] at hV1
  obtain ⟨b', off', he, hV2⟩ := hA.get (i := 2) rfl
  cases he
  simp only [bs_of, Nat.zero_mul, Nat.one_mul, Nat.add_zero, Nat.reduceMul] at hV2
  obtain ⟨g0, hg0⟩ : ∃ g, w.heap.size = g := ⟨_, rfl⟩
  have hA0 := AgS.one w 0 0 ⟨#[]⟩
  rw [hg0] at hA0
  have hw0 : w.heap.size ≤ g0 := Nat.le_of_eq hg0
  obtain ⟨c0, c1, c2, _⟩ := hV0.on hA0.2
  obtain ⟨p0, p1⟩ := id hp
  obtain ⟨m0, m1⟩ := id hm
  have b1 : decide (p < 0) = true := decide_eq_true hpp
  have b2 : decide (m < 0) = false := decide_eq_false (by omega)
  have b3 : (k == 3) = false := by simpa using hbl
  replace hbl := Lib.hid hbl
  have hRs : R.size ≤ 400 := by rw [← hR.out, ← ByteArray.size_data]; have := pieceT_len s.data.toList (p + (s.size : Int)) (clampI ((p + (s.size : Int)) + m)); have e : s.data.toList.length = s.size := rfl; exact Nat.le_trans this (by omega)
  have hbe : Val.inr (p + (s.size : Int)) := by constructor <;> omega
  have hcl : Val.inr (clampI ((p + (s.size : Int)) + m)) := by unfold clampI; constructor <;> (split <;> first | omega | (split <;> omega))
  replace hbe := Lib.hid hbe
  replace hcl := Lib.hid hcl
  replace hi := Lib.hid hi
  replace hp := Lib.hid hp
  replace hm := Lib.hid hm
  replace hw0 := Lib.hid hw0
  replace hg0 := Lib.hid hg0
  clear hA
  go_enter Tryz.func36, Tryz.ntmps36
  go_upto_region 1 with fail
  rw [hg0.out]
  go_wp2_with fail
  refine (rbytes18_is _ _ _ _ hi.out (hL.below hA0.2) _ _ hsh).mono ?_
  rintro e w1 ⟨rfl, hb1⟩
  have hA1 := hA0.on hb1
  obtain ⟨d0, d1, d2, _⟩ := hV1.on hA1.2
  clear c0 c1 c2
  go_wp2_with fail
  refine (rnum03_is _ _ _ _ (hL.below hA1.2) _ _ h1).mono ?_
  rintro e w2 ⟨rfl, hb2⟩
  have hA2 := (hA1.on hb2).new 1 p ⟨#[]⟩
  clear d0 d1 d2
  go_wp2_with fail
  refine (rint_any _ _).mono ?_
  rintro e w3 ⟨rfl, hb3⟩
  have hA3 := (hA2.on hb3).new 1 9000 ⟨#[]⟩
  go_upto_region 4 with fail
  obtain ⟨g4, hg4⟩ : ∃ g, w2.heap.size = g := ⟨_, rfl⟩
  obtain ⟨g5, hg5⟩ : ∃ g, w3.heap.size = g := ⟨_, rfl⟩
  have l4 : g4 < g5 := by have := hb3.size; rw [World.size_alloc] at this; omega
  have l0 : g0 < g4 := by rw [← hg4]; exact (hA1.on hb2).lt List.mem_cons_self
  obtain ⟨W3, hW3⟩ : ∃ W, w3.alloc (.cells #[.int .i64 1, .int .i64 9000, .string ⟨#[]⟩] 25) = W := ⟨_, rfl⟩
  rw [hg4, hg5, hW3] at hA3
  rw [hg4, hg5, hW3]
  clear hW3 hg4 hg5 hA2 hA1 hA0 hb1 hb2 hb3
  obtain ⟨c0, c1, c2, _⟩ := hV2.on hA3.2
  go_wp2_with fail
  refine (rnum03_is _ _ _ _ (hL.below hA3.2) _ _ h2).mono ?_
  rintro e w4 ⟨rfl, hb4⟩
  have hA4 := hA3.on hb4
  obtain ⟨xn0, xn1, xn2, xn3, xn4, xn5⟩ := (AgS.get hA4 (g := g5) (k := 1) (n := 9000) (t := ⟨#[]⟩) List.mem_cons_self).cells
  have hA5 := AgS.set (w := w) (W := w4) (k0 := 1) (n0 := 9000) (t0 := ⟨#[]⟩) hA4 (g := g5) (by have := hw0.out; omega) (ne2 (a := g4) (b := g0) (c := g5) _ _ (by omega) (by omega)) 1 m ⟨#[]⟩
  obtain ⟨W5, hW5⟩ : ∃ W, ((w4.setCell ⟨g5, 0, none⟩ (.int .i64 1)).setCell ⟨g5, 1, none⟩ (.int .i64 m)).setCell ⟨g5, 2, none⟩ (.string ⟨#[]⟩) = W := ⟨_, rfl⟩
  rw [hW5] at hA5
  replace hW5 := Lib.hid hW5
  clear c0 c1 c2 hA3 hb4
  go_upto_region 6 with fail
  rw [hW5.out]
  clear hW5 hA4 xn0 xn1 xn2 xn3 xn4 xn5
  obtain ⟨yn0, yn1, yn2, yn3, yn4, yn5⟩ := (AgS.get hA5 (g := g5) (k := 1) (n := m) (t := ⟨#[]⟩) List.mem_cons_self).cells
  obtain ⟨yp0, yp1, yp2, yp3, yp4, yp5⟩ := (AgS.get hA5 (g := g4) (k := 1) (n := p) (t := ⟨#[]⟩) (List.mem_cons_of_mem _ List.mem_cons_self)).cells
  obtain ⟨yr0, yr1, yr2, yr3, yr4, yr5⟩ := (AgS.get hA5 (g := g0) (k := 0) (n := 0) (t := ⟨#[]⟩) (List.mem_cons_of_mem _ (List.mem_cons_of_mem _ List.mem_cons_self))).cells
  go_wp2_with fail
  refine (rsum18_is _ _ _ hbe.out hm.out).mono ?_
  rintro e w6 ⟨rfl, hb6⟩
  have hA6 := hA5.on hb6
  clear yn0 yn1 yn2 yn3 yn4 yn5 yp0 yp1 yp2 yp3 yp4 yp5 yr0 yr1 yr2 yr3 yr4 yr5
  obtain ⟨yn0, yn1, yn2, yn3, yn4, yn5⟩ := (AgS.get hA6 (g := g5) (k := 1) (n := m) (t := ⟨#[]⟩) List.mem_cons_self).cells
  obtain ⟨yp0, yp1, yp2, yp3, yp4, yp5⟩ := (AgS.get hA6 (g := g4) (k := 1) (n := p) (t := ⟨#[]⟩) (List.mem_cons_of_mem _ List.mem_cons_self)).cells
  obtain ⟨yr0, yr1, yr2, yr3, yr4, yr5⟩ := (AgS.get hA6 (g := g0) (k := 0) (n := 0) (t := ⟨#[]⟩) (List.mem_cons_of_mem _ (List.mem_cons_of_mem _ List.mem_cons_self))).cells
  obtain ⟨u0, u1, u2, _⟩ := hV0.on hA6.2
  go_wp2_with fail
  refine (rpiece18_any _ _ _ _ (by omega) hbe.out hcl.out _ hR).mono ?_
  rintro e w8 ⟨rfl, hb8⟩
  have hA8 := hA6.on hb8
  clear yn0 yn1 yn2 yn3 yn4 yn5 yp0 yp1 yp2 yp3 yp4 yp5 yr0 yr1 yr2 yr3 yr4 yr5 u0 u1 u2
  obtain ⟨yr0, yr1, yr2, yr3, yr4, yr5⟩ := (AgS.get hA8 (g := g0) (k := 0) (n := 0) (t := ⟨#[]⟩) (List.mem_cons_of_mem _ (List.mem_cons_of_mem _ List.mem_cons_self))).cells
  go_wp2_with fail
  refine (rtext_ok _ _ hRs).mono ?_
  rintro e w9 ⟨rfl, hb9⟩
  have hA9 := hA8.on hb9
  clear yr0 yr1 yr2 yr3 yr4 yr5
  obtain ⟨yr0, yr1, yr2, yr3, yr4, yr5⟩ := (AgS.get hA9 (g := g0) (k := 0) (n := 0) (t := ⟨#[]⟩) (List.mem_cons_of_mem _ (List.mem_cons_of_mem _ List.mem_cons_self))).cells
  go_wp2
  exact bodyPost_ret (v := .agg #[.int .i64 2, .int .i64 0, .string R]) (by simp only [results, Tryz.results36]; go_simp) rfl ⟨rfl, below_put hA9.2 hw0.out⟩

set_option maxHeartbeats 4000000 in
theorem rsub2_okpb (b off cap : Nat) (k n : Int) (t : ByteArray) (k1 n1 : Int) (t1 : ByteArray) (w : World) (hL : Lits w) (hA : ValsAt w (some ⟨b, off, none⟩) 2 [⟨k, n, t.data.toList⟩, ⟨k1, n1, t1.data.toList⟩]) (hi : Val.inr n) (s : ByteArray) (hs : s.size ≤ 400) (hsh : Hid (Val.pshow ⟨k, n, t.data.toList⟩ = ⟨2, 0, s.data.toList⟩)) (p m k2x n2x : Int) (hp : Val.inr p) (hm : Val.inr m) (h1 : Hid (Val.num ⟨k1, n1, t1.data.toList⟩ = ⟨1, p, []⟩)) (hpp : 0 ≤ p) (hbl : k = 3) (R : ByteArray) (hR : Hid (bs (pieceT s.data.toList (p - 1) (s.size : Int)) = R)) :
    Calls Tryz.prog 36 #[.slice (some ⟨b, off, none⟩) 2 cap] w (VRet 3 0 R w) := by
  obtain ⟨b', off', he, hV0⟩ := hA.get (i := 0) rfl
  cases he
  simp only [bs_of, Nat.zero_mul, Nat.one_mul, Nat.add_zero, Nat.reduceMul] at hV0
  obtain ⟨b', off', he, hV1⟩ := hA.get (i := 1) rfl
  cases he
  simp only [bs_of, Nat.zero_mul, Nat.one_mul, Nat.add_zero, Nat.reduceMul] at hV1
  obtain ⟨g0, hg0⟩ : ∃ g, w.heap.size = g := ⟨_, rfl⟩
  have hA0 := AgS.one w 0 0 ⟨#[]⟩
  rw [hg0] at hA0
  have hw0 : w.heap.size ≤ g0 := Nat.le_of_eq hg0
  obtain ⟨c0, c1, c2, _⟩ := hV0.on hA0.2
  obtain ⟨p0, p1⟩ := id hp
  obtain ⟨m0, m1⟩ := id hm
  have b1 : decide (p < 0) = false := decide_eq_false (by omega)
  subst hbl
  have hRs : R.size ≤ 400 := by rw [← hR.out, ← ByteArray.size_data]; have := pieceT_len s.data.toList (p - 1) (s.size : Int); have e : s.data.toList.length = s.size := rfl; exact Nat.le_trans this (by omega)
  have hbe : Val.inr (p - 1) := by constructor <;> omega
  replace hbe := Lib.hid hbe
  replace hi := Lib.hid hi
  replace hp := Lib.hid hp
  replace hm := Lib.hid hm
  replace hw0 := Lib.hid hw0
  replace hg0 := Lib.hid hg0
  clear hA
  go_enter Tryz.func36, Tryz.ntmps36
  go_upto_region 1 with fail
  rw [hg0.out]
  go_wp2_with fail
  refine (rbytes18_is _ _ _ _ hi.out (hL.below hA0.2) _ _ hsh).mono ?_
  rintro e w1 ⟨rfl, hb1⟩
  have hA1 := hA0.on hb1
  obtain ⟨d0, d1, d2, _⟩ := hV1.on hA1.2
  clear c0 c1 c2
  go_wp2_with fail
  refine (rnum03_is _ _ _ _ (hL.below hA1.2) _ _ h1).mono ?_
  rintro e w2 ⟨rfl, hb2⟩
  have hA2 := (hA1.on hb2).new 1 p ⟨#[]⟩
  clear d0 d1 d2
  go_wp2_with fail
  refine (rint_any _ _).mono ?_
  rintro e w3 ⟨rfl, hb3⟩
  have hA3 := (hA2.on hb3).new 1 9000 ⟨#[]⟩
  go_upto_region 4 with fail
  obtain ⟨g4, hg4⟩ : ∃ g, w2.heap.size = g := ⟨_, rfl⟩
  obtain ⟨g5, hg5⟩ : ∃ g, w3.heap.size = g := ⟨_, rfl⟩
  have l4 : g4 < g5 := by have := hb3.size; rw [World.size_alloc] at this; omega
  have l0 : g0 < g4 := by rw [← hg4]; exact (hA1.on hb2).lt List.mem_cons_self
  obtain ⟨W3, hW3⟩ : ∃ W, w3.alloc (.cells #[.int .i64 1, .int .i64 9000, .string ⟨#[]⟩] 25) = W := ⟨_, rfl⟩
  rw [hg4, hg5, hW3] at hA3
  rw [hg4, hg5, hW3]
  clear hW3 hg4 hg5 hA2 hA1 hA0 hb1 hb2 hb3
  obtain ⟨yn0, yn1, yn2, yn3, yn4, yn5⟩ := (AgS.get hA3 (g := g5) (k := 1) (n := 9000) (t := ⟨#[]⟩) List.mem_cons_self).cells
  obtain ⟨yp0, yp1, yp2, yp3, yp4, yp5⟩ := (AgS.get hA3 (g := g4) (k := 1) (n := p) (t := ⟨#[]⟩) (List.mem_cons_of_mem _ List.mem_cons_self)).cells
  obtain ⟨yr0, yr1, yr2, yr3, yr4, yr5⟩ := (AgS.get hA3 (g := g0) (k := 0) (n := 0) (t := ⟨#[]⟩) (List.mem_cons_of_mem _ (List.mem_cons_of_mem _ List.mem_cons_self))).cells
  obtain ⟨u0, u1, u2, _⟩ := hV0.on hA3.2
  go_wp2_with fail
  refine (rpiece18_any _ _ _ _ (by omega) hbe.out (by constructor <;> omega) _ hR).mono ?_
  rintro e w8 ⟨rfl, hb8⟩
  have hA8 := hA3.on hb8
  clear yn0 yn1 yn2 yn3 yn4 yn5 yp0 yp1 yp2 yp3 yp4 yp5 yr0 yr1 yr2 yr3 yr4 yr5 u0 u1 u2
  obtain ⟨yr0, yr1, yr2, yr3, yr4, yr5⟩ := (AgS.get hA8 (g := g0) (k := 0) (n := 0) (t := ⟨#[]⟩) (List.mem_cons_of_mem _ (List.mem_cons_of_mem _ List.mem_cons_self))).cells
  go_wp2
  exact bodyPost_ret (v := .agg #[.int .i64 3, .int .i64 0, .string R]) (by simp only [results, Tryz.results36]; go_simp) rfl ⟨rfl, below_put hA8.2 hw0.out⟩

set_option maxHeartbeats 4000000 in
theorem rsub3_okpmb (b off cap : Nat) (k n : Int) (t : ByteArray) (k1 n1 : Int) (t1 : ByteArray) (k2 n2 : Int) (t2 : ByteArray) (w : World) (hL : Lits w) (hA : ValsAt w (some ⟨b, off, none⟩) 3 [⟨k, n, t.data.toList⟩, ⟨k1, n1, t1.data.toList⟩, ⟨k2, n2, t2.data.toList⟩]) (hi : Val.inr n) (s : ByteArray) (hs : s.size ≤ 400) (hsh : Hid (Val.pshow ⟨k, n, t.data.toList⟩ = ⟨2, 0, s.data.toList⟩)) (p m k2x n2x : Int) (hp : Val.inr p) (hm : Val.inr m) (h1 : Hid (Val.num ⟨k1, n1, t1.data.toList⟩ = ⟨1, p, []⟩)) (h2 : Hid (Val.num ⟨k2, n2, t2.data.toList⟩ = ⟨1, m, []⟩)) (hpp : 0 ≤ p) (hmm : m < 0) (hbl : k = 3) (R : ByteArray) (hR : Hid (bs (pieceT s.data.toList (clampI ((p - 1) + m)) (p - 1)) = R)) :
    Calls Tryz.prog 36 #[.slice (some ⟨b, off, none⟩) 3 cap] w (VRet 3 0 R w) := by
  obtain ⟨b', off', he, hV0⟩ := hA.get (i := 0) rfl
  cases he
  simp only [bs_of, Nat.zero_mul, Nat.one_mul, Nat.add_zero, Nat.reduceMul] at hV0
  obtain ⟨b', off', he, hV1⟩ := hA.get (i := 1) rfl
  cases he
  simp only [bs_of, Nat.zero_mul, Nat.one_mul, Nat.add_zero, Nat.reduceMul] at hV1
  obtain ⟨b', off', he, hV2⟩ := hA.get (i := 2) rfl
  cases he
  simp only [bs_of, Nat.zero_mul, Nat.one_mul, Nat.add_zero, Nat.reduceMul] at hV2
  obtain ⟨g0, hg0⟩ : ∃ g, w.heap.size = g := ⟨_, rfl⟩
  have hA0 := AgS.one w 0 0 ⟨#[]⟩
  rw [hg0] at hA0
  have hw0 : w.heap.size ≤ g0 := Nat.le_of_eq hg0
  obtain ⟨c0, c1, c2, _⟩ := hV0.on hA0.2
  obtain ⟨p0, p1⟩ := id hp
  obtain ⟨m0, m1⟩ := id hm
  have b1 : decide (p < 0) = false := decide_eq_false (by omega)
  have b2 : decide (m < 0) = true := decide_eq_true hmm
  subst hbl
  have hRs : R.size ≤ 400 := by rw [← hR.out, ← ByteArray.size_data]; have := pieceT_len s.data.toList (clampI ((p - 1) + m)) (p - 1); have e : s.data.toList.length = s.size := rfl; exact Nat.le_trans this (by omega)
  have hbe : Val.inr (p - 1) := by constructor <;> omega
  have hcl : Val.inr (clampI ((p - 1) + m)) := by unfold clampI; constructor <;> (split <;> first | omega | (split <;> omega))
  replace hbe := Lib.hid hbe
  replace hcl := Lib.hid hcl
  replace hi := Lib.hid hi
  replace hp := Lib.hid hp
  replace hm := Lib.hid hm
  replace hw0 := Lib.hid hw0
  replace hg0 := Lib.hid hg0
  clear hA
  go_enter Tryz.func36, Tryz.ntmps36
  go_upto_region 1 with fail
  rw [hg0.out]
  go_wp2_with fail
  refine (rbytes18_is _ _ _ _ hi.out (hL.below hA0.2) _ _ hsh).mono ?_
  rintro e w1 ⟨rfl, hb1⟩
  have hA1 := hA0.on hb1
  obtain ⟨d0, d1, d2, _⟩ := hV1.on hA1.2
  clear c0 c1 c2
  go_wp2_with fail
  refine (rnum03_is _ _ _ _ (hL.below hA1.2) _ _ h1).mono ?_
  rintro e w2 ⟨rfl, hb2⟩
  have hA2 := (hA1.on hb2).new 1 p ⟨#[]⟩
  clear d0 d1 d2
  go_wp2_with fail
  refine (rint_any _ _).mono ?_
  rintro e w3 ⟨rfl, hb3⟩
  have hA3 := (hA2.on hb3).new 1 9000 ⟨#[]⟩
  go_upto_region 4 with fail
  obtain ⟨g4, hg4⟩ : ∃ g, w2.heap.size = g := ⟨_, rfl⟩
  obtain ⟨g5, hg5⟩ : ∃ g, w3.heap.size = g := ⟨_, rfl⟩
  have l4 : g4 < g5 := by have := hb3.size; rw [World.size_alloc] at this; omega
  have l0 : g0 < g4 := by rw [← hg4]; exact (hA1.on hb2).lt List.mem_cons_self
  obtain ⟨W3, hW3⟩ : ∃ W, w3.alloc (.cells #[.int .i64 1, .int .i64 9000, .string ⟨#[]⟩] 25) = W := ⟨_, rfl⟩
  rw [hg4, hg5, hW3] at hA3
  rw [hg4, hg5, hW3]
  clear hW3 hg4 hg5 hA2 hA1 hA0 hb1 hb2 hb3
  obtain ⟨c0, c1, c2, _⟩ := hV2.on hA3.2
  go_wp2_with fail
  refine (rnum03_is _ _ _ _ (hL.below hA3.2) _ _ h2).mono ?_
  rintro e w4 ⟨rfl, hb4⟩
  have hA4 := hA3.on hb4
  obtain ⟨xn0, xn1, xn2, xn3, xn4, xn5⟩ := (AgS.get hA4 (g := g5) (k := 1) (n := 9000) (t := ⟨#[]⟩) List.mem_cons_self).cells
  have hA5 := AgS.set (w := w) (W := w4) (k0 := 1) (n0 := 9000) (t0 := ⟨#[]⟩) hA4 (g := g5) (by have := hw0.out; omega) (ne2 (a := g4) (b := g0) (c := g5) _ _ (by omega) (by omega)) 1 m ⟨#[]⟩
  obtain ⟨W5, hW5⟩ : ∃ W, ((w4.setCell ⟨g5, 0, none⟩ (.int .i64 1)).setCell ⟨g5, 1, none⟩ (.int .i64 m)).setCell ⟨g5, 2, none⟩ (.string ⟨#[]⟩) = W := ⟨_, rfl⟩
  rw [hW5] at hA5
  replace hW5 := Lib.hid hW5
  clear c0 c1 c2 hA3 hb4
  go_upto_region 6 with fail
  rw [hW5.out]
  clear hW5 hA4 xn0 xn1 xn2 xn3 xn4 xn5
  obtain ⟨yn0, yn1, yn2, yn3, yn4, yn5⟩ := (AgS.get hA5 (g := g5) (k := 1) (n := m) (t := ⟨#[]⟩) List.mem_cons_self).cells
  obtain ⟨yp0, yp1, yp2, yp3, yp4, yp5⟩ := (AgS.get hA5 (g := g4) (k := 1) (n := p) (t := ⟨#[]⟩) (List.mem_cons_of_mem _ List.mem_cons_self)).cells
  obtain ⟨yr0, yr1, yr2, yr3, yr4, yr5⟩ := (AgS.get hA5 (g := g0) (k := 0) (n := 0) (t := ⟨#[]⟩) (List.mem_cons_of_mem _ (List.mem_cons_of_mem _ List.mem_cons_self))).cells
  go_wp2_with fail
  refine (rsum18_is _ _ _ hbe.out hm.out).mono ?_
  rintro e w6 ⟨rfl, hb6⟩
  have hA6 := hA5.on hb6
  clear yn0 yn1 yn2 yn3 yn4 yn5 yp0 yp1 yp2 yp3 yp4 yp5 yr0 yr1 yr2 yr3 yr4 yr5
  obtain ⟨yn0, yn1, yn2, yn3, yn4, yn5⟩ := (AgS.get hA6 (g := g5) (k := 1) (n := m) (t := ⟨#[]⟩) List.mem_cons_self).cells
  obtain ⟨yp0, yp1, yp2, yp3, yp4, yp5⟩ := (AgS.get hA6 (g := g4) (k := 1) (n := p) (t := ⟨#[]⟩) (List.mem_cons_of_mem _ List.mem_cons_self)).cells
  obtain ⟨yr0, yr1, yr2, yr3, yr4, yr5⟩ := (AgS.get hA6 (g := g0) (k := 0) (n := 0) (t := ⟨#[]⟩) (List.mem_cons_of_mem _ (List.mem_cons_of_mem _ List.mem_cons_self))).cells
  go_wp2_with fail
  refine (rsum18_is _ _ _ hbe.out hm.out).mono ?_
  rintro e w7 ⟨rfl, hb7⟩
  have hA7 := hA6.on hb7
  clear yn0 yn1 yn2 yn3 yn4 yn5 yp0 yp1 yp2 yp3 yp4 yp5 yr0 yr1 yr2 yr3 yr4 yr5
  obtain ⟨yn0, yn1, yn2, yn3, yn4, yn5⟩ := (AgS.get hA7 (g := g5) (k := 1) (n := m) (t := ⟨#[]⟩) List.mem_cons_self).cells
  obtain ⟨yp0, yp1, yp2, yp3, yp4, yp5⟩ := (AgS.get hA7 (g := g4) (k := 1) (n := p) (t := ⟨#[]⟩) (List.mem_cons_of_mem _ List.mem_cons_self)).cells
  obtain ⟨yr0, yr1, yr2, yr3, yr4, yr5⟩ := (AgS.get hA7 (g := g0) (k := 0) (n := 0) (t := ⟨#[]⟩) (List.mem_cons_of_mem _ (List.mem_cons_of_mem _ List.mem_cons_self))).cells
  obtain ⟨u0, u1, u2, _⟩ := hV0.on hA7.2
  go_wp2_with fail
  refine (rpiece18_any _ _ _ _ (by omega) hcl.out hbe.out _ hR).mono ?_
  rintro e w8 ⟨rfl, hb8⟩
  have hA8 := hA7.on hb8
  clear yn0 yn1 yn2 yn3 yn4 yn5 yp0 yp1 yp2 yp3 yp4 yp5 yr0 yr1 yr2 yr3 yr4 yr5 u0 u1 u2
  obtain ⟨yr0, yr1, yr2, yr3, yr4, yr5⟩ := (AgS.get hA8 (g := g0) (k := 0) (n := 0) (t := ⟨#[]⟩) (List.mem_cons_of_mem _ (List.mem_cons_of_mem _ List.mem_cons_self))).cells
  go_wp2
  exact bodyPost_ret (v := .agg #[.int .i64 3, .int .i64 0, .string R]) (by simp only [results, Tryz.results36]; go_simp) rfl ⟨rfl, below_put hA8.2 hw0.out⟩

set_option maxHeartbeats 4000000 in
theorem rsub3_okppb (b off cap : Nat) (k n : Int) (t : ByteArray) (k1 n1 : Int) (t1 : ByteArray) (k2 n2 : Int) (t2 : ByteArray) (w : World) (hL : Lits w) (hA : ValsAt w (some ⟨b, off, none⟩) 3 [⟨k, n, t.data.toList⟩, ⟨k1, n1, t1.data.toList⟩, ⟨k2, n2, t2.data.toList⟩]) (hi : Val.inr n) (s : ByteArray) (hs : s.size ≤ 400) (hsh : Hid (Val.pshow ⟨k, n, t.data.toList⟩ = ⟨2, 0, s.data.toList⟩)) (p m k2x n2x : Int) (hp : Val.inr p) (hm : Val.inr m) (h1 : Hid (Val.num ⟨k1, n1, t1.data.toList⟩ = ⟨1, p, []⟩)) (h2 : Hid (Val.num ⟨k2, n2, t2.data.toList⟩ = ⟨1, m, []⟩)) (hpp : 0 ≤ p) (hmm : 0 ≤ m) (hbl : k = 3) (R : ByteArray) (hR : Hid (bs (pieceT s.data.toList (p - 1) (clampI ((p - 1) + m))) = R)) :
    Calls Tryz.prog 36 #[.slice (some ⟨b, off, none⟩) 3 cap] w (VRet 3 0 R w) := by
  obtain ⟨b', off', he, hV0⟩ := hA.get (i := 0) rfl
  cases he
  simp only [bs_of, Nat.zero_mul, Nat.one_mul, Nat.add_zero, Nat.reduceMul] at hV0
  obtain ⟨b', off', he, hV1⟩ := hA.get (i := 1) rfl
  cases he
  simp only [bs_of, Nat.zero_mul, Nat.one_mul, Nat.add_zero, Nat.reduceMul] at hV1
  obtain ⟨b', off', he, hV2⟩ := hA.get (i := 2) rfl
  cases he
  simp only [bs_of, Nat.zero_mul, Nat.one_mul, Nat.add_zero, Nat.reduceMul] at hV2
  obtain ⟨g0, hg0⟩ : ∃ g, w.heap.size = g := ⟨_, rfl⟩
  have hA0 := AgS.one w 0 0 ⟨#[]⟩
  rw [hg0] at hA0
  have hw0 : w.heap.size ≤ g0 := Nat.le_of_eq hg0
  obtain ⟨c0, c1, c2, _⟩ := hV0.on hA0.2
  obtain ⟨p0, p1⟩ := id hp
  obtain ⟨m0, m1⟩ := id hm
  have b1 : decide (p < 0) = false := decide_eq_false (by omega)
  have b2 : decide (m < 0) = false := decide_eq_false (by omega)
  subst hbl
  have hRs : R.size ≤ 400 := by rw [← hR.out, ← ByteArray.size_data]; have := pieceT_len s.data.toList (p - 1) (clampI ((p - 1) + m)); have e : s.data.toList.length = s.size := rfl; exact Nat.le_trans this (by omega)
  have hbe : Val.inr (p - 1) := by constructor <;> omega
  have hcl : Val.inr (clampI ((p - 1) + m)) := by unfold clampI; constructor <;> (split <;> first | omega | (split <;> omega))
  replace hbe := Lib.hid hbe
  replace hcl := Lib.hid hcl
  replace hi := Lib.hid hi
  replace hp := Lib.hid hp
  replace hm := Lib.hid hm
  replace hw0 := Lib.hid hw0
  replace hg0 := Lib.hid hg0
  clear hA
  go_enter Tryz.func36, Tryz.ntmps36
  go_upto_region 1 with fail
  rw [hg0.out]
  go_wp2_with fail
  refine (rbytes18_is _ _ _ _ hi.out (hL.below hA0.2) _ _ hsh).mono ?_
  rintro e w1 ⟨rfl, hb1⟩
  have hA1 := hA0.on hb1
  obtain ⟨d0, d1, d2, _⟩ := hV1.on hA1.2
  clear c0 c1 c2
  go_wp2_with fail
  refine (rnum03_is _ _ _ _ (hL.below hA1.2) _ _ h1).mono ?_
  rintro e w2 ⟨rfl, hb2⟩
  have hA2 := (hA1.on hb2).new 1 p ⟨#[]⟩
  clear d0 d1 d2
  go_wp2_with fail
  refine (rint_any _ _).mono ?_
  rintro e w3 ⟨rfl, hb3⟩
  have hA3 := (hA2.on hb3).new 1 9000 ⟨#[]⟩
  go_upto_region 4 with fail
  obtain ⟨g4, hg4⟩ : ∃ g, w2.heap.size = g := ⟨_, rfl⟩
  obtain ⟨g5, hg5⟩ : ∃ g, w3.heap.size = g := ⟨_, rfl⟩
  have l4 : g4 < g5 := by have := hb3.size; rw [World.size_alloc] at this; omega
  have l0 : g0 < g4 := by rw [← hg4]; exact (hA1.on hb2).lt List.mem_cons_self
  obtain ⟨W3, hW3⟩ : ∃ W, w3.alloc (.cells #[.int .i64 1, .int .i64 9000, .string ⟨#[]⟩] 25) = W := ⟨_, rfl⟩
  rw [hg4, hg5, hW3] at hA3
  rw [hg4, hg5, hW3]
  clear hW3 hg4 hg5 hA2 hA1 hA0 hb1 hb2 hb3
  obtain ⟨c0, c1, c2, _⟩ := hV2.on hA3.2
  go_wp2_with fail
  refine (rnum03_is _ _ _ _ (hL.below hA3.2) _ _ h2).mono ?_
  rintro e w4 ⟨rfl, hb4⟩
  have hA4 := hA3.on hb4
  obtain ⟨xn0, xn1, xn2, xn3, xn4, xn5⟩ := (AgS.get hA4 (g := g5) (k := 1) (n := 9000) (t := ⟨#[]⟩) List.mem_cons_self).cells
  have hA5 := AgS.set (w := w) (W := w4) (k0 := 1) (n0 := 9000) (t0 := ⟨#[]⟩) hA4 (g := g5) (by have := hw0.out; omega) (ne2 (a := g4) (b := g0) (c := g5) _ _ (by omega) (by omega)) 1 m ⟨#[]⟩
  obtain ⟨W5, hW5⟩ : ∃ W, ((w4.setCell ⟨g5, 0, none⟩ (.int .i64 1)).setCell ⟨g5, 1, none⟩ (.int .i64 m)).setCell ⟨g5, 2, none⟩ (.string ⟨#[]⟩) = W := ⟨_, rfl⟩
  rw [hW5] at hA5
  replace hW5 := Lib.hid hW5
  clear c0 c1 c2 hA3 hb4
  go_upto_region 6 with fail
  rw [hW5.out]
  clear hW5 hA4 xn0 xn1 xn2 xn3 xn4 xn5
  obtain ⟨yn0, yn1, yn2, yn3, yn4, yn5⟩ := (AgS.get hA5 (g := g5) (k := 1) (n := m) (t := ⟨#[]⟩) List.mem_cons_self).cells
  obtain ⟨yp0, yp1, yp2, yp3, yp4, yp5⟩ := (AgS.get hA5 (g := g4) (k := 1) (n := p) (t := ⟨#[]⟩) (List.mem_cons_of_mem _ List.mem_cons_self)).cells
  obtain ⟨yr0, yr1, yr2, yr3, yr4, yr5⟩ := (AgS.get hA5 (g := g0) (k := 0) (n := 0) (t := ⟨#[]⟩) (List.mem_cons_of_mem _ (List.mem_cons_of_mem _ List.mem_cons_self))).cells
  go_wp2_with fail
  refine (rsum18_is _ _ _ hbe.out hm.out).mono ?_
  rintro e w6 ⟨rfl, hb6⟩
  have hA6 := hA5.on hb6
  clear yn0 yn1 yn2 yn3 yn4 yn5 yp0 yp1 yp2 yp3 yp4 yp5 yr0 yr1 yr2 yr3 yr4 yr5
  obtain ⟨yn0, yn1, yn2, yn3, yn4, yn5⟩ := (AgS.get hA6 (g := g5) (k := 1) (n := m) (t := ⟨#[]⟩) List.mem_cons_self).cells
  obtain ⟨yp0, yp1, yp2, yp3, yp4, yp5⟩ := (AgS.get hA6 (g := g4) (k := 1) (n := p) (t := ⟨#[]⟩) (List.mem_cons_of_mem _ List.mem_cons_self)).cells
  obtain ⟨yr0, yr1, yr2, yr3, yr4, yr5⟩ := (AgS.get hA6 (g := g0) (k := 0) (n := 0) (t := ⟨#[]⟩) (List.mem_cons_of_mem _ (List.mem_cons_of_mem _ List.mem_cons_self))).cells
  obtain ⟨u0, u1, u2, _⟩ := hV0.on hA6.2
  go_wp2_with fail
  refine (rpiece18_any _ _ _ _ (by omega) hbe.out hcl.out _ hR).mono ?_
  rintro e w8 ⟨rfl, hb8⟩
  have hA8 := hA6.on hb8
  clear yn0 yn1 yn2 yn3 yn4 yn5 yp0 yp1 yp2 yp3 yp4 yp5 yr0 yr1 yr2 yr3 yr4 yr5 u0 u1 u2
  obtain ⟨yr0, yr1, yr2, yr3, yr4, yr5⟩ := (AgS.get hA8 (g := g0) (k := 0) (n := 0) (t := ⟨#[]⟩) (List.mem_cons_of_mem _ (List.mem_cons_of_mem _ List.mem_cons_self))).cells
  go_wp2
  exact bodyPost_ret (v := .agg #[.int .i64 3, .int .i64 0, .string R]) (by simp only [results, Tryz.results36]; go_simp) rfl ⟨rfl, below_put hA8.2 hw0.out⟩

set_option maxHeartbeats 4000000 in
theorem rsub2_okpt (b off cap : Nat) (k n : Int) (t : ByteArray) (k1 n1 : Int) (t1 : ByteArray) (w : World) (hL : Lits w) (hA : ValsAt w (some ⟨b, off, none⟩) 2 [⟨k, n, t.data.toList⟩, ⟨k1, n1, t1.data.toList⟩]) (hi : Val.inr n) (s : ByteArray) (hs : s.size ≤ 400) (hsh : Hid (Val.pshow ⟨k, n, t.data.toList⟩ = ⟨2, 0, s.data.toList⟩)) (p m k2x n2x : Int) (hp : Val.inr p) (hm : Val.inr m) (h1 : Hid (Val.num ⟨k1, n1, t1.data.toList⟩ = ⟨1, p, []⟩)) (hpp : 0 ≤ p) (hbl : k ≠ 3) (R : ByteArray) (hR : Hid (bs (pieceT s.data.toList (p - 1) (s.size : Int)) = R)) :
    Calls Tryz.prog 36 #[.slice (some ⟨b, off, none⟩) 2 cap] w (VRet 2 0 R w) := by
  obtain ⟨b', off', he, hV0⟩ := hA.get (i := 0) rfl
  cases he
  simp only [bs_of, Nat.zero_mul, Nat.one_mul, Nat.add_zero, Nat.reduceMul] at hV0
  obtain ⟨b', off', he, hV1⟩ := hA.get (i := 1) rfl
  cases he
  simp only [bs_of, Nat.zero_mul, Nat.one_mul, Nat.add_zero, Nat.reduceMul] at hV1
  obtain ⟨g0, hg0⟩ : ∃ g, w.heap.size = g := ⟨_, rfl⟩
  have hA0 := AgS.one w 0 0 ⟨#[]⟩
  rw [hg0] at hA0
  have hw0 : w.heap.size ≤ g0 := Nat.le_of_eq hg0
  obtain ⟨c0, c1, c2, _⟩ := hV0.on hA0.2
  obtain ⟨p0, p1⟩ := id hp
  obtain ⟨m0, m1⟩ := id hm
  have b1 : decide (p < 0) = false := decide_eq_false (by omega)
  have b3 : (k == 3) = false := by simpa using hbl
  replace hbl := Lib.hid hbl
  have hRs : R.size ≤ 400 := by rw [← hR.out, ← ByteArray.size_data]; have := pieceT_len s.data.toList (p - 1) (s.size : Int); have e : s.data.toList.length = s.size := rfl; exact Nat.le_trans this (by omega)
  have hbe : Val.inr (p - 1) := by constructor <;> omega
  replace hbe := Lib.hid hbe
  replace hi := Lib.hid hi
  replace hp := Lib.hid hp
  replace hm := Lib.hid hm
  replace hw0 := Lib.hid hw0
  replace hg0 := Lib.hid hg0
  clear hA
  go_enter Tryz.func36, Tryz.ntmps36
  go_upto_region 1 with fail
  rw [hg0.out]
  go_wp2_with fail
  refine (rbytes18_is _ _ _ _ hi.out (hL.below hA0.2) _ _ hsh).mono ?_
  rintro e w1 ⟨rfl, hb1⟩
  have hA1 := hA0.on hb1
  obtain ⟨d0, d1, d2, _⟩ := hV1.on hA1.2
  clear c0 c1 c2
  go_wp2_with fail
  refine (rnum03_is _ _ _ _ (hL.below hA1.2) _ _ h1).mono ?_
  rintro e w2 ⟨rfl, hb2⟩
  have hA2 := (hA1.on hb2).new 1 p ⟨#[]⟩
  clear d0 d1 d2
  go_wp2_with fail
  refine (rint_any _ _).mono ?_
  rintro e w3 ⟨rfl, hb3⟩
  have hA3 := (hA2.on hb3).new 1 9000 ⟨#[]⟩
  go_upto_region 4 with fail
  obtain ⟨g4, hg4⟩ : ∃ g, w2.heap.size = g := ⟨_, rfl⟩
  obtain ⟨g5, hg5⟩ : ∃ g, w3.heap.size = g := ⟨_, rfl⟩
  have l4 : g4 < g5 := by have := hb3.size; rw [World.size_alloc] at this; omega
  have l0 : g0 < g4 := by rw [← hg4]; exact (hA1.on hb2).lt List.mem_cons_self
  obtain ⟨W3, hW3⟩ : ∃ W, w3.alloc (.cells #[.int .i64 1, .int .i64 9000, .string ⟨#[]⟩] 25) = W := ⟨_, rfl⟩
  rw [hg4, hg5, hW3] at hA3
  rw [hg4, hg5, hW3]
  clear hW3 hg4 hg5 hA2 hA1 hA0 hb1 hb2 hb3
  obtain ⟨yn0, yn1, yn2, yn3, yn4, yn5⟩ := (AgS.get hA3 (g := g5) (k := 1) (n := 9000) (t := ⟨#[]⟩) List.mem_cons_self).cells
  obtain ⟨yp0, yp1, yp2, yp3, yp4, yp5⟩ := (AgS.get hA3 (g := g4) (k := 1) (n := p) (t := ⟨#[]⟩) (List.mem_cons_of_mem _ List.mem_cons_self)).cells
  obtain ⟨yr0, yr1, yr2, yr3, yr4, yr5⟩ := (AgS.get hA3 (g := g0) (k := 0) (n := 0) (t := ⟨#[]⟩) (List.mem_cons_of_mem _ (List.mem_cons_of_mem _ List.mem_cons_self))).cells
  obtain ⟨u0, u1, u2, _⟩ := hV0.on hA3.2
  go_wp2_with fail
  refine (rpiece18_any _ _ _ _ (by omega) hbe.out (by constructor <;> omega) _ hR).mono ?_
  rintro e w8 ⟨rfl, hb8⟩
  have hA8 := hA3.on hb8
  clear yn0 yn1 yn2 yn3 yn4 yn5 yp0 yp1 yp2 yp3 yp4 yp5 yr0 yr1 yr2 yr3 yr4 yr5 u0 u1 u2
  obtain ⟨yr0, yr1, yr2, yr3, yr4, yr5⟩ := (AgS.get hA8 (g := g0) (k := 0) (n := 0) (t := ⟨#[]⟩) (List.mem_cons_of_mem _ (List.mem_cons_of_mem _ List.mem_cons_self))).cells
  go_wp2_with fail
  refine (rtext_ok _ _ hRs).mono ?_
  rintro e w9 ⟨rfl, hb9⟩
  have hA9 := hA8.on hb9
  clear yr0 yr1 yr2 yr3 yr4 yr5
  obtain ⟨yr0, yr1, yr2, yr3, yr4, yr5⟩ := (AgS.get hA9 (g := g0) (k := 0) (n := 0) (t := ⟨#[]⟩) (List.mem_cons_of_mem _ (List.mem_cons_of_mem _ List.mem_cons_self))).cells
  go_wp2
  exact bodyPost_ret (v := .agg #[.int .i64 2, .int .i64 0, .string R]) (by simp only [results, Tryz.results36]; go_simp) rfl ⟨rfl, below_put hA9.2 hw0.out⟩

set_option maxHeartbeats 4000000 in
theorem rsub3_okpmt (b off cap : Nat) (k n : Int) (t : ByteArray) (k1 n1 : Int) (t1 : ByteArray) (k2 n2 : Int) (t2 : ByteArray) (w : World) (hL : Lits w) (hA : ValsAt w (some ⟨b, off, none⟩) 3 [⟨k, n, t.data.toList⟩, ⟨k1, n1, t1.data.toList⟩, ⟨k2, n2, t2.data.toList⟩]) (hi : Val.inr n) (s : ByteArray) (hs : s.size ≤ 400) (hsh : Hid (Val.pshow ⟨k, n, t.data.toList⟩ = ⟨2, 0, s.data.toList⟩)) (p m k2x n2x : Int) (hp : Val.inr p) (hm : Val.inr m) (h1 : Hid (Val.num ⟨k1, n1, t1.data.toList⟩ = ⟨1, p, []⟩)) (h2 : Hid (Val.num ⟨k2, n2, t2.data.toList⟩ = ⟨1, m, []⟩)) (hpp : 0 ≤ p) (hmm : m < 0) (hbl : k ≠ 3) (R : ByteArray) (hR : Hid (bs (pieceT s.data.toList (clampI ((p - 1) + m)) (p - 1)) = R)) :
    Calls Tryz.prog 36 #[.slice (some ⟨b, off, none⟩) 3 cap] w (VRet 2 0 R w) := by
  obtain ⟨b', off', he, hV0⟩ := hA.get (i := 0) rfl
  cases he
  simp only [bs_of, Nat.zero_mul, Nat.one_mul, Nat.add_zero, Nat.reduceMul] at hV0
  obtain ⟨b', off', he, hV1⟩ := hA.get (i := 1) rfl
  cases he
  simp only [bs_of, Nat.zero_mul, Nat.one_mul, Nat.add_zero, Nat.reduceMul] at hV1
  obtain ⟨b', off', he, hV2⟩ := hA.get (i := 2) rfl
  cases he
  simp only [bs_of, Nat.zero_mul, Nat.one_mul, Nat.add_zero, Nat.reduceMul] at hV2
  obtain ⟨g0, hg0⟩ : ∃ g, w.heap.size = g := ⟨_, rfl⟩
  have hA0 := AgS.one w 0 0 ⟨#[]⟩
  rw [hg0] at hA0
  have hw0 : w.heap.size ≤ g0 := Nat.le_of_eq hg0
  obtain ⟨c0, c1, c2, _⟩ := hV0.on hA0.2
  obtain ⟨p0, p1⟩ := id hp
  obtain ⟨m0, m1⟩ := id hm
  have b1 : decide (p < 0) = false := decide_eq_false (by omega)
  have b2 : decide (m < 0) = true := decide_eq_true hmm
  have b3 : (k == 3) = false := by simpa using hbl
  replace hbl := Lib.hid hbl
  have hRs : R.size ≤ 400 := by rw [← hR.out, ← ByteArray.size_data]; have := pieceT_len s.data.toList (clampI ((p - 1) + m)) (p - 1); have e : s.data.toList.length = s.size := rfl; exact Nat.le_trans this (by omega)
  have hbe : Val.inr (p - 1) := by constructor <;> omega
  have hcl : Val.inr (clampI ((p - 1) + m)) := by unfold clampI; constructor <;> (split <;> first | omega | (split <;> omega))
  replace hbe := Lib.hid hbe
  replace hcl := Lib.hid hcl
  replace hi := Lib.hid hi
  replace hp := Lib.hid hp
  replace hm := Lib.hid hm
  replace hw0 := Lib.hid hw0
  replace hg0 := Lib.hid hg0
  clear hA
  go_enter Tryz.func36, Tryz.ntmps36
  go_upto_region 1 with fail
  rw [hg0.out]
  go_wp2_with fail
  refine (rbytes18_is _ _ _ _ hi.out (hL.below hA0.2) _ _ hsh).mono ?_
  rintro e w1 ⟨rfl, hb1⟩
  have hA1 := hA0.on hb1
  obtain ⟨d0, d1, d2, _⟩ := hV1.on hA1.2
  clear c0 c1 c2
  go_wp2_with fail
  refine (rnum03_is _ _ _ _ (hL.below hA1.2) _ _ h1).mono ?_
  rintro e w2 ⟨rfl, hb2⟩
  have hA2 := (hA1.on hb2).new 1 p ⟨#[]⟩
  clear d0 d1 d2
  go_wp2_with fail
  refine (rint_any _ _).mono ?_
  rintro e w3 ⟨rfl, hb3⟩
  have hA3 := (hA2.on hb3).new 1 9000 ⟨#[]⟩
  go_upto_region 4 with fail
  obtain ⟨g4, hg4⟩ : ∃ g, w2.heap.size = g := ⟨_, rfl⟩
  obtain ⟨g5, hg5⟩ : ∃ g, w3.heap.size = g := ⟨_, rfl⟩
  have l4 : g4 < g5 := by have := hb3.size; rw [World.size_alloc] at this; omega
  have l0 : g0 < g4 := by rw [← hg4]; exact (hA1.on hb2).lt List.mem_cons_self
  obtain ⟨W3, hW3⟩ : ∃ W, w3.alloc (.cells #[.int .i64 1, .int .i64 9000, .string ⟨#[]⟩] 25) = W := ⟨_, rfl⟩
  rw [hg4, hg5, hW3] at hA3
  rw [hg4, hg5, hW3]
  clear hW3 hg4 hg5 hA2 hA1 hA0 hb1 hb2 hb3
  obtain ⟨c0, c1, c2, _⟩ := hV2.on hA3.2
  go_wp2_with fail
  refine (rnum03_is _ _ _ _ (hL.below hA3.2) _ _ h2).mono ?_
  rintro e w4 ⟨rfl, hb4⟩
  have hA4 := hA3.on hb4
  obtain ⟨xn0, xn1, xn2, xn3, xn4, xn5⟩ := (AgS.get hA4 (g := g5) (k := 1) (n := 9000) (t := ⟨#[]⟩) List.mem_cons_self).cells
  have hA5 := AgS.set (w := w) (W := w4) (k0 := 1) (n0 := 9000) (t0 := ⟨#[]⟩) hA4 (g := g5) (by have := hw0.out; omega) (ne2 (a := g4) (b := g0) (c := g5) _ _ (by omega) (by omega)) 1 m ⟨#[]⟩
  obtain ⟨W5, hW5⟩ : ∃ W, ((w4.setCell ⟨g5, 0, none⟩ (.int .i64 1)).setCell ⟨g5, 1, none⟩ (.int .i64 m)).setCell ⟨g5, 2, none⟩ (.string ⟨#[]⟩) = W := ⟨_, rfl⟩
  rw [hW5] at hA5
  replace hW5 := Lib.hid hW5
  clear c0 c1 c2 hA3 hb4
  go_upto_region 6 with fail
  rw [hW5.out]
  clear hW5 hA4 xn0 xn1 xn2 xn3 xn4 xn5
  obtain ⟨yn0, yn1, yn2, yn3, yn4, yn5⟩ := (AgS.get hA5 (g := g5) (k := 1) (n := m) (t := ⟨#[]⟩) List.mem_cons_self).cells
  obtain ⟨yp0, yp1, yp2, yp3, yp4, yp5⟩ := (AgS.get hA5 (g := g4) (k := 1) (n := p) (t := ⟨#[]⟩) (List.mem_cons_of_mem _ List.mem_cons_self)).cells
  obtain ⟨yr0, yr1, yr2, yr3, yr4, yr5⟩ := (AgS.get hA5 (g := g0) (k := 0) (n := 0) (t := ⟨#[]⟩) (List.mem_cons_of_mem _ (List.mem_cons_of_mem _ List.mem_cons_self))).cells
  go_wp2_with fail
  refine (rsum18_is _ _ _ hbe.out hm.out).mono ?_
  rintro e w6 ⟨rfl, hb6⟩
  have hA6 := hA5.on hb6
  clear yn0 yn1 yn2 yn3 yn4 yn5 yp0 yp1 yp2 yp3 yp4 yp5 yr0 yr1 yr2 yr3 yr4 yr5
  obtain ⟨yn0, yn1, yn2, yn3, yn4, yn5⟩ := (AgS.get hA6 (g := g5) (k := 1) (n := m) (t := ⟨#[]⟩) List.mem_cons_self).cells
  obtain ⟨yp0, yp1, yp2, yp3, yp4, yp5⟩ := (AgS.get hA6 (g := g4) (k := 1) (n := p) (t := ⟨#[]⟩) (List.mem_cons_of_mem _ List.mem_cons_self)).cells
  obtain ⟨yr0, yr1, yr2, yr3, yr4, yr5⟩ := (AgS.get hA6 (g := g0) (k := 0) (n := 0) (t := ⟨#[]⟩) (List.mem_cons_of_mem _ (List.mem_cons_of_mem _ List.mem_cons_self))).cells
  go_wp2_with fail
  refine (rsum18_is _ _ _ hbe.out hm.out).mono ?_
  rintro e w7 ⟨rfl, hb7⟩
  have hA7 := hA6.on hb7
  clear yn0 yn1 yn2 yn3 yn4 yn5 yp0 yp1 yp2 yp3 yp4 yp5 yr0 yr1 yr2 yr3 yr4 yr5
  obtain ⟨yn0, yn1, yn2, yn3, yn4, yn5⟩ := (AgS.get hA7 (g := g5) (k := 1) (n := m) (t := ⟨#[]⟩) List.mem_cons_self).cells
  obtain ⟨yp0, yp1, yp2, yp3, yp4, yp5⟩ := (AgS.get hA7 (g := g4) (k := 1) (n := p) (t := ⟨#[]⟩) (List.mem_cons_of_mem _ List.mem_cons_self)).cells
  obtain ⟨yr0, yr1, yr2, yr3, yr4, yr5⟩ := (AgS.get hA7 (g := g0) (k := 0) (n := 0) (t := ⟨#[]⟩) (List.mem_cons_of_mem _ (List.mem_cons_of_mem _ List.mem_cons_self))).cells
  obtain ⟨u0, u1, u2, _⟩ := hV0.on hA7.2
  go_wp2_with fail
  refine (rpiece18_any _ _ _ _ (by omega) hcl.out hbe.out _ hR).mono ?_
  rintro e w8 ⟨rfl, hb8⟩
  have hA8 := hA7.on hb8
  clear yn0 yn1 yn2 yn3 yn4 yn5 yp0 yp1 yp2 yp3 yp4 yp5 yr0 yr1 yr2 yr3 yr4 yr5 u0 u1 u2
  obtain ⟨yr0, yr1, yr2, yr3, yr4, yr5⟩ := (AgS.get hA8 (g := g0) (k := 0) (n := 0) (t := ⟨#[]⟩) (List.mem_cons_of_mem _ (List.mem_cons_of_mem _ List.mem_cons_self))).cells
  go_wp2_with fail
  refine (rtext_ok _ _ hRs).mono ?_
  rintro e w9 ⟨rfl, hb9⟩
  have hA9 := hA8.on hb9
  clear yr0 yr1 yr2 yr3 yr4 yr5
  obtain ⟨yr0, yr1, yr2, yr3, yr4, yr5⟩ := (AgS.get hA9 (g := g0) (k := 0) (n := 0) (t := ⟨#[]⟩) (List.mem_cons_of_mem _ (List.mem_cons_of_mem _ List.mem_cons_self))).cells
  go_wp2
  exact bodyPost_ret (v := .agg #[.int .i64 2, .int .i64 0, .string R]) (by simp only [results, Tryz.results36]; go_simp) rfl ⟨rfl, below_put hA9.2 hw0.out⟩

set_option maxHeartbeats 4000000 in
theorem rsub3_okppt (b off cap : Nat) (k n : Int) (t : ByteArray) (k1 n1 : Int) (t1 : ByteArray) (k2 n2 : Int) (t2 : ByteArray) (w : World) (hL : Lits w) (hA : ValsAt w (some ⟨b, off, none⟩) 3 [⟨k, n, t.data.toList⟩, ⟨k1, n1, t1.data.toList⟩, ⟨k2, n2, t2.data.toList⟩]) (hi : Val.inr n) (s : ByteArray) (hs : s.size ≤ 400) (hsh : Hid (Val.pshow ⟨k, n, t.data.toList⟩ = ⟨2, 0, s.data.toList⟩)) (p m k2x n2x : Int) (hp : Val.inr p) (hm : Val.inr m) (h1 : Hid (Val.num ⟨k1, n1, t1.data.toList⟩ = ⟨1, p, []⟩)) (h2 : Hid (Val.num ⟨k2, n2, t2.data.toList⟩ = ⟨1, m, []⟩)) (hpp : 0 ≤ p) (hmm : 0 ≤ m) (hbl : k ≠ 3) (R : ByteArray) (hR : Hid (bs (pieceT s.data.toList (p - 1) (clampI ((p - 1) + m))) = R)) :
    Calls Tryz.prog 36 #[.slice (some ⟨b, off, none⟩) 3 cap] w (VRet 2 0 R w) := by
  obtain ⟨b', off', he, hV0⟩ := hA.get (i := 0) rfl
  cases he
  simp only [bs_of, Nat.zero_mul, Nat.one_mul, Nat.add_zero, Nat.reduceMul] at hV0
  obtain ⟨b', off', he, hV1⟩ := hA.get (i := 1) rfl
  cases he
  simp only [bs_of, Nat.zero_mul, Nat.one_mul, Nat.add_zero, Nat.reduceMul] at hV1
  obtain ⟨b', off', he, hV2⟩ := hA.get (i := 2) rfl
  cases he
  simp only [bs_of, Nat.zero_mul, Nat.one_mul, Nat.add_zero, Nat.reduceMul] at hV2
  obtain ⟨g0, hg0⟩ : ∃ g, w.heap.size = g := ⟨_, rfl⟩
  have hA0 := AgS.one w 0 0 ⟨#[]⟩
  rw [hg0] at hA0
  have hw0 : w.heap.size ≤ g0 := Nat.le_of_eq hg0
  obtain ⟨c0, c1, c2, _⟩ := hV0.on hA0.2
  obtain ⟨p0, p1⟩ := id hp
  obtain ⟨m0, m1⟩ := id hm
  have b1 : decide (p < 0) = false := decide_eq_false (by omega)
  have b2 : decide (m < 0) = false := decide_eq_false (by omega)
  have b3 : (k == 3) = false := by simpa using hbl
  replace hbl := Lib.hid hbl
  have hRs : R.size ≤ 400 := by rw [← hR.out, ← ByteArray.size_data]; have := pieceT_len s.data.toList (p - 1) (clampI ((p - 1) + m)); have e : s.data.toList.length = s.size := rfl; exact Nat.le_trans this (by omega)
  have hbe : Val.inr (p - 1) := by constructor <;> omega
  have hcl : Val.inr (clampI ((p - 1) + m)) := by unfold clampI; constructor <;> (split <;> first | omega | (split <;> omega))
  replace hbe := Lib.hid hbe
  replace hcl := Lib.hid hcl
  replace hi := Lib.hid hi
  replace hp := Lib.hid hp
  replace hm := Lib.hid hm
  replace hw0 := Lib.hid hw0
  replace hg0 := Lib.hid hg0
  clear hA
  go_enter Tryz.func36, Tryz.ntmps36
  go_upto_region 1 with fail
  rw [hg0.out]
  go_wp2_with fail
  refine (rbytes18_is _ _ _ _ hi.out (hL.below hA0.2) _ _ hsh).mono ?_
  rintro e w1 ⟨rfl, hb1⟩
  have hA1 := hA0.on hb1
  obtain ⟨d0, d1, d2, _⟩ := hV1.on hA1.2
  clear c0 c1 c2
  go_wp2_with fail
  refine (rnum03_is _ _ _ _ (hL.below hA1.2) _ _ h1).mono ?_
  rintro e w2 ⟨rfl, hb2⟩
  have hA2 := (hA1.on hb2).new 1 p ⟨#[]⟩
  clear d0 d1 d2
  go_wp2_with fail
  refine (rint_any _ _).mono ?_
  rintro e w3 ⟨rfl, hb3⟩
  have hA3 := (hA2.on hb3).new 1 9000 ⟨#[]⟩
  go_upto_region 4 with fail
  obtain ⟨g4, hg4⟩ : ∃ g, w2.heap.size = g := ⟨_, rfl⟩
  obtain ⟨g5, hg5⟩ : ∃ g, w3.heap.size = g := ⟨_, rfl⟩
  have l4 : g4 < g5 := by have := hb3.size; rw [World.size_alloc] at this; omega
  have l0 : g0 < g4 := by rw [← hg4]; exact (hA1.on hb2).lt List.mem_cons_self
  obtain ⟨W3, hW3⟩ : ∃ W, w3.alloc (.cells #[.int .i64 1, .int .i64 9000, .string ⟨#[]⟩] 25) = W := ⟨_, rfl⟩
  rw [hg4, hg5, hW3] at hA3
  rw [hg4, hg5, hW3]
  clear hW3 hg4 hg5 hA2 hA1 hA0 hb1 hb2 hb3
  obtain ⟨c0, c1, c2, _⟩ := hV2.on hA3.2
  go_wp2_with fail
  refine (rnum03_is _ _ _ _ (hL.below hA3.2) _ _ h2).mono ?_
  rintro e w4 ⟨rfl, hb4⟩
  have hA4 := hA3.on hb4
  obtain ⟨xn0, xn1, xn2, xn3, xn4, xn5⟩ := (AgS.get hA4 (g := g5) (k := 1) (n := 9000) (t := ⟨#[]⟩) List.mem_cons_self).cells
  have hA5 := AgS.set (w := w) (W := w4) (k0 := 1) (n0 := 9000) (t0 := ⟨#[]⟩) hA4 (g := g5) (by have := hw0.out; omega) (ne2 (a := g4) (b := g0) (c := g5) _ _ (by omega) (by omega)) 1 m ⟨#[]⟩
  obtain ⟨W5, hW5⟩ : ∃ W, ((w4.setCell ⟨g5, 0, none⟩ (.int .i64 1)).setCell ⟨g5, 1, none⟩ (.int .i64 m)).setCell ⟨g5, 2, none⟩ (.string ⟨#[]⟩) = W := ⟨_, rfl⟩
  rw [hW5] at hA5
  replace hW5 := Lib.hid hW5
  clear c0 c1 c2 hA3 hb4
  go_upto_region 6 with fail
  rw [hW5.out]
  clear hW5 hA4 xn0 xn1 xn2 xn3 xn4 xn5
  obtain ⟨yn0, yn1, yn2, yn3, yn4, yn5⟩ := (AgS.get hA5 (g := g5) (k := 1) (n := m) (t := ⟨#[]⟩) List.mem_cons_self).cells
  obtain ⟨yp0, yp1, yp2, yp3, yp4, yp5⟩ := (AgS.get hA5 (g := g4) (k := 1) (n := p) (t := ⟨#[]⟩) (List.mem_cons_of_mem _ List.mem_cons_self)).cells
  obtain ⟨yr0, yr1, yr2, yr3, yr4, yr5⟩ := (AgS.get hA5 (g := g0) (k := 0) (n := 0) (t := ⟨#[]⟩) (List.mem_cons_of_mem _ (List.mem_cons_of_mem _ List.mem_cons_self))).cells
  go_wp2_with fail
  refine (rsum18_is _ _ _ hbe.out hm.out).mono ?_
  rintro e w6 ⟨rfl, hb6⟩
  have hA6 := hA5.on hb6
  clear yn0 yn1 yn2 yn3 yn4 yn5 yp0 yp1 yp2 yp3 yp4 yp5 yr0 yr1 yr2 yr3 yr4 yr5
  obtain ⟨yn0, yn1, yn2, yn3, yn4, yn5⟩ := (AgS.get hA6 (g := g5) (k := 1) (n := m) (t := ⟨#[]⟩) List.mem_cons_self).cells
  obtain ⟨yp0, yp1, yp2, yp3, yp4, yp5⟩ := (AgS.get hA6 (g := g4) (k := 1) (n := p) (t := ⟨#[]⟩) (List.mem_cons_of_mem _ List.mem_cons_self)).cells
  obtain ⟨yr0, yr1, yr2, yr3, yr4, yr5⟩ := (AgS.get hA6 (g := g0) (k := 0) (n := 0) (t := ⟨#[]⟩) (List.mem_cons_of_mem _ (List.mem_cons_of_mem _ List.mem_cons_self))).cells
  obtain ⟨u0, u1, u2, _⟩ := hV0.on hA6.2
  go_wp2_with fail
  refine (rpiece18_any _ _ _ _ (by omega) hbe.out hcl.out _ hR).mono ?_
  rintro e w8 ⟨rfl, hb8⟩
  have hA8 := hA6.on hb8
  clear yn0 yn1 yn2 yn3 yn4 yn5 yp0 yp1 yp2 yp3 yp4 yp5 yr0 yr1 yr2 yr3 yr4 yr5 u0 u1 u2
  obtain ⟨yr0, yr1, yr2, yr3, yr4, yr5⟩ := (AgS.get hA8 (g := g0) (k := 0) (n := 0) (t := ⟨#[]⟩) (List.mem_cons_of_mem _ (List.mem_cons_of_mem _ List.mem_cons_self))).cells
  go_wp2_with fail
  refine (rtext_ok _ _ hRs).mono ?_
  rintro e w9 ⟨rfl, hb9⟩
  have hA9 := hA8.on hb9
  clear yr0 yr1 yr2 yr3 yr4 yr5
  obtain ⟨yr0, yr1, yr2, yr3, yr4, yr5⟩ := (AgS.get hA9 (g := g0) (k := 0) (n := 0) (t := ⟨#[]⟩) (List.mem_cons_of_mem _ (List.mem_cons_of_mem _ List.mem_cons_self))).cells
  go_wp2
  exact bodyPost_ret (v := .agg #[.int .i64 2, .int .i64 0, .string R]) (by simp only [results, Tryz.results36]; go_simp) rfl ⟨rfl, below_put hA9.2 hw0.out⟩

theorem beg_m {p : Int} {l : Nat} (h : p < 0) : beginI p l = p + (l : Int) := by unfold beginI; rw [if_pos h]
theorem beg_p {p : Int} {l : Nat} (h : 0 ≤ p) : beginI p l = p - 1 := by unfold beginI; rw [if_neg (by omega)]
theorem pv_blob {k : Int} {l : List UInt8} {k' n' : Int} {t' : ByteArray} (hk : k = 3) (h : pieceV k l = ⟨k', n', t'.data.toList⟩) : 3 = k' ∧ 0 = n' ∧ bs l = t' := by
  unfold pieceV at h; rw [if_pos hk] at h; exact v_inj h
theorem pv_text {k : Int} {l : List UInt8} {k' n' : Int} {t' : ByteArray} (hk : k ≠ 3) (h : pieceV k l = ⟨k', n', t'.data.toList⟩) : 2 = k' ∧ 0 = n' ∧ bs l = t' := by
  unfold pieceV at h; rw [if_neg hk] at h; exact v_inj h
theorem rsubstr18_two (b off cap : Nat) (v v1 : Val.V) (w : World) (hL : Lits w) (hA : ValsAt w (some ⟨b, off, none⟩) 2 [v, v1]) (hmy : Val.may v = true) (h0 : v.kind ≠ 0) (hi : Val.inr v.int) (hi1 : Val.inr v1.int) (k' n' : Int) (t' : ByteArray) (hv : Hid (substr2V v v1 = ⟨k', n', t'.data.toList⟩)) :
    Calls Tryz.prog 36 #[.slice (some ⟨b, off, none⟩) 2 cap] w (VRet k' n' t' w) := by
  obtain ⟨k, n, tx⟩ := v
  obtain ⟨t, rfl⟩ : ∃ t : ByteArray, tx = t.data.toList := ⟨bs tx, rfl⟩
  obtain ⟨k1, n1, tx1⟩ := v1
  obtain ⟨t1, rfl⟩ : ∃ t : ByteArray, tx1 = t.data.toList := ⟨bs tx1, rfl⟩
  obtain ⟨s, hs, hsz, es⟩ := shown_v hmy h0 hi
  have hv' := hv.out
  unfold substr2V at hv'
  rcases Val.num_cases (v := ⟨k1, n1, t1.data.toList⟩) hi1 with h | ⟨p, h, p0, p1⟩
  · rw [h, if_pos (show Val.zero.kind = 0 from rfl)] at hv'
    obtain ⟨rfl, rfl, rfl⟩ := v_inj hv'
    exact rsub2_null1 b off cap k n t k1 n1 t1 w hL hA hi s hsz (Lib.hid hs) 0 0 0 0 ⟨by decide, by decide⟩ ⟨by decide, by decide⟩ (Lib.hid h)
  · rw [h, if_neg (show ¬ (1 : Int) = 0 by decide), es] at hv'
    change pieceV k (pieceT s.data.toList (beginI p s.data.toList.length) (s.data.toList.length : Int)) = _ at hv'
    by_cases hp : p < 0
    · rw [beg_m hp] at hv'
      by_cases hk : k = 3
      · obtain ⟨rfl, rfl, e⟩ := pv_blob hk hv'
        exact rsub2_okmb b off cap k n t k1 n1 t1 w hL hA hi s hsz (Lib.hid hs) p 0 0 0 ⟨p0, p1⟩ ⟨by decide, by decide⟩ (Lib.hid h) hp hk _ (Lib.hid e)
      · obtain ⟨rfl, rfl, e⟩ := pv_text hk hv'
        exact rsub2_okmt b off cap k n t k1 n1 t1 w hL hA hi s hsz (Lib.hid hs) p 0 0 0 ⟨p0, p1⟩ ⟨by decide, by decide⟩ (Lib.hid h) hp hk _ (Lib.hid e)
    · rw [beg_p (by omega)] at hv'
      by_cases hk : k = 3
      · obtain ⟨rfl, rfl, e⟩ := pv_blob hk hv'
        exact rsub2_okpb b off cap k n t k1 n1 t1 w hL hA hi s hsz (Lib.hid hs) p 0 0 0 ⟨p0, p1⟩ ⟨by decide, by decide⟩ (Lib.hid h) (by omega) hk _ (Lib.hid e)
      · obtain ⟨rfl, rfl, e⟩ := pv_text hk hv'
        exact rsub2_okpt b off cap k n t k1 n1 t1 w hL hA hi s hsz (Lib.hid hs) p 0 0 0 ⟨p0, p1⟩ ⟨by decide, by decide⟩ (Lib.hid h) (by omega) hk _ (Lib.hid e)
/-- the piece, whichever of its ends is first -/
theorem sub3_ends {be m : Int} (hb : Val.inr be) (k : Int) (s : List UInt8) : (if clampI (be + m) < be then pieceV k (pieceT s (clampI (be + m)) be) else pieceV k (pieceT s be (clampI (be + m)))) = (if m < 0 then pieceV k (pieceT s (clampI (be + m)) be) else pieceV k (pieceT s be (clampI (be + m)))) := by
  obtain ⟨h0, h1⟩ := hb
  by_cases hm : m < 0
  · rw [if_pos hm]
    by_cases h : clampI (be + m) < be
    · rw [if_pos h]
    · rw [if_neg h]
      have e : clampI (be + m) = be := by
        unfold clampI at h ⊢
        split
        · omega
        · split
          · rename_i h2 h3; rw [if_neg h2, if_pos h3] at h; omega
          · rename_i h2 h3; rw [if_neg h2, if_neg h3] at h; omega
      rw [e]
  · rw [if_neg hm, if_neg]
    unfold clampI
    split
    · omega
    · split <;> omega
theorem rsubstr18_three (b off cap : Nat) (v v1 v2 : Val.V) (w : World) (hL : Lits w) (hA : ValsAt w (some ⟨b, off, none⟩) 3 [v, v1, v2]) (hmy : Val.may v = true) (h0 : v.kind ≠ 0) (hi : Val.inr v.int) (hi1 : Val.inr v1.int) (hi2 : Val.inr v2.int) (k' n' : Int) (t' : ByteArray) (hv : Hid (substr3V v v1 v2 = ⟨k', n', t'.data.toList⟩)) :
    Calls Tryz.prog 36 #[.slice (some ⟨b, off, none⟩) 3 cap] w (VRet k' n' t' w) := by
  obtain ⟨k, n, tx⟩ := v
  obtain ⟨t, rfl⟩ : ∃ t : ByteArray, tx = t.data.toList := ⟨bs tx, rfl⟩
  obtain ⟨k1, n1, tx1⟩ := v1
  obtain ⟨t1, rfl⟩ : ∃ t : ByteArray, tx1 = t.data.toList := ⟨bs tx1, rfl⟩
  obtain ⟨k2, n2, tx2⟩ := v2
  obtain ⟨t2, rfl⟩ : ∃ t : ByteArray, tx2 = t.data.toList := ⟨bs tx2, rfl⟩
  obtain ⟨s, hs, hsz, es⟩ := shown_v hmy h0 hi
  have hv' := hv.out
  unfold substr3V at hv'
  rcases Val.num_cases (v := ⟨k1, n1, t1.data.toList⟩) hi1 with h | ⟨p, h, p0, p1⟩
  · rw [h, if_pos (show Val.zero.kind = 0 from rfl)] at hv'
    obtain ⟨rfl, rfl, rfl⟩ := v_inj hv'
    obtain ⟨k2x, n2x, hx, _⟩ := num_at ⟨k2, n2, t2.data.toList⟩ hi2
    exact rsub3_null1 b off cap k n t k1 n1 t1 k2 n2 t2 w hL hA hi s hsz (Lib.hid hs) 0 0 k2x n2x ⟨by decide, by decide⟩ ⟨by decide, by decide⟩ (Lib.hid h) (Lib.hid hx)
  · rw [h, if_neg (show ¬ (1 : Int) = 0 by decide), es] at hv'
    rcases Val.num_cases (v := ⟨k2, n2, t2.data.toList⟩) hi2 with h2 | ⟨m, h2, m0, m1⟩
    · rw [h2, if_pos (show Val.zero.kind = 0 from rfl)] at hv'
      obtain ⟨rfl, rfl, rfl⟩ := v_inj hv'
      exact rsub3_null2 b off cap k n t k1 n1 t1 k2 n2 t2 w hL hA hi s hsz (Lib.hid hs) p 0 0 0 ⟨p0, p1⟩ ⟨by decide, by decide⟩ (Lib.hid h) (Lib.hid h2)
    · rw [h2, if_neg (show ¬ (1 : Int) = 0 by decide)] at hv'
      change (if clampI (beginI p s.data.toList.length + m) < beginI p s.data.toList.length then pieceV k (pieceT s.data.toList (clampI (beginI p s.data.toList.length + m)) (beginI p s.data.toList.length)) else pieceV k (pieceT s.data.toList (beginI p s.data.toList.length) (clampI (beginI p s.data.toList.length + m)))) = _ at hv'
      have hl : s.data.toList.length = s.size := rfl
      by_cases hp : p < 0
      · rw [beg_m hp, sub3_ends (by constructor <;> omega)] at hv'
        by_cases hm : m < 0
        · rw [if_pos hm] at hv'
          by_cases hk : k = 3
          · obtain ⟨rfl, rfl, e⟩ := pv_blob hk hv'
            exact rsub3_okmmb b off cap k n t k1 n1 t1 k2 n2 t2 w hL hA hi s hsz (Lib.hid hs) p m 0 0 ⟨p0, p1⟩ ⟨m0, m1⟩ (Lib.hid h) (Lib.hid h2) hp hm hk _ (Lib.hid e)
          · obtain ⟨rfl, rfl, e⟩ := pv_text hk hv'
            exact rsub3_okmmt b off cap k n t k1 n1 t1 k2 n2 t2 w hL hA hi s hsz (Lib.hid hs) p m 0 0 ⟨p0, p1⟩ ⟨m0, m1⟩ (Lib.hid h) (Lib.hid h2) hp hm hk _ (Lib.hid e)
        · rw [if_neg hm] at hv'
          by_cases hk : k = 3
          · obtain ⟨rfl, rfl, e⟩ := pv_blob hk hv'
            exact rsub3_okmpb b off cap k n t k1 n1 t1 k2 n2 t2 w hL hA hi s hsz (Lib.hid hs) p m 0 0 ⟨p0, p1⟩ ⟨m0, m1⟩ (Lib.hid h) (Lib.hid h2) hp (by omega) hk _ (Lib.hid e)
          · obtain ⟨rfl, rfl, e⟩ := pv_text hk hv'
            exact rsub3_okmpt b off cap k n t k1 n1 t1 k2 n2 t2 w hL hA hi s hsz (Lib.hid hs) p m 0 0 ⟨p0, p1⟩ ⟨m0, m1⟩ (Lib.hid h) (Lib.hid h2) hp (by omega) hk _ (Lib.hid e)
      · rw [beg_p (by omega), sub3_ends (by constructor <;> omega)] at hv'
        by_cases hm : m < 0
        · rw [if_pos hm] at hv'
          by_cases hk : k = 3
          · obtain ⟨rfl, rfl, e⟩ := pv_blob hk hv'
            exact rsub3_okpmb b off cap k n t k1 n1 t1 k2 n2 t2 w hL hA hi s hsz (Lib.hid hs) p m 0 0 ⟨p0, p1⟩ ⟨m0, m1⟩ (Lib.hid h) (Lib.hid h2) (by omega) hm hk _ (Lib.hid e)
          · obtain ⟨rfl, rfl, e⟩ := pv_text hk hv'
            exact rsub3_okpmt b off cap k n t k1 n1 t1 k2 n2 t2 w hL hA hi s hsz (Lib.hid hs) p m 0 0 ⟨p0, p1⟩ ⟨m0, m1⟩ (Lib.hid h) (Lib.hid h2) (by omega) hm hk _ (Lib.hid e)
        · rw [if_neg hm] at hv'
          by_cases hk : k = 3
          · obtain ⟨rfl, rfl, e⟩ := pv_blob hk hv'
            exact rsub3_okppb b off cap k n t k1 n1 t1 k2 n2 t2 w hL hA hi s hsz (Lib.hid hs) p m 0 0 ⟨p0, p1⟩ ⟨m0, m1⟩ (Lib.hid h) (Lib.hid h2) (by omega) (by omega) hk _ (Lib.hid e)
          · obtain ⟨rfl, rfl, e⟩ := pv_text hk hv'
            exact rsub3_okppt b off cap k n t k1 n1 t1 k2 n2 t2 w hL hA hi s hsz (Lib.hid hs) p m 0 0 ⟨p0, p1⟩ ⟨m0, m1⟩ (Lib.hid h) (Lib.hid h2) (by omega) (by omega) hk _ (Lib.hid e)

end Go.Proofs.YtmkgalcojoeniaaGreatDoor

