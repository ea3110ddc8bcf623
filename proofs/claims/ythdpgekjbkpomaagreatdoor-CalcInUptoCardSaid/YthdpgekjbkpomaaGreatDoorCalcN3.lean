/- Walks: is a value one of a list: of the reference. -/
import Derived.Test.YthdpgekjbkpomaaGreatDoorCalcN2
import Derived.Deep.RegionHeld3
set_option maxRecDepth 100000
set_option linter.unusedVariables false
set_option linter.unusedSimpArgs false
namespace Go.Proofs.YthdpgekjbkpomaaGreatDoor
open Go.RowKit

set_option maxHeartbeats 8000000 in
theorem rin_main (kx nx : Int) (tx : ByteArray) (p : Option Addr) (N c : Nat) (vs : List Val.V) (cc : Int) (w : World) (hL : Lits w) (hA : ValsAt w p N vs) (hN : N ≤ 1048576) (hnx : Val.inr nx) (hr : ∀ v ∈ vs, Val.inr v.int) (hl : vs.all Val.may = true) (hm : Val.may ⟨kx, nx, tx.data.toList⟩ = true) (k2 n2 : Int) (hv : Hid (Val.inF ⟨kx, nx, tx.data.toList⟩ vs cc = ⟨k2, n2, []⟩)) :
    Calls Tryz.prog 24 #[.agg #[.int .i64 kx, .int .i64 nx, .string tx], .slice p N c, .int .i64 cc] w (VRet k2 n2 ⟨#[]⟩ w) := by
  have hS := start2 w (.int .i64 kx) (.int .i64 nx) (.string tx) (.int .i64 0) (.int .i64 0) (.string ⟨#[]⟩) 24 24
  have hA0 := hA.below (((Below.refl _ w).alloc (Nat.le_refl _) (.cells #[.int .i64 kx, .int .i64 nx, .string tx] 24)).alloc (by simp) (.cells #[.int .i64 0, .int .i64 0, .string ⟨#[]⟩] 24))
  obtain ⟨m, hc, q⟩ : ∃ m : Nat, vcheck vs = m ∧ ((m : Int) == 2) = false := by
    rw [vcheck, if_pos hl]
    split
    · exact ⟨3, rfl, by decide⟩
    · exact ⟨0, rfl, by decide⟩
  have hlen := hA.1
  replace hlen := Lib.hid hlen
  replace hc := Lib.hid hc
  replace hm := Lib.hid hm
  replace hl := Lib.hid hl
  replace hr := Lib.hid hr
  replace hnx := Lib.hid hnx
  go_enter Tryz.func24, Tryz.ntmps24
  go_wp2_with (first
    | (go_at_call 64; refine (rcheck_is p N c vs _ hA0 hN _ hc).mono ?_; rintro e w1 ⟨rfl, hb1⟩; have hS1 := keep2 hS hb1; obtain ⟨ca0, ca1, ca2, ca3, ca4, ca5, ca6, ca7, ca8, ca9, ca10, ca11, hz, hB⟩ := id hS1)
    | (go_at_call 25; refine (rmay_is _ _ _ _ hm).mono ?_; rintro e w3 ⟨rfl, hb3⟩; have hS3 := keep2 hS1 hb3)
    | (go_at_call 36; refine (rint_any _ _).mono ?_; rintro e w4 ⟨rfl, hb4⟩; have hS4 := keep2 (keep2 hS3 hb4) (below_new w4 (.cells #[.int .i64 1, .int .i64 0, .string ⟨#[]⟩] 24)); have hO4 := OutAt.new w4 1 0))
  have hgo : w.heap.size + 1 < w4.heap.size := by
    obtain ⟨cz0, cz1, cz2, cz3, cz4, cz5, cz6, cz7, cz8, cz9, cz10, cz11, hz3, _⟩ := id (keep2 hS3 hb4)
    exact hz3
  clear hS hS1 hS3 ca0 ca1 ca2 ca3 ca4 ca5 ca6 ca7 ca8 ca9 ca10 ca11 hz hB
  go_loopw [8] (fun iv wr => ∃ k : Nat, ∃ ko no : Int, iv = .int .i64 (k : Int) ∧ k ≤ N ∧ Hid (Val.inF ⟨kx, nx, tx.data.toList⟩ (vs.take k) cc = ⟨ko, no, []⟩) ∧ Hid (wr.cell? ⟨w.heap.size, 0, none⟩ = some (.int .i64 kx) ∧ wr.cell? ⟨w.heap.size, 1, none⟩ = some (.int .i64 nx) ∧ wr.cell? ⟨w.heap.size, 2, none⟩ = some (.string tx) ∧ wr.frozen? ⟨w.heap.size, 0, none⟩ = false ∧ wr.frozen? ⟨w.heap.size, 1, none⟩ = false ∧ wr.frozen? ⟨w.heap.size, 2, none⟩ = false ∧ wr.cell? ⟨w.heap.size + 1, 0, none⟩ = some (.int .i64 0) ∧ wr.cell? ⟨w.heap.size + 1, 1, none⟩ = some (.int .i64 0) ∧ wr.cell? ⟨w.heap.size + 1, 2, none⟩ = some (.string ⟨#[]⟩) ∧ wr.frozen? ⟨w.heap.size + 1, 0, none⟩ = false ∧ wr.frozen? ⟨w.heap.size + 1, 1, none⟩ = false ∧ wr.frozen? ⟨w.heap.size + 1, 2, none⟩ = false ∧ w.heap.size + 1 < wr.heap.size ∧ Below w.heap.size w wr) ∧ OutAt wr w4.heap.size ko no) (fun iv _ => N - (intOf iv).toNat)
  case atStart => exact ⟨0, 1, 0, by go_num, by omega, Lib.hid (by simp [Val.inF, Val.pbool]), Lib.hid hS4, hO4⟩
  case round =>
    obtain ⟨k, ko, no, rfl, hk, hin, hSr, hO⟩ := hrel
    clear hS4 hO4
    obtain ⟨ca0, ca1, ca2, ca3, ca4, ca5, ca6, ca7, ca8, ca9, ca10, ca11, hz, hB⟩ := id hSr.out
    obtain ⟨o0, o1, o2, o3, o4, o5, oz⟩ := id hO
    by_cases hlt : k < N
    · obtain ⟨v, hvk⟩ : ∃ v, vs[k]? = some v := ⟨_, List.getElem?_eq_getElem (by rw [hlen.out]; exact hlt)⟩
      rcases (hA.below hB).2 with h0 | ⟨b, off, rfl, hbl, hcell⟩
      · rw [h0] at hvk; simp at hvk
      · obtain ⟨d0, d1, d2⟩ := hcell k v hvk
        have hsn := take_snoc hvk
        have hmem : v ∈ vs := List.mem_of_getElem? hvk
        have hmv : Val.may v = true := List.all_eq_true.1 hl.out v hmem
        have hiv := hr.out v hmem
        obtain ⟨kd, n, tv⟩ := v
        obtain ⟨t, rfl⟩ : ∃ t : ByteArray, tv = t.data.toList := ⟨bs tv, rfl⟩
        rw [bs_of] at d2
        simp only at d0 d1 d2 hiv
        have hlB : decide ((k : Int) < (N : Int)) = true := by simp; omega
        have lx : w.heap.size < wr.heap.size := by omega
        obtain ⟨k', n', e13, t13, i13⟩ := two13_form (c := cc) hm.out hmv
        obtain ⟨k3, n3, e3, i3⟩ := inF_form ⟨kx, nx, tx.data.toList⟩ (vs.take (k + 1)) cc
        have iO : Val.inr no := by
          obtain ⟨a1, a2, h1, h2⟩ := inF_form ⟨kx, nx, tx.data.toList⟩ (vs.take k) cc
          have := h1.symm.trans hin.out
          simp only [Val.V.mk.injEq] at this
          rw [← this.2.1]; exact h2
        have e22 : Val.binary 22 ⟨ko, no, (⟨#[]⟩ : ByteArray).data.toList⟩ ⟨k', n', (⟨#[]⟩ : ByteArray).data.toList⟩ cc = (⟨k3, n3, (⟨#[]⟩ : ByteArray).data.toList⟩, 0) := by
          have h1 := Val.inF_snoc (x := ⟨kx, nx, tx.data.toList⟩) (l := vs.take k) (v := ⟨kd, n, t.data.toList⟩) (c := cc) hm.out hmv
          have m1 := Val.inF_may ⟨kx, nx, tx.data.toList⟩ (vs.take k) cc
          have m2 := Val.two_may (c := cc) hm.out hmv
          rw [← hsn, hin.out, t13, e3] at h1
          rw [hin.out] at m1
          rw [t13] at m2
          have e0 : (⟨#[]⟩ : ByteArray).data.toList = [] := rfl
          rw [e0, ← h1, Val.two_makes (by decide) m1 m2, Val.binary, if_pos (by decide), if_pos ⟨m1, m2⟩]
        replace e13 := Lib.hid e13
        replace e22 := Lib.hid e22
        replace e3 := Lib.hid e3
        replace iO := Lib.hid iO
        replace i13 := Lib.hid i13
        replace hiv := Lib.hid hiv
        clear hcell hvk hsn hmem hmv t13 i3
        go_wp2_with fail
        have hb0 : Below wr.heap.size wr wr.drew := (Below.refl _ _).drew
        obtain ⟨W1, hW1⟩ : ∃ W1, wr.drew = W1 := ⟨_, rfl⟩
        rw [hW1] at hb0
        refine wp_region_held_drew (S := (fun W => wr.heap.size ≤ W.heap.size ∧ Below wr.heap.size wr W)) (by kernel_rfl) ?_ (fun hH => ?_)
        · rw [hW1]; exact ⟨hb0.size, hb0⟩
        rw [hW1] at hH ⊢
        clear hW1 hb0
        refine wpAnyH_take (i := 0) (v := ?_) rfl (by kernel_rfl) (by kernel_rfl) (by kernel_rfl) (fun _ _ _ h => h) (Or.inl ⟨by rfl, ?_⟩) hH ?_
        rotate_left
        · (intro W hSw; (try dsimp only at hSw); have z0 := (hSw.2.cell (p := ⟨w.heap.size, 0, none⟩) lx).trans ca0; have z1 := (hSw.2.cell (p := ⟨w.heap.size, 1, none⟩) lx).trans ca1; have z2 := (hSw.2.cell (p := ⟨w.heap.size, 2, none⟩) lx).trans ca2; go_simp; try with_reducible rfl)
        try simp only [List.getElem_toArray, List.getElem_cons_zero, List.getElem_cons_succ, Act.put, List.setIfInBounds_toArray, List.set_cons_zero, List.set_cons_succ]
        refine wpAnyH_take (i := 1) (v := ?_) rfl (by kernel_rfl) (by kernel_rfl) (by kernel_rfl) (fun _ _ _ h => h) (Or.inl ⟨by rfl, ?_⟩) hH ?_
        rotate_left
        · (intro W hSw; (try dsimp only at hSw); go_simp; try with_reducible rfl)
        try simp only [List.getElem_toArray, List.getElem_cons_zero, List.getElem_cons_succ, Act.put, List.setIfInBounds_toArray, List.set_cons_zero, List.set_cons_succ]
        refine wpAnyH_take (i := 2) (v := ?_) rfl (by kernel_rfl) (by kernel_rfl) (by kernel_rfl) (fun _ _ _ h => h) (Or.inl ⟨by rfl, ?_⟩) hH ?_
        rotate_left
        · (intro W hSw; (try dsimp only at hSw); go_simp; try with_reducible rfl)
        try simp only [List.getElem_toArray, List.getElem_cons_zero, List.getElem_cons_succ, Act.put, List.setIfInBounds_toArray, List.set_cons_zero, List.set_cons_succ]
        refine wpAnyH_take (i := 3) (v := ?_) rfl (by kernel_rfl) (by kernel_rfl) (by kernel_rfl) (fun _ _ _ h => h) (Or.inl ⟨by rfl, ?_⟩) hH ?_
        rotate_left
        · (intro W hSw; (try dsimp only at hSw); go_simp; try with_reducible rfl)
        try simp only [List.getElem_toArray, List.getElem_cons_zero, List.getElem_cons_succ, Act.put, List.setIfInBounds_toArray, List.set_cons_zero, List.set_cons_succ]
        refine wpAnyH_take (i := 4) (v := ?_) rfl (by kernel_rfl) (by kernel_rfl) (by kernel_rfl) (fun _ _ _ h => h) (Or.inl ⟨by rfl, ?_⟩) hH ?_
        rotate_left
        · (intro W hSw; (try dsimp only at hSw); have z0 := (hSw.2.cell (p := ⟨b, _, none⟩) hbl).trans d0; have z1 := (hSw.2.cell (p := ⟨b, _, none⟩) hbl).trans d1; have z2 := (hSw.2.cell (p := ⟨b, _, none⟩) hbl).trans d2; go_simp; try with_reducible rfl)
        try simp only [List.getElem_toArray, List.getElem_cons_zero, List.getElem_cons_succ, Act.put, List.setIfInBounds_toArray, List.set_cons_zero, List.set_cons_succ]
        refine wpAnyH_take (i := 5) (v := ?_) rfl (by kernel_rfl) (by kernel_rfl) (by kernel_rfl) (fun _ _ _ h => h) (Or.inl ⟨by rfl, ?_⟩) hH ?_
        rotate_left
        · (intro W hSw; (try dsimp only at hSw); go_simp; try with_reducible rfl)
        try simp only [List.getElem_toArray, List.getElem_cons_zero, List.getElem_cons_succ, Act.put, List.setIfInBounds_toArray, List.set_cons_zero, List.set_cons_succ]
        refine wpAnyH_ready (rs := [6, 10]) (by kernel_rfl) (by simp) ?_
        refine AllReadyH.cons rfl (fun K hK => ?_) (AllReadyH.cons rfl (fun K hK => ?_) AllReadyH.nil)
        · go_simp
          (go_at_call 21; refine (rbinary_is _ _ _ _ _ _ _ _ _ (hL.below ((hB.trans (hH.2.mono hB.size)))) hnx.out hiv.out _ _ ⟨#[]⟩ _ e13).mono ?_; rintro e w5 ⟨rfl, hb5⟩)
          refine hK.out _ _ ?_ (fun hH2 => ?_)
          · exact ⟨Nat.le_trans hH.1 hb5.size, below_step hH.2 hH.1 hb5⟩
          clear hK K
          try simp only [List.getElem_toArray, List.getElem_cons_zero, List.getElem_cons_succ, Act.put, List.setIfInBounds_toArray, List.set_cons_zero, List.set_cons_succ]
          refine wpAnyH_take (i := 7) (v := ?_) rfl (by kernel_rfl) (by kernel_rfl) (by kernel_rfl) (fun _ _ _ h => h) (Or.inl ⟨by rfl, ?_⟩) hH2 ?_
          rotate_left
          · (intro W hSw; (try dsimp only at hSw); go_simp; try with_reducible rfl)
          try simp only [List.getElem_toArray, List.getElem_cons_zero, List.getElem_cons_succ, Act.put, List.setIfInBounds_toArray, List.set_cons_zero, List.set_cons_succ]
          refine wpAnyH_take (i := 8) (v := ?_) rfl (by kernel_rfl) (by kernel_rfl) (by kernel_rfl) (fun _ _ _ h => h) (Or.inl ⟨by rfl, ?_⟩) hH2 ?_
          rotate_left
          · (intro W hSw; (try dsimp only at hSw); go_simp; try with_reducible rfl)
          try simp only [List.getElem_toArray, List.getElem_cons_zero, List.getElem_cons_succ, Act.put, List.setIfInBounds_toArray, List.set_cons_zero, List.set_cons_succ]
          refine wpAnyH_take (i := 9) (v := ?_) rfl (by kernel_rfl) (by kernel_rfl) (by kernel_rfl) (fun _ _ _ h => h) (Or.inl ⟨by rfl, ?_⟩) hH2 ?_
          rotate_left
          · (intro W hSw; (try dsimp only at hSw); go_simp; try with_reducible rfl)
          try simp only [List.getElem_toArray, List.getElem_cons_zero, List.getElem_cons_succ, Act.put, List.setIfInBounds_toArray, List.set_cons_zero, List.set_cons_succ]
          refine wpAnyH_ready (rs := [10]) (by kernel_rfl) (by simp) ?_
          refine AllReadyH.cons rfl (fun K hK => ?_) AllReadyH.nil
          go_simp
          refine hK.out _ _ ?_ (fun hH3 => ?_)
          · exact ⟨Nat.le_trans hH2.1 (by simp), hH2.2.alloc hH2.1 _⟩
          clear hK K
          try simp only [List.getElem_toArray, List.getElem_cons_zero, List.getElem_cons_succ, Act.put, List.setIfInBounds_toArray, List.set_cons_zero, List.set_cons_succ]
          refine wpAnyH_ready (rs := [11]) (by kernel_rfl) (by simp) ?_
          refine AllReadyH.cons rfl (fun K hK => ?_) AllReadyH.nil
          go_simp
          refine hK.out _ _ ?_ (fun hH4 => ?_)
          · exact ⟨Nat.le_trans hH2.1 (by simp), hH2.2.alloc hH2.1 _⟩
          clear hK K
          try simp only [List.getElem_toArray, List.getElem_cons_zero, List.getElem_cons_succ, Act.put, List.setIfInBounds_toArray, List.set_cons_zero, List.set_cons_succ]
          refine wpAnyH_take (i := 12) (v := ?_) rfl (by kernel_rfl) (by kernel_rfl) (by kernel_rfl) (fun _ _ _ h => h) (Or.inl ⟨by rfl, ?_⟩) hH4 ?_
          rotate_left
          · (intro W hSw; (try dsimp only at hSw); go_simp; try with_reducible rfl)
          try simp only [List.getElem_toArray, List.getElem_cons_zero, List.getElem_cons_succ, Act.put, List.setIfInBounds_toArray, List.set_cons_zero, List.set_cons_succ]
          refine wpAnyH_done (by kernel_rfl) ?_ _
          have hS5 := keep2 hSr.out hH4.2
          have hO5 := hO.below hH4.2
          obtain ⟨i0, i1, i2, _, _, _, _⟩ := OutAt.new w5 k' n'
          obtain ⟨p0, p1, p2, p3, p4, p5, pz⟩ := id hO5
          obtain ⟨cf0, cf1, cf2, cf3, cf4, cf5, cf6, cf7, cf8, cf9, cf10, cf11, hz5, hB5⟩ := id hS5
          go_wp2_with (go_at_call 21; refine (rbinary_is _ _ _ _ _ _ _ _ _ (hL.below hB5) iO.out i13.out _ _ ⟨#[]⟩ _ e22).mono ?_; rintro e w6 ⟨rfl, hb6⟩; have hS6 := keep2 hS5 hb6; have hO6 := hO5.below hb6; obtain ⟨r0, r1, r2, r3, r4, r5, rz⟩ := id hO6)
          go_roundw
          case rel => exact ⟨k + 1, k3, n3, by go_num, by omega, e3, Lib.hid (other2 hS6 hgo _ _ _), hO6.put k3 n3⟩
          case measure => simp [intOf]; omega
        · go_simp
          refine hK.out _ _ ?_ (fun hH2 => ?_)
          · exact ⟨Nat.le_trans hH.1 (by simp), hH.2.alloc hH.1 _⟩
          clear hK K
          try simp only [List.getElem_toArray, List.getElem_cons_zero, List.getElem_cons_succ, Act.put, List.setIfInBounds_toArray, List.set_cons_zero, List.set_cons_succ]
          refine wpAnyH_ready (rs := [6]) (by kernel_rfl) (by simp) ?_
          refine AllReadyH.cons rfl (fun K hK => ?_) AllReadyH.nil
          go_simp
          (go_at_call 21; refine (rbinary_is _ _ _ _ _ _ _ _ _ (hL.below ((hB.trans (hH2.2.mono hB.size)))) hnx.out hiv.out _ _ ⟨#[]⟩ _ e13).mono ?_; rintro e w5 ⟨rfl, hb5⟩)
          have hI0 := (OutAt.new W1 0 0).below hb5
          obtain ⟨j0, j1, j2, j3, j4, j5, jz⟩ := id hI0
          refine hK.out _ _ ?_ (fun hH3 => ?_)
          · exact ⟨Nat.le_trans hH2.1 hb5.size, below_step hH2.2 hH2.1 hb5⟩
          clear hK K
          try simp only [List.getElem_toArray, List.getElem_cons_zero, List.getElem_cons_succ, Act.put, List.setIfInBounds_toArray, List.set_cons_zero, List.set_cons_succ]
          refine wpAnyH_take (i := 7) (v := ?_) rfl (by kernel_rfl) (by kernel_rfl) (by kernel_rfl) (fun _ _ _ h => h) (Or.inl ⟨by rfl, ?_⟩) hH3 ?_
          rotate_left
          · (intro W hSw; (try dsimp only at hSw); go_simp; try with_reducible rfl)
          try simp only [List.getElem_toArray, List.getElem_cons_zero, List.getElem_cons_succ, Act.put, List.setIfInBounds_toArray, List.set_cons_zero, List.set_cons_succ]
          refine wpAnyH_take (i := 8) (v := ?_) rfl (by kernel_rfl) (by kernel_rfl) (by kernel_rfl) (fun _ _ _ h => h) (Or.inl ⟨by rfl, ?_⟩) hH3 ?_
          rotate_left
          · (intro W hSw; (try dsimp only at hSw); go_simp; try with_reducible rfl)
          try simp only [List.getElem_toArray, List.getElem_cons_zero, List.getElem_cons_succ, Act.put, List.setIfInBounds_toArray, List.set_cons_zero, List.set_cons_succ]
          refine wpAnyH_take (i := 9) (v := ?_) rfl (by kernel_rfl) (by kernel_rfl) (by kernel_rfl) (fun _ _ _ h => h) (Or.inl ⟨by rfl, ?_⟩) hH3 ?_
          rotate_left
          · (intro W hSw; (try dsimp only at hSw); go_simp; try with_reducible rfl)
          try simp only [List.getElem_toArray, List.getElem_cons_zero, List.getElem_cons_succ, Act.put, List.setIfInBounds_toArray, List.set_cons_zero, List.set_cons_succ]
          refine wpAnyH_ready (rs := [11]) (by kernel_rfl) (by simp) ?_
          refine AllReadyH.cons rfl (fun K hK => ?_) AllReadyH.nil
          go_simp
          refine hK.out _ _ ?_ (fun hH4 => ?_)
          · exact ⟨by simp only [World.size_setCell]; exact hH3.1, below_setg hH3.2 hH.1⟩
          clear hK K
          try simp only [List.getElem_toArray, List.getElem_cons_zero, List.getElem_cons_succ, Act.put, List.setIfInBounds_toArray, List.set_cons_zero, List.set_cons_succ]
          refine wpAnyH_take (i := 12) (v := ?_) rfl (by kernel_rfl) (by kernel_rfl) (by kernel_rfl) (fun _ _ _ h => h) (Or.inl ⟨by rfl, ?_⟩) hH4 ?_
          rotate_left
          · (intro W hSw; (try dsimp only at hSw); go_simp; try with_reducible rfl)
          try simp only [List.getElem_toArray, List.getElem_cons_zero, List.getElem_cons_succ, Act.put, List.setIfInBounds_toArray, List.set_cons_zero, List.set_cons_succ]
          refine wpAnyH_done (by kernel_rfl) ?_ _
          clear j0 j1 j2 j3 j4 j5
          have hS5 := keep2 hSr.out hH4.2
          have hO5 := hO.below hH4.2
          obtain ⟨i0, i1, i2, _, _, _, _⟩ := hI0.put k' n'
          obtain ⟨p0, p1, p2, p3, p4, p5, pz⟩ := id hO5
          obtain ⟨cf0, cf1, cf2, cf3, cf4, cf5, cf6, cf7, cf8, cf9, cf10, cf11, hz5, hB5⟩ := id hS5
          go_wp2_with (go_at_call 21; refine (rbinary_is _ _ _ _ _ _ _ _ _ (hL.below hB5) iO.out i13.out _ _ ⟨#[]⟩ _ e22).mono ?_; rintro e w6 ⟨rfl, hb6⟩; have hS6 := keep2 hS5 hb6; have hO6 := hO5.below hb6; obtain ⟨r0, r1, r2, r3, r4, r5, rz⟩ := id hO6)
          go_roundw
          case rel => exact ⟨k + 1, k3, n3, by go_num, by omega, e3, Lib.hid (other2 hS6 hgo _ _ _), hO6.put k3 n3⟩
          case measure => simp [intOf]; omega
    · have htk : vs.take k = vs := List.take_of_length_le (by rw [hlen.out]; omega)
      have hv' := hin.out
      rw [htk, hv.out] at hv'
      simp only [Val.V.mk.injEq, and_true] at hv'
      obtain ⟨rfl, rfl⟩ := hv'
      have hlB : decide ((k : Int) < (N : Int)) = false := by simp; omega
      clear htk hin hv
      go_wp2
      exact bodyPost_ret (v := .agg #[.int .i64 k2, .int .i64 n2, .string ⟨#[]⟩]) (by simp only [results, Tryz.results24]; go_simp) rfl ⟨rfl, below_setg hB (by omega)⟩

/-- WHAT the reference's In ANSWERS -/
theorem rin_is (kx nx : Int) (tx : ByteArray) (p : Option Addr) (N c : Nat) (vs : List Val.V) (cc : Int) (w : World) (hL : Lits w) (hA : ValsAt w p N vs) (hN : N ≤ 1048576) (hnx : Val.inr nx) (hr : ∀ v ∈ vs, Val.inr v.int) (k2 n2 : Int) (hv : Hid (Val.isIn ⟨kx, nx, tx.data.toList⟩ vs cc = ⟨k2, n2, []⟩)) :
    Calls Tryz.prog 24 #[.agg #[.int .i64 kx, .int .i64 nx, .string tx], .slice p N c, .int .i64 cc] w (VRet k2 n2 ⟨#[]⟩ w) := by
  cases hl : vs.all Val.may with
  | false =>
    have hv' := (Val.isIn_no (x := ⟨kx, nx, tx.data.toList⟩) (c := cc) (.inr hl)).symm.trans hv.out
    obtain ⟨rfl, rfl⟩ := mk_zero' hv'
    exact rin_all kx nx tx p N c vs cc w hA hN hl
  | true =>
    cases hm : Val.may ⟨kx, nx, tx.data.toList⟩ with
    | false =>
      have hv' := (Val.isIn_no (l := vs) (c := cc) (.inl hm)).symm.trans hv.out
      obtain ⟨rfl, rfl⟩ := mk_zero' hv'
      exact rin_x kx nx tx p N c vs cc w hA hN hl hm
    | true =>
      have hv' := (Val.isIn_yes (c := cc) hm hl).symm.trans hv.out
      exact rin_main kx nx tx p N c vs cc w hL hA hN hnx hr hl hm k2 n2 (Lib.hid hv')

end Go.Proofs.YthdpgekjbkpomaaGreatDoor
