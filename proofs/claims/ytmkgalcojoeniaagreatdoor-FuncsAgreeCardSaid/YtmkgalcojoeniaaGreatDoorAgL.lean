/- The law FuncsAgree. -/
import Derived.Test.YtmkgalcojoeniaaGreatDoorAgA
import Derived.Deep.CutRange
set_option maxRecDepth 100000
set_option linter.unusedVariables false
set_option linter.unusedSimpArgs false
namespace Go.Proofs.YtmkgalcojoeniaaGreatDoor
open Go.RowKit
attribute [local go_sem] run_store_fn run_store_nofn

theorem vread18 {k n : Int} {t : ByteArray} {E : Nat} (s : ByteArray) (w : World) (h : Hid (Val.read s.data.toList = (⟨k, n, t.data.toList⟩, E))) (hL : Lits w) :
    Calls Tryz.prog 21 #[.string s] w fun e w' => e = .returned (.tuple #[.agg #[.int .i64 k, .int .i64 n, .string t], .int .i64 (E : Int)]) ∧ Below w.heap.size w w' :=
  (read_any s w hL).mono fun _ _ ⟨h1, h2⟩ => ⟨by rw [h1, h.out, bs_of], h2⟩
set_option maxHeartbeats 40000000 in
theorem ag_at (k n : Int) (t : ByteArray) (K : Nat) (w : World) (hL : Lits w) (hi : Val.inr n) (hm : Val.may ⟨k, n, t.data.toList⟩ = true) (h0 : k ≠ 0) (hK4 : K ≤ 400) (low up tr rt A B C q t1 : ByteArray) (p kq k1 n1 : Int) (j E : Nat)
    (hlow : Hid (callV [108, 111, 119, 101, 114] 0 [⟨k, n, t.data.toList⟩] = (⟨2, 0, low.data.toList⟩, 0)))
    (hlow2 : Hid (callV [108, 111, 119, 101, 114] 0 [⟨2, 0, low.data.toList⟩] = (⟨2, 0, low.data.toList⟩, 0)))
    (hup : Hid (callV [117, 112, 112, 101, 114] 0 [⟨k, n, t.data.toList⟩] = (⟨2, 0, up.data.toList⟩, 0)))
    (hlu : Hid (callV [108, 111, 119, 101, 114] 0 [⟨2, 0, up.data.toList⟩] = (⟨2, 0, low.data.toList⟩, 0)))
    (htr : Hid (callV [116, 114, 105, 109] 0 [⟨k, n, t.data.toList⟩] = (⟨2, 0, tr.data.toList⟩, 0)))
    (hrt : Hid (callV [114, 116, 114, 105, 109] 0 [⟨k, n, t.data.toList⟩] = (⟨2, 0, rt.data.toList⟩, 0)))
    (hlr : Hid (callV [108, 116, 114, 105, 109] 0 [⟨2, 0, rt.data.toList⟩] = (⟨2, 0, tr.data.toList⟩, 0)))
    (ha : Hid (callV [115, 117, 98, 115, 116, 114] 0 [⟨k, n, t.data.toList⟩, ⟨1, 1, (⟨#[]⟩ : ByteArray).data.toList⟩, ⟨1, (K : Int), (⟨#[]⟩ : ByteArray).data.toList⟩] = (⟨p, 0, A.data.toList⟩, 0)))
    (hb : Hid (callV [115, 117, 98, 115, 116, 114] 0 [⟨k, n, t.data.toList⟩, ⟨1, (K : Int) + 1, (⟨#[]⟩ : ByteArray).data.toList⟩] = (⟨p, 0, B.data.toList⟩, 0)))
    (hc : Hid (callV [115, 117, 98, 115, 116, 114] 0 [⟨k, n, t.data.toList⟩, ⟨1, 1, (⟨#[]⟩ : ByteArray).data.toList⟩] = (⟨p, 0, C.data.toList⟩, 0)))
    (hABC : Hid (A ++ B = C)) (lA : A.size ≤ 400) (lB : B.size ≤ 400) (lC : C.size ≤ 400)
    (hlen : Hid (callV [108, 101, 110, 103, 116, 104] 0 [⟨k, n, t.data.toList⟩] = (⟨1, (C.size : Int), (⟨#[]⟩ : ByteArray).data.toList⟩, 0)))
    (hin : Hid (callV [105, 110, 115, 116, 114] 0 [⟨k, n, t.data.toList⟩, ⟨p, 0, B.data.toList⟩] = (⟨1, (j : Int) + 1, (⟨#[]⟩ : ByteArray).data.toList⟩, 0))) (hj : j ≤ K)
    (hrep : Hid (callV [114, 101, 112, 108, 97, 99, 101] 0 [⟨k, n, t.data.toList⟩, ⟨p, 0, B.data.toList⟩, ⟨p, 0, B.data.toList⟩] = (⟨2, 0, C.data.toList⟩, 0)))
    (hq : Hid (callV [113, 117, 111, 116, 101] 0 [⟨k, n, t.data.toList⟩] = (⟨kq, 0, q.data.toList⟩, 0)))
    (hrd : Hid (Val.read q.data.toList = (⟨k1, n1, t1.data.toList⟩, E))) (hfin : kq = 0 ∨ kq ≠ 0 ∧ k1 = k ∧ n1 = n ∧ t1 = t ∧ E = 0) :
    Calls Tryz.prog 5 #[.agg #[.int .i64 k, .int .i64 n, .string t], .int .i64 K] w fun e w' => e = .returned (.bool true) ∧ Below w.heap.size w w' := by
  have b0 : decide (k = 0) = false := decide_eq_false h0
  have b1 : decide ((K : Int) < 0) = false := decide_eq_false (by omega)
  have b2 : decide ((K : Int) > 400) = false := decide_eq_false (by omega)
  have n2 : ¬ 400 < K := by omega
  have hA := AgS.new (w := w) (L := []) ⟨fun x hx => absurd hx List.not_mem_nil, Below.refl _ _⟩ k n t
  have hih := Lib.hid hi
  have inrK : Val.inr 1 ∧ Val.inr (K : Int) := ⟨⟨by decide, by decide⟩, by constructor <;> omega⟩
  have inrK2 : Val.inr ((K : Int) + 1) := by constructor <;> omega
  replace inrK := Lib.hid inrK
  replace inrK2 := Lib.hid inrK2
  clear hi
  go_enter Tryz.func5, Tryz.ntmps5
  go_upto_region 5 with (first
    | (go_at_call 12; refine (head18_any _ (hL.alloc _)).mono ?_; rintro e wh ⟨rfl, hbh⟩; have hAh := hA.on hbh; obtain ⟨x0, x1, x2, _, _, _⟩ := (hAh.get List.mem_cons_self).cells)
    | (go_at_call 18; refine (may_is _ _ _ _ hm).mono ?_; rintro e wm ⟨rfl, hbm⟩; have hAm := hAh.on hbm; obtain ⟨y0, y1, y2, _, _, _⟩ := (hAm.get List.mem_cons_self).cells))
  go_upto_region 6 with (go_at_call 19; refine (lcall_any ⟨#[108, 111, 119, 101, 114]⟩ _ 1 1 [⟨k, n, (t : ByteArray).data.toList⟩] _ ((hL.below hAm.2).alloc _) (sz18 5 (by decide)) (vals_new wm k n t) (sz18 1 (by decide)) (Nat.le_refl _) (inr1 hih.out) (2) (0) low 0 hlow).mono ?_; rintro e w5 ⟨rfl, hb5⟩)
  have hA5 : AgS w [(w5.heap.size, ⟨2, 0, (low : ByteArray).data.toList⟩), (w.heap.size, ⟨k, n, (t : ByteArray).data.toList⟩)] _ := ((hAm.alloc _).on hb5).new 2 0 low
  obtain ⟨g5, hg5⟩ : ∃ g, w5.heap.size = g := ⟨_, rfl⟩
  obtain ⟨W6, hW6⟩ : ∃ W, w5.alloc (.cells #[.int .i64 2, .int .i64 0, .string low] 25) = W := ⟨_, rfl⟩
  obtain ⟨g2, hg2⟩ : ∃ g, w.heap.size = g := ⟨_, rfl⟩
  rw [hW6, hg5, hg2] at hA5
  rw [hW6, hg5, hg2]
  clear hg2
  clear hW6 hg5 hb5 hAm hAh hA x0 x1 x2 y0 y1 y2 hbh hbm
  go_cut [60] from 15 to 60 (fun v W => v = .bool false ∧ AgS w [(g5, ⟨2, 0, (low : ByteArray).data.toList⟩), (g2, ⟨k, n, (t : ByteArray).data.toList⟩)] W)
  case first =>
    obtain ⟨Wd, hWd⟩ : ∃ W, (W6).drew = W := ⟨_, rfl⟩
    have hSd : AgS w [(g5, ⟨2, 0, (low : ByteArray).data.toList⟩), (g2, ⟨k, n, (t : ByteArray).data.toList⟩)] Wd := by rw [← hWd]; exact hA5.drew
    refine wp_region_held_drew (S := fun W => AgS w [(g5, ⟨2, 0, (low : ByteArray).data.toList⟩), (g2, ⟨k, n, (t : ByteArray).data.toList⟩)] W) (by kernel_rfl) ?_ (fun hH => ?_)
    · rw [hWd]; exact hSd
    rw [hWd] at hH ⊢
    clear hWd hSd
    refine wpAnyH_take (i := 0) (v := ?_) rfl (by kernel_rfl) (by kernel_rfl) (by kernel_rfl) (fun _ _ _ h => h) (Or.inl ⟨by rfl, ?_⟩) hH ?_
    rotate_left
    · (intro W hSw; (try dsimp only at hSw); obtain ⟨z00, z01, z02, z03, z04, z05⟩ := (AgS.get hSw (g := g5) (k := 2) (n := 0) (t := low) (List.mem_cons_self)).cells; go_simp; try with_reducible rfl)
    try simp only [List.getElem_toArray, List.getElem_cons_zero, List.getElem_cons_succ, Act.put, List.setIfInBounds_toArray, List.set_cons_zero, List.set_cons_succ]
    refine wpAnyH_take (i := 3) (v := ?_) rfl (by kernel_rfl) (by kernel_rfl) (by kernel_rfl) (fun _ _ _ h => h) (Or.inl ⟨by rfl, ?_⟩) hH ?_
    rotate_left
    · (intro W hSw; (try dsimp only at hSw); obtain ⟨z00, z01, z02, z03, z04, z05⟩ := (AgS.get hSw (g := g5) (k := 2) (n := 0) (t := low) (List.mem_cons_self)).cells; go_simp; try with_reducible rfl)
    try simp only [List.getElem_toArray, List.getElem_cons_zero, List.getElem_cons_succ, Act.put, List.setIfInBounds_toArray, List.set_cons_zero, List.set_cons_succ]
    refine wpAnyH_ready (rs := [1]) (by kernel_rfl) (by simp) ?_
    refine AllReadyH.cons rfl (fun KK hK => ?_) AllReadyH.nil
    go_simp
    refine hK.out _ _ ?_ (fun hH21 => ?_)
    · exact hH.alloc _
    clear hK KK
    try simp only [List.getElem_toArray, List.getElem_cons_zero, List.getElem_cons_succ, Act.put, List.setIfInBounds_toArray, List.set_cons_zero, List.set_cons_succ]
    have hV21 := vals_new Wd (2) (0) (low)
    obtain ⟨W21, hW21⟩ : ∃ W, World.alloc Wd (.cells #[.int .i64 2, .int .i64 0, .string low] 25) = W := ⟨_, rfl⟩
    rw [hW21] at hV21 hH21 ⊢
    obtain ⟨s21, hs21⟩ : ∃ g, Wd.heap.size = g := ⟨_, rfl⟩
    rw [hs21] at hV21 ⊢
    clear hW21 hs21
    refine wpAnyH_ready (rs := [2]) (by kernel_rfl) (by simp) ?_
    refine AllReadyH.cons rfl (fun KK hK => ?_) AllReadyH.nil
    go_simp
    go_at_call 19; refine (lcall_any ⟨#[108, 111, 119, 101, 114]⟩ _ 1 1 [⟨2, 0, (low : ByteArray).data.toList⟩] W21 (hL.below hH21.2) (sz18 5 (by decide)) hV21 (sz18 1 (by decide)) (Nat.le_refl _) (inr1 inrz) (2) (0) low 0 hlow2).mono ?_; rintro e W22 ⟨rfl, hb22⟩
    refine hK.out _ _ ?_ (fun hH22 => ?_)
    · exact hH21.on hb22
    clear hK KK
    try simp only [List.getElem_toArray, List.getElem_cons_zero, List.getElem_cons_succ, Act.put, List.setIfInBounds_toArray, List.set_cons_zero, List.set_cons_succ]
    refine wpAnyH_take (i := 4) (v := ?_) rfl (by kernel_rfl) (by kernel_rfl) (by kernel_rfl) (fun _ _ _ h => h) (Or.inl ⟨by rfl, ?_⟩) hH22 ?_
    rotate_left
    · (intro W hSw; (try dsimp only at hSw); go_simp; try with_reducible rfl)
    try simp only [List.getElem_toArray, List.getElem_cons_zero, List.getElem_cons_succ, Act.put, List.setIfInBounds_toArray, List.set_cons_zero, List.set_cons_succ]
    refine wpAnyH_take (i := 5) (v := ?_) rfl (by kernel_rfl) (by kernel_rfl) (by kernel_rfl) (fun _ _ _ h => h) (Or.inl ⟨by rfl, ?_⟩) hH22 ?_
    rotate_left
    · (intro W hSw; (try dsimp only at hSw); go_simp; try with_reducible rfl)
    try simp only [List.getElem_toArray, List.getElem_cons_zero, List.getElem_cons_succ, Act.put, List.setIfInBounds_toArray, List.set_cons_zero, List.set_cons_succ]
    refine wpAnyH_take (i := 6) (v := ?_) rfl (by kernel_rfl) (by kernel_rfl) (by kernel_rfl) (fun _ _ _ h => h) (Or.inl ⟨by rfl, ?_⟩) hH22 ?_
    rotate_left
    · (intro W hSw; (try dsimp only at hSw); obtain ⟨z00, z01, z02, z03, z04, z05⟩ := (AgS.get hSw (g := g2) (k := k) (n := n) (t := t) (List.mem_cons_of_mem _ (List.mem_cons_self))).cells; go_simp; try with_reducible rfl)
    try simp only [List.getElem_toArray, List.getElem_cons_zero, List.getElem_cons_succ, Act.put, List.setIfInBounds_toArray, List.set_cons_zero, List.set_cons_succ]
    refine wpAnyH_take (i := 11) (v := ?_) rfl (by kernel_rfl) (by kernel_rfl) (by kernel_rfl) (fun _ _ _ h => h) (Or.inl ⟨by rfl, ?_⟩) hH22 ?_
    rotate_left
    · (intro W hSw; (try dsimp only at hSw); obtain ⟨z00, z01, z02, z03, z04, z05⟩ := (AgS.get hSw (g := g5) (k := 2) (n := 0) (t := low) (List.mem_cons_self)).cells; go_simp; try with_reducible rfl)
    try simp only [List.getElem_toArray, List.getElem_cons_zero, List.getElem_cons_succ, Act.put, List.setIfInBounds_toArray, List.set_cons_zero, List.set_cons_succ]
    refine wpAnyH_ready (rs := [7]) (by kernel_rfl) (by simp) ?_
    refine AllReadyH.cons rfl (fun KK hK => ?_) AllReadyH.nil
    go_simp
    refine hK.out _ _ ?_ (fun hH23 => ?_)
    · exact hH22.alloc _
    clear hK KK
    try simp only [List.getElem_toArray, List.getElem_cons_zero, List.getElem_cons_succ, Act.put, List.setIfInBounds_toArray, List.set_cons_zero, List.set_cons_succ]
    have hV23 := vals_new W22 (k) (n) (t)
    obtain ⟨W23, hW23⟩ : ∃ W, World.alloc W22 (.cells #[.int .i64 k, .int .i64 n, .string t] 25) = W := ⟨_, rfl⟩
    rw [hW23] at hV23 hH23 ⊢
    obtain ⟨s23, hs23⟩ : ∃ g, W22.heap.size = g := ⟨_, rfl⟩
    rw [hs23] at hV23 ⊢
    clear hW23 hs23
    refine wpAnyH_ready (rs := [8]) (by kernel_rfl) (by simp) ?_
    refine AllReadyH.cons rfl (fun KK hK => ?_) AllReadyH.nil
    go_simp
    go_at_call 19; refine (lcall_any ⟨#[117, 112, 112, 101, 114]⟩ _ 1 1 [⟨k, n, (t : ByteArray).data.toList⟩] W23 (hL.below hH23.2) (sz18 5 (by decide)) hV23 (sz18 1 (by decide)) (Nat.le_refl _) (inr1 hih.out) (2) (0) up 0 hup).mono ?_; rintro e W24 ⟨rfl, hb24⟩
    refine hK.out _ _ ?_ (fun hH24 => ?_)
    · exact hH23.on hb24
    clear hK KK
    try simp only [List.getElem_toArray, List.getElem_cons_zero, List.getElem_cons_succ, Act.put, List.setIfInBounds_toArray, List.set_cons_zero, List.set_cons_succ]
    refine wpAnyH_ready (rs := [9]) (by kernel_rfl) (by simp) ?_
    refine AllReadyH.cons rfl (fun KK hK => ?_) AllReadyH.nil
    go_simp
    refine hK.out _ _ ?_ (fun hH25 => ?_)
    · exact hH24.alloc _
    clear hK KK
    try simp only [List.getElem_toArray, List.getElem_cons_zero, List.getElem_cons_succ, Act.put, List.setIfInBounds_toArray, List.set_cons_zero, List.set_cons_succ]
    have hV25 := vals_new W24 (2) (0) (up)
    obtain ⟨W25, hW25⟩ : ∃ W, World.alloc W24 (.cells #[.int .i64 2, .int .i64 0, .string up] 25) = W := ⟨_, rfl⟩
    rw [hW25] at hV25 hH25 ⊢
    obtain ⟨s25, hs25⟩ : ∃ g, W24.heap.size = g := ⟨_, rfl⟩
    rw [hs25] at hV25 ⊢
    clear hW25 hs25
    refine wpAnyH_ready (rs := [10]) (by kernel_rfl) (by simp) ?_
    refine AllReadyH.cons rfl (fun KK hK => ?_) AllReadyH.nil
    go_simp
    go_at_call 19; refine (lcall_any ⟨#[108, 111, 119, 101, 114]⟩ _ 1 1 [⟨2, 0, (up : ByteArray).data.toList⟩] W25 (hL.below hH25.2) (sz18 5 (by decide)) hV25 (sz18 1 (by decide)) (Nat.le_refl _) (inr1 inrz) (2) (0) low 0 hlu).mono ?_; rintro e W26 ⟨rfl, hb26⟩
    refine hK.out _ _ ?_ (fun hH26 => ?_)
    · exact hH25.on hb26
    clear hK KK
    try simp only [List.getElem_toArray, List.getElem_cons_zero, List.getElem_cons_succ, Act.put, List.setIfInBounds_toArray, List.set_cons_zero, List.set_cons_succ]
    refine wpAnyH_take (i := 12) (v := ?_) rfl (by kernel_rfl) (by kernel_rfl) (by kernel_rfl) (fun _ _ _ h => h) (Or.inl ⟨by rfl, ?_⟩) hH26 ?_
    rotate_left
    · (intro W hSw; (try dsimp only at hSw); go_simp; try with_reducible rfl)
    try simp only [List.getElem_toArray, List.getElem_cons_zero, List.getElem_cons_succ, Act.put, List.setIfInBounds_toArray, List.set_cons_zero, List.set_cons_succ]
    refine wpAnyH_take (i := 13) (v := ?_) rfl (by kernel_rfl) (by kernel_rfl) (by kernel_rfl) (fun _ _ _ h => h) (Or.inl ⟨by rfl, ?_⟩) hH26 ?_
    rotate_left
    · (intro W hSw; (try dsimp only at hSw); go_simp; try with_reducible rfl)
    try simp only [List.getElem_toArray, List.getElem_cons_zero, List.getElem_cons_succ, Act.put, List.setIfInBounds_toArray, List.set_cons_zero, List.set_cons_succ]
    refine wpAnyH_take (i := 14) (v := ?_) rfl (by kernel_rfl) (by kernel_rfl) (by kernel_rfl) (fun _ _ _ h => h) (Or.inl ⟨by rfl, ?_⟩) hH26 ?_
    rotate_left
    · (intro W hSw; (try dsimp only at hSw); go_simp; try with_reducible rfl)
    try simp only [List.getElem_toArray, List.getElem_cons_zero, List.getElem_cons_succ, Act.put, List.setIfInBounds_toArray, List.set_cons_zero, List.set_cons_succ]
    refine wpAnyH_take (i := 15) (v := ?_) rfl (by kernel_rfl) (by kernel_rfl) (by kernel_rfl) (fun _ _ _ h => h) (Or.inl ⟨by rfl, ?_⟩) hH26 ?_
    rotate_left
    · (intro W hSw; (try dsimp only at hSw); obtain ⟨z00, z01, z02, z03, z04, z05⟩ := (AgS.get hSw (g := g2) (k := k) (n := n) (t := t) (List.mem_cons_of_mem _ (List.mem_cons_self))).cells; go_simp; try with_reducible rfl)
    try simp only [List.getElem_toArray, List.getElem_cons_zero, List.getElem_cons_succ, Act.put, List.setIfInBounds_toArray, List.set_cons_zero, List.set_cons_succ]
    refine wpAnyH_take (i := 18) (v := ?_) rfl (by kernel_rfl) (by kernel_rfl) (by kernel_rfl) (fun _ _ _ h => h) (Or.inl ⟨by rfl, ?_⟩) hH26 ?_
    rotate_left
    · (intro W hSw; (try dsimp only at hSw); obtain ⟨z00, z01, z02, z03, z04, z05⟩ := (AgS.get hSw (g := g2) (k := k) (n := n) (t := t) (List.mem_cons_of_mem _ (List.mem_cons_self))).cells; go_simp; try with_reducible rfl)
    try simp only [List.getElem_toArray, List.getElem_cons_zero, List.getElem_cons_succ, Act.put, List.setIfInBounds_toArray, List.set_cons_zero, List.set_cons_succ]
    refine wpAnyH_ready (rs := [16, 19]) (by kernel_rfl) (by simp) ?_
    refine AllReadyH.cons rfl (fun KK hK => ?_) (AllReadyH.cons rfl (fun KK hK => ?_) (AllReadyH.nil))
    · go_simp
      refine hK.out _ _ ?_ (fun hH27 => ?_)
      · exact hH26.alloc _
      clear hK KK
      try simp only [List.getElem_toArray, List.getElem_cons_zero, List.getElem_cons_succ, Act.put, List.setIfInBounds_toArray, List.set_cons_zero, List.set_cons_succ]
      have hV27 := vals_new W26 (k) (n) (t)
      obtain ⟨W27, hW27⟩ : ∃ W, World.alloc W26 (.cells #[.int .i64 k, .int .i64 n, .string t] 25) = W := ⟨_, rfl⟩
      rw [hW27] at hV27 hH27 ⊢
      obtain ⟨s27, hs27⟩ : ∃ g, W26.heap.size = g := ⟨_, rfl⟩
      rw [hs27] at hV27 ⊢
      clear hW27 hs27
      refine wpAnyH_ready (rs := [17, 19]) (by kernel_rfl) (by simp) ?_
      refine AllReadyH.cons rfl (fun KK hK => ?_) (AllReadyH.cons rfl (fun KK hK => ?_) (AllReadyH.nil))
      · go_simp
        go_at_call 19; refine (lcall_any ⟨#[116, 114, 105, 109]⟩ _ 1 1 [⟨k, n, (t : ByteArray).data.toList⟩] W27 (hL.below hH27.2) (sz18 4 (by decide)) hV27 (sz18 1 (by decide)) (Nat.le_refl _) (inr1 hih.out) (2) (0) tr 0 htr).mono ?_; rintro e W28 ⟨rfl, hb28⟩
        refine hK.out _ _ ?_ (fun hH28 => ?_)
        · exact hH27.on hb28
        clear hK KK
        try simp only [List.getElem_toArray, List.getElem_cons_zero, List.getElem_cons_succ, Act.put, List.setIfInBounds_toArray, List.set_cons_zero, List.set_cons_succ]
        refine wpAnyH_ready (rs := [19]) (by kernel_rfl) (by simp) ?_
        refine AllReadyH.cons rfl (fun KK hK => ?_) AllReadyH.nil
        go_simp
        refine hK.out _ _ ?_ (fun hH29 => ?_)
        · exact hH28.alloc _
        clear hK KK
        try simp only [List.getElem_toArray, List.getElem_cons_zero, List.getElem_cons_succ, Act.put, List.setIfInBounds_toArray, List.set_cons_zero, List.set_cons_succ]
        have hV29 := vals_new W28 (k) (n) (t)
        obtain ⟨W29, hW29⟩ : ∃ W, World.alloc W28 (.cells #[.int .i64 k, .int .i64 n, .string t] 25) = W := ⟨_, rfl⟩
        rw [hW29] at hV29 hH29 ⊢
        obtain ⟨s29, hs29⟩ : ∃ g, W28.heap.size = g := ⟨_, rfl⟩
        rw [hs29] at hV29 ⊢
        clear hW29 hs29
        refine wpAnyH_ready (rs := [20]) (by kernel_rfl) (by simp) ?_
        refine AllReadyH.cons rfl (fun KK hK => ?_) AllReadyH.nil
        go_simp
        go_at_call 19; refine (lcall_any ⟨#[114, 116, 114, 105, 109]⟩ _ 1 1 [⟨k, n, (t : ByteArray).data.toList⟩] W29 (hL.below hH29.2) (sz18 5 (by decide)) hV29 (sz18 1 (by decide)) (Nat.le_refl _) (inr1 hih.out) (2) (0) rt 0 hrt).mono ?_; rintro e W30 ⟨rfl, hb30⟩
        refine hK.out _ _ ?_ (fun hH30 => ?_)
        · exact hH29.on hb30
        clear hK KK
        try simp only [List.getElem_toArray, List.getElem_cons_zero, List.getElem_cons_succ, Act.put, List.setIfInBounds_toArray, List.set_cons_zero, List.set_cons_succ]
        refine wpAnyH_ready (rs := [21]) (by kernel_rfl) (by simp) ?_
        refine AllReadyH.cons rfl (fun KK hK => ?_) AllReadyH.nil
        go_simp
        refine hK.out _ _ ?_ (fun hH31 => ?_)
        · exact hH30.alloc _
        clear hK KK
        try simp only [List.getElem_toArray, List.getElem_cons_zero, List.getElem_cons_succ, Act.put, List.setIfInBounds_toArray, List.set_cons_zero, List.set_cons_succ]
        have hV31 := vals_new W30 (2) (0) (rt)
        obtain ⟨W31, hW31⟩ : ∃ W, World.alloc W30 (.cells #[.int .i64 2, .int .i64 0, .string rt] 25) = W := ⟨_, rfl⟩
        rw [hW31] at hV31 hH31 ⊢
        obtain ⟨s31, hs31⟩ : ∃ g, W30.heap.size = g := ⟨_, rfl⟩
        rw [hs31] at hV31 ⊢
        clear hW31 hs31
        refine wpAnyH_ready (rs := [22]) (by kernel_rfl) (by simp) ?_
        refine AllReadyH.cons rfl (fun KK hK => ?_) AllReadyH.nil
        go_simp
        go_at_call 19; refine (lcall_any ⟨#[108, 116, 114, 105, 109]⟩ _ 1 1 [⟨2, 0, (rt : ByteArray).data.toList⟩] W31 (hL.below hH31.2) (sz18 5 (by decide)) hV31 (sz18 1 (by decide)) (Nat.le_refl _) (inr1 inrz) (2) (0) tr 0 hlr).mono ?_; rintro e W32 ⟨rfl, hb32⟩
        refine hK.out _ _ ?_ (fun hH32 => ?_)
        · exact hH31.on hb32
        clear hK KK
        try simp only [List.getElem_toArray, List.getElem_cons_zero, List.getElem_cons_succ, Act.put, List.setIfInBounds_toArray, List.set_cons_zero, List.set_cons_succ]
        refine wpAnyH_take (i := 23) (v := ?_) rfl (by kernel_rfl) (by kernel_rfl) (by kernel_rfl) (fun _ _ _ h => h) (Or.inl ⟨by rfl, ?_⟩) hH32 ?_
        rotate_left
        · (intro W hSw; (try dsimp only at hSw); go_simp; try with_reducible rfl)
        try simp only [List.getElem_toArray, List.getElem_cons_zero, List.getElem_cons_succ, Act.put, List.setIfInBounds_toArray, List.set_cons_zero, List.set_cons_succ]
        refine wpAnyH_take (i := 24) (v := ?_) rfl (by kernel_rfl) (by kernel_rfl) (by kernel_rfl) (fun _ _ _ h => h) (Or.inl ⟨by rfl, ?_⟩) hH32 ?_
        rotate_left
        · (intro W hSw; (try dsimp only at hSw); go_simp; try with_reducible rfl)
        try simp only [List.getElem_toArray, List.getElem_cons_zero, List.getElem_cons_succ, Act.put, List.setIfInBounds_toArray, List.set_cons_zero, List.set_cons_succ]
        refine wpAnyH_done (by kernel_rfl) ?_ _
        go_wp2_with fail
        go_meet
        exact ⟨rfl, hH32⟩
      · go_simp
        refine hK.out _ _ ?_ (fun hH33 => ?_)
        · exact hH27.alloc _
        clear hK KK
        try simp only [List.getElem_toArray, List.getElem_cons_zero, List.getElem_cons_succ, Act.put, List.setIfInBounds_toArray, List.set_cons_zero, List.set_cons_succ]
        have hV33 := vals_new W27 (k) (n) (t)
        have hX3316 := hV27.below (below_new W27 (.cells #[.int .i64 k, .int .i64 n, .string t] 25))
        obtain ⟨W33, hW33⟩ : ∃ W, World.alloc W27 (.cells #[.int .i64 k, .int .i64 n, .string t] 25) = W := ⟨_, rfl⟩
        rw [hW33] at hV33 hH33 hX3316 ⊢
        obtain ⟨s33, hs33⟩ : ∃ g, W27.heap.size = g := ⟨_, rfl⟩
        rw [hs33] at hV33 ⊢
        clear hW33 hs33
        refine wpAnyH_ready (rs := [17]) (by kernel_rfl) (by simp) ?_
        refine AllReadyH.cons rfl (fun KK hK => ?_) AllReadyH.nil
        go_simp
        go_at_call 19; refine (lcall_any ⟨#[116, 114, 105, 109]⟩ _ 1 1 [⟨k, n, (t : ByteArray).data.toList⟩] W33 (hL.below hH33.2) (sz18 4 (by decide)) hX3316 (sz18 1 (by decide)) (Nat.le_refl _) (inr1 hih.out) (2) (0) tr 0 htr).mono ?_; rintro e W34 ⟨rfl, hb34⟩
        refine hK.out _ _ ?_ (fun hH34 => ?_)
        · exact hH33.on hb34
        clear hK KK
        try simp only [List.getElem_toArray, List.getElem_cons_zero, List.getElem_cons_succ, Act.put, List.setIfInBounds_toArray, List.set_cons_zero, List.set_cons_succ]
        have hX3419 := hV33.below hb34
        refine wpAnyH_ready (rs := [20]) (by kernel_rfl) (by simp) ?_
        refine AllReadyH.cons rfl (fun KK hK => ?_) AllReadyH.nil
        go_simp
        go_at_call 19; refine (lcall_any ⟨#[114, 116, 114, 105, 109]⟩ _ 1 1 [⟨k, n, (t : ByteArray).data.toList⟩] W34 (hL.below hH34.2) (sz18 5 (by decide)) hX3419 (sz18 1 (by decide)) (Nat.le_refl _) (inr1 hih.out) (2) (0) rt 0 hrt).mono ?_; rintro e W35 ⟨rfl, hb35⟩
        refine hK.out _ _ ?_ (fun hH35 => ?_)
        · exact hH34.on hb35
        clear hK KK
        try simp only [List.getElem_toArray, List.getElem_cons_zero, List.getElem_cons_succ, Act.put, List.setIfInBounds_toArray, List.set_cons_zero, List.set_cons_succ]
        refine wpAnyH_ready (rs := [21]) (by kernel_rfl) (by simp) ?_
        refine AllReadyH.cons rfl (fun KK hK => ?_) AllReadyH.nil
        go_simp
        refine hK.out _ _ ?_ (fun hH36 => ?_)
        · exact hH35.alloc _
        clear hK KK
        try simp only [List.getElem_toArray, List.getElem_cons_zero, List.getElem_cons_succ, Act.put, List.setIfInBounds_toArray, List.set_cons_zero, List.set_cons_succ]
        have hV36 := vals_new W35 (2) (0) (rt)
        obtain ⟨W36, hW36⟩ : ∃ W, World.alloc W35 (.cells #[.int .i64 2, .int .i64 0, .string rt] 25) = W := ⟨_, rfl⟩
        rw [hW36] at hV36 hH36 ⊢
        obtain ⟨s36, hs36⟩ : ∃ g, W35.heap.size = g := ⟨_, rfl⟩
        rw [hs36] at hV36 ⊢
        clear hW36 hs36
        refine wpAnyH_ready (rs := [22]) (by kernel_rfl) (by simp) ?_
        refine AllReadyH.cons rfl (fun KK hK => ?_) AllReadyH.nil
        go_simp
        go_at_call 19; refine (lcall_any ⟨#[108, 116, 114, 105, 109]⟩ _ 1 1 [⟨2, 0, (rt : ByteArray).data.toList⟩] W36 (hL.below hH36.2) (sz18 5 (by decide)) hV36 (sz18 1 (by decide)) (Nat.le_refl _) (inr1 inrz) (2) (0) tr 0 hlr).mono ?_; rintro e W37 ⟨rfl, hb37⟩
        refine hK.out _ _ ?_ (fun hH37 => ?_)
        · exact hH36.on hb37
        clear hK KK
        try simp only [List.getElem_toArray, List.getElem_cons_zero, List.getElem_cons_succ, Act.put, List.setIfInBounds_toArray, List.set_cons_zero, List.set_cons_succ]
        refine wpAnyH_take (i := 23) (v := ?_) rfl (by kernel_rfl) (by kernel_rfl) (by kernel_rfl) (fun _ _ _ h => h) (Or.inl ⟨by rfl, ?_⟩) hH37 ?_
        rotate_left
        · (intro W hSw; (try dsimp only at hSw); go_simp; try with_reducible rfl)
        try simp only [List.getElem_toArray, List.getElem_cons_zero, List.getElem_cons_succ, Act.put, List.setIfInBounds_toArray, List.set_cons_zero, List.set_cons_succ]
        refine wpAnyH_take (i := 24) (v := ?_) rfl (by kernel_rfl) (by kernel_rfl) (by kernel_rfl) (fun _ _ _ h => h) (Or.inl ⟨by rfl, ?_⟩) hH37 ?_
        rotate_left
        · (intro W hSw; (try dsimp only at hSw); go_simp; try with_reducible rfl)
        try simp only [List.getElem_toArray, List.getElem_cons_zero, List.getElem_cons_succ, Act.put, List.setIfInBounds_toArray, List.set_cons_zero, List.set_cons_succ]
        refine wpAnyH_done (by kernel_rfl) ?_ _
        go_wp2_with fail
        go_meet
        exact ⟨rfl, hH37⟩
    · go_simp
      refine hK.out _ _ ?_ (fun hH38 => ?_)
      · exact hH26.alloc _
      clear hK KK
      try simp only [List.getElem_toArray, List.getElem_cons_zero, List.getElem_cons_succ, Act.put, List.setIfInBounds_toArray, List.set_cons_zero, List.set_cons_succ]
      have hV38 := vals_new W26 (k) (n) (t)
      obtain ⟨W38, hW38⟩ : ∃ W, World.alloc W26 (.cells #[.int .i64 k, .int .i64 n, .string t] 25) = W := ⟨_, rfl⟩
      rw [hW38] at hV38 hH38 ⊢
      obtain ⟨s38, hs38⟩ : ∃ g, W26.heap.size = g := ⟨_, rfl⟩
      rw [hs38] at hV38 ⊢
      clear hW38 hs38
      refine wpAnyH_ready (rs := [16]) (by kernel_rfl) (by simp) ?_
      refine AllReadyH.cons rfl (fun KK hK => ?_) AllReadyH.nil
      go_simp
      refine hK.out _ _ ?_ (fun hH39 => ?_)
      · exact hH38.alloc _
      clear hK KK
      try simp only [List.getElem_toArray, List.getElem_cons_zero, List.getElem_cons_succ, Act.put, List.setIfInBounds_toArray, List.set_cons_zero, List.set_cons_succ]
      have hV39 := vals_new W38 (k) (n) (t)
      have hX3919 := hV38.below (below_new W38 (.cells #[.int .i64 k, .int .i64 n, .string t] 25))
      obtain ⟨W39, hW39⟩ : ∃ W, World.alloc W38 (.cells #[.int .i64 k, .int .i64 n, .string t] 25) = W := ⟨_, rfl⟩
      rw [hW39] at hV39 hH39 hX3919 ⊢
      obtain ⟨s39, hs39⟩ : ∃ g, W38.heap.size = g := ⟨_, rfl⟩
      rw [hs39] at hV39 ⊢
      clear hW39 hs39
      refine wpAnyH_ready (rs := [17]) (by kernel_rfl) (by simp) ?_
      refine AllReadyH.cons rfl (fun KK hK => ?_) AllReadyH.nil
      go_simp
      go_at_call 19; refine (lcall_any ⟨#[116, 114, 105, 109]⟩ _ 1 1 [⟨k, n, (t : ByteArray).data.toList⟩] W39 (hL.below hH39.2) (sz18 4 (by decide)) hV39 (sz18 1 (by decide)) (Nat.le_refl _) (inr1 hih.out) (2) (0) tr 0 htr).mono ?_; rintro e W40 ⟨rfl, hb40⟩
      refine hK.out _ _ ?_ (fun hH40 => ?_)
      · exact hH39.on hb40
      clear hK KK
      try simp only [List.getElem_toArray, List.getElem_cons_zero, List.getElem_cons_succ, Act.put, List.setIfInBounds_toArray, List.set_cons_zero, List.set_cons_succ]
      have hX4019 := hX3919.below hb40
      refine wpAnyH_ready (rs := [20]) (by kernel_rfl) (by simp) ?_
      refine AllReadyH.cons rfl (fun KK hK => ?_) AllReadyH.nil
      go_simp
      go_at_call 19; refine (lcall_any ⟨#[114, 116, 114, 105, 109]⟩ _ 1 1 [⟨k, n, (t : ByteArray).data.toList⟩] W40 (hL.below hH40.2) (sz18 5 (by decide)) hX4019 (sz18 1 (by decide)) (Nat.le_refl _) (inr1 hih.out) (2) (0) rt 0 hrt).mono ?_; rintro e W41 ⟨rfl, hb41⟩
      refine hK.out _ _ ?_ (fun hH41 => ?_)
      · exact hH40.on hb41
      clear hK KK
      try simp only [List.getElem_toArray, List.getElem_cons_zero, List.getElem_cons_succ, Act.put, List.setIfInBounds_toArray, List.set_cons_zero, List.set_cons_succ]
      refine wpAnyH_ready (rs := [21]) (by kernel_rfl) (by simp) ?_
      refine AllReadyH.cons rfl (fun KK hK => ?_) AllReadyH.nil
      go_simp
      refine hK.out _ _ ?_ (fun hH42 => ?_)
      · exact hH41.alloc _
      clear hK KK
      try simp only [List.getElem_toArray, List.getElem_cons_zero, List.getElem_cons_succ, Act.put, List.setIfInBounds_toArray, List.set_cons_zero, List.set_cons_succ]
      have hV42 := vals_new W41 (2) (0) (rt)
      obtain ⟨W42, hW42⟩ : ∃ W, World.alloc W41 (.cells #[.int .i64 2, .int .i64 0, .string rt] 25) = W := ⟨_, rfl⟩
      rw [hW42] at hV42 hH42 ⊢
      obtain ⟨s42, hs42⟩ : ∃ g, W41.heap.size = g := ⟨_, rfl⟩
      rw [hs42] at hV42 ⊢
      clear hW42 hs42
      refine wpAnyH_ready (rs := [22]) (by kernel_rfl) (by simp) ?_
      refine AllReadyH.cons rfl (fun KK hK => ?_) AllReadyH.nil
      go_simp
      go_at_call 19; refine (lcall_any ⟨#[108, 116, 114, 105, 109]⟩ _ 1 1 [⟨2, 0, (rt : ByteArray).data.toList⟩] W42 (hL.below hH42.2) (sz18 5 (by decide)) hV42 (sz18 1 (by decide)) (Nat.le_refl _) (inr1 inrz) (2) (0) tr 0 hlr).mono ?_; rintro e W43 ⟨rfl, hb43⟩
      refine hK.out _ _ ?_ (fun hH43 => ?_)
      · exact hH42.on hb43
      clear hK KK
      try simp only [List.getElem_toArray, List.getElem_cons_zero, List.getElem_cons_succ, Act.put, List.setIfInBounds_toArray, List.set_cons_zero, List.set_cons_succ]
      refine wpAnyH_take (i := 23) (v := ?_) rfl (by kernel_rfl) (by kernel_rfl) (by kernel_rfl) (fun _ _ _ h => h) (Or.inl ⟨by rfl, ?_⟩) hH43 ?_
      rotate_left
      · (intro W hSw; (try dsimp only at hSw); go_simp; try with_reducible rfl)
      try simp only [List.getElem_toArray, List.getElem_cons_zero, List.getElem_cons_succ, Act.put, List.setIfInBounds_toArray, List.set_cons_zero, List.set_cons_succ]
      refine wpAnyH_take (i := 24) (v := ?_) rfl (by kernel_rfl) (by kernel_rfl) (by kernel_rfl) (fun _ _ _ h => h) (Or.inl ⟨by rfl, ?_⟩) hH43 ?_
      rotate_left
      · (intro W hSw; (try dsimp only at hSw); go_simp; try with_reducible rfl)
      try simp only [List.getElem_toArray, List.getElem_cons_zero, List.getElem_cons_succ, Act.put, List.setIfInBounds_toArray, List.set_cons_zero, List.set_cons_succ]
      refine wpAnyH_done (by kernel_rfl) ?_ _
      go_wp2_with fail
      go_meet
      exact ⟨rfl, hH43⟩
  case rest =>
  obtain ⟨rfl, hA6⟩ := hcut
  clear hA5 hlow hlow2 hup hlu htr hrt hlr
  have hA6t : AgS w [(g2, ⟨k, n, (t : ByteArray).data.toList⟩)] wc := hA6.tail
  go_upto_region 9 with (go_at_call 20; first | (have htk := hAi; refine (rint_any _ _).mono ?_; rintro e wj ⟨rfl, hbj⟩; have hAj := hAi.on hbj) | (refine (rint_any _ _).mono ?_; rintro e wi ⟨rfl, hbi⟩; have hAi := hA6t.on hbi))
  have hA9 := (hAj.new 1 (K : Int) ⟨#[]⟩).new 1 1 ⟨#[]⟩
  rw [World.size_alloc] at hA9
  obtain ⟨g6, hg6⟩ : ∃ g, wj.heap.size = g := ⟨_, rfl⟩
  rw [hg6] at hA9 ⊢
  obtain ⟨g7, hg7⟩ : ∃ g, g6 + 1 = g := ⟨_, rfl⟩
  rw [hg7] at hA9 ⊢
  obtain ⟨W9, hW9⟩ : ∃ W, (wj.alloc (.cells #[.int .i64 1, .int .i64 (K : Int), .string ⟨#[]⟩] 25)).alloc (.cells #[.int .i64 1, .int .i64 1, .string ⟨#[]⟩] 25) = W := ⟨_, rfl⟩
  rw [hW9] at hA9 ⊢
  clear hW9 hg6 hg7 hAj hAi hA6 hA6t hbi hbj
  go_cut [8, 9, 10] from 61 to 78 (fun v8 v9 v10 W => ∃ g8 g9 g10, v8 = .pointer (some ⟨g8, 0, none⟩) ∧ v9 = .pointer (some ⟨g9, 0, none⟩) ∧ v10 = .pointer (some ⟨g10, 0, none⟩) ∧ AgS w [(g10, ⟨p, 0, (C : ByteArray).data.toList⟩), (g9, ⟨p, 0, (B : ByteArray).data.toList⟩), (g8, ⟨p, 0, (A : ByteArray).data.toList⟩), (g7, ⟨1, 1, (⟨#[]⟩ : ByteArray).data.toList⟩), (g6, ⟨1, (K : Int), (⟨#[]⟩ : ByteArray).data.toList⟩), (g2, ⟨k, n, (t : ByteArray).data.toList⟩)] W)
  case first =>
    have q1 : IntKind.i64.wrap ((K : Int) + 1) = (K : Int) + 1 := IntWalk.i64_in _ (by omega)
    have q2 : wrap64 ((K : Int) + 1) = (K : Int) + 1 := by unfold wrap64; omega
    obtain ⟨Wd, hWd⟩ : ∃ W, (W9).drew = W := ⟨_, rfl⟩
    have hSd : AgS w [(g7, ⟨1, 1, (⟨#[]⟩ : ByteArray).data.toList⟩), (g6, ⟨1, (K : Int), (⟨#[]⟩ : ByteArray).data.toList⟩), (g2, ⟨k, n, (t : ByteArray).data.toList⟩)] Wd := by rw [← hWd]; exact hA9.drew
    refine wp_region_held_drew (S := fun W => AgS w [(g7, ⟨1, 1, (⟨#[]⟩ : ByteArray).data.toList⟩), (g6, ⟨1, (K : Int), (⟨#[]⟩ : ByteArray).data.toList⟩), (g2, ⟨k, n, (t : ByteArray).data.toList⟩)] W) (by kernel_rfl) ?_ (fun hH => ?_)
    · rw [hWd]; exact hSd
    rw [hWd] at hH ⊢
    clear hWd hSd
    refine wpAnyH_take (i := 0) (v := ?_) rfl (by kernel_rfl) (by kernel_rfl) (by kernel_rfl) (fun _ _ _ h => h) (Or.inl ⟨by rfl, ?_⟩) hH ?_
    rotate_left
    · (intro W hSw; (try dsimp only at hSw); obtain ⟨z00, z01, z02, z03, z04, z05⟩ := (AgS.get hSw (g := g2) (k := k) (n := n) (t := t) (List.mem_cons_of_mem _ (List.mem_cons_of_mem _ (List.mem_cons_self)))).cells; go_simp; try with_reducible rfl)
    try simp only [List.getElem_toArray, List.getElem_cons_zero, List.getElem_cons_succ, Act.put, List.setIfInBounds_toArray, List.set_cons_zero, List.set_cons_succ]
    refine wpAnyH_take (i := 1) (v := ?_) rfl (by kernel_rfl) (by kernel_rfl) (by kernel_rfl) (fun _ _ _ h => h) (Or.inl ⟨by rfl, ?_⟩) hH ?_
    rotate_left
    · (intro W hSw; (try dsimp only at hSw); obtain ⟨z00, z01, z02, z03, z04, z05⟩ := (AgS.get hSw (g := g7) (k := 1) (n := 1) (t := ⟨#[]⟩) (List.mem_cons_self)).cells; go_simp; try with_reducible rfl)
    try simp only [List.getElem_toArray, List.getElem_cons_zero, List.getElem_cons_succ, Act.put, List.setIfInBounds_toArray, List.set_cons_zero, List.set_cons_succ]
    refine wpAnyH_take (i := 2) (v := ?_) rfl (by kernel_rfl) (by kernel_rfl) (by kernel_rfl) (fun _ _ _ h => h) (Or.inl ⟨by rfl, ?_⟩) hH ?_
    rotate_left
    · (intro W hSw; (try dsimp only at hSw); obtain ⟨z00, z01, z02, z03, z04, z05⟩ := (AgS.get hSw (g := g6) (k := 1) (n := (K : Int)) (t := ⟨#[]⟩) (List.mem_cons_of_mem _ (List.mem_cons_self))).cells; go_simp; try with_reducible rfl)
    try simp only [List.getElem_toArray, List.getElem_cons_zero, List.getElem_cons_succ, Act.put, List.setIfInBounds_toArray, List.set_cons_zero, List.set_cons_succ]
    refine wpAnyH_take (i := 5) (v := ?_) rfl (by kernel_rfl) (by kernel_rfl) (by kernel_rfl) (fun _ _ _ h => h) (Or.inl ⟨by rfl, ?_⟩) hH ?_
    rotate_left
    · (intro W hSw; (try dsimp only at hSw); obtain ⟨z00, z01, z02, z03, z04, z05⟩ := (AgS.get hSw (g := g2) (k := k) (n := n) (t := t) (List.mem_cons_of_mem _ (List.mem_cons_of_mem _ (List.mem_cons_self)))).cells; go_simp; try with_reducible rfl)
    try simp only [List.getElem_toArray, List.getElem_cons_zero, List.getElem_cons_succ, Act.put, List.setIfInBounds_toArray, List.set_cons_zero, List.set_cons_succ]
    refine wpAnyH_take (i := 6) (v := ?_) rfl (by kernel_rfl) (by kernel_rfl) (by kernel_rfl) (fun _ _ _ h => h) (Or.inl ⟨by rfl, ?_⟩) hH ?_
    rotate_left
    · (intro W hSw; (try dsimp only at hSw); go_simp; try with_reducible rfl)
    try simp only [List.getElem_toArray, List.getElem_cons_zero, List.getElem_cons_succ, Act.put, List.setIfInBounds_toArray, List.set_cons_zero, List.set_cons_succ]
    refine wpAnyH_take (i := 7) (v := ?_) rfl (by kernel_rfl) (by kernel_rfl) (by kernel_rfl) (fun _ _ _ h => h) (Or.inl ⟨by rfl, ?_⟩) hH ?_
    rotate_left
    · (intro W hSw; (try dsimp only at hSw); go_simp; try with_reducible rfl)
    try simp only [List.getElem_toArray, List.getElem_cons_zero, List.getElem_cons_succ, Act.put, List.setIfInBounds_toArray, List.set_cons_zero, List.set_cons_succ]
    refine wpAnyH_take (i := 11) (v := ?_) rfl (by kernel_rfl) (by kernel_rfl) (by kernel_rfl) (fun _ _ _ h => h) (Or.inl ⟨by rfl, ?_⟩) hH ?_
    rotate_left
    · (intro W hSw; (try dsimp only at hSw); obtain ⟨z00, z01, z02, z03, z04, z05⟩ := (AgS.get hSw (g := g2) (k := k) (n := n) (t := t) (List.mem_cons_of_mem _ (List.mem_cons_of_mem _ (List.mem_cons_self)))).cells; go_simp; try with_reducible rfl)
    try simp only [List.getElem_toArray, List.getElem_cons_zero, List.getElem_cons_succ, Act.put, List.setIfInBounds_toArray, List.set_cons_zero, List.set_cons_succ]
    refine wpAnyH_take (i := 12) (v := ?_) rfl (by kernel_rfl) (by kernel_rfl) (by kernel_rfl) (fun _ _ _ h => h) (Or.inl ⟨by rfl, ?_⟩) hH ?_
    rotate_left
    · (intro W hSw; (try dsimp only at hSw); obtain ⟨z00, z01, z02, z03, z04, z05⟩ := (AgS.get hSw (g := g7) (k := 1) (n := 1) (t := ⟨#[]⟩) (List.mem_cons_self)).cells; go_simp; try with_reducible rfl)
    try simp only [List.getElem_toArray, List.getElem_cons_zero, List.getElem_cons_succ, Act.put, List.setIfInBounds_toArray, List.set_cons_zero, List.set_cons_succ]
    clear q1 q2
    obtain ⟨ws, hws⟩ : ∃ s, Wd.heap.size = s := ⟨_, rfl⟩
    have l2 : g2 < ws := hws ▸ hH.lt (List.mem_cons_of_mem _ (List.mem_cons_of_mem _ (List.mem_cons_self)))
    have l6 : g6 < ws := hws ▸ hH.lt (List.mem_cons_of_mem _ (List.mem_cons_self))
    have l7 : g7 < ws := hws ▸ hH.lt (List.mem_cons_self)
    have lw : w.heap.size ≤ ws := hws ▸ hH.2.size
    replace hws := Lib.hid hws
    refine wpAnyH_phase0 (I9 w [(g7, ⟨1, 1, (⟨#[]⟩ : ByteArray).data.toList⟩), (g6, ⟨1, (K : Int), (⟨#[]⟩ : ByteArray).data.toList⟩), (g2, ⟨k, n, (t : ByteArray).data.toList⟩)] ws [⟨k, n, (t : ByteArray).data.toList⟩, ⟨1, 1, (⟨#[]⟩ : ByteArray).data.toList⟩, ⟨1, (K : Int), (⟨#[]⟩ : ByteArray).data.toList⟩] [⟨k, n, (t : ByteArray).data.toList⟩, ⟨1, (K : Int) + 1, (⟨#[]⟩ : ByteArray).data.toList⟩] [⟨k, n, (t : ByteArray).data.toList⟩, ⟨1, 1, (⟨#[]⟩ : ByteArray).data.toList⟩] (.agg #[.int .i64 p, .int .i64 (0), .string A]) (.agg #[.int .i64 p, .int .i64 (0), .string B]) (.agg #[.int .i64 p, .int .i64 (0), .string C]) (.agg #[.int .i64 1, .int .i64 ((K : Int) + 1), .string ⟨#[]⟩])) #[true, true, true, true, true, true, true, true, true, true, true, true, true, true, true, true, true, true, false, false, false] (by rfl) ?_ ?_ ?_ ?_
    · rintro listed a W i ⟨b3, b4, b8, b9, b10, b13, b14, b15, b16, b17, x67, x68, x72, x73, x74, x77, x78, x8, x9, x10, rfl, rfl, hR⟩ hi hdep hne
      have hi21 : i < 21 := getD_lt hi
      obtain ⟨⟨hS0, hS1⟩, ⟨e0, e1, e2, e3, e4, e5⟩, ⟨f0, f1, f2, f3, f4, f5, f6, f7, f8, f9⟩, ⟨ne0, ne1, ne2⟩⟩ := id hR
      have hc : i = 0 ∨ i = 1 ∨ i = 2 ∨ i = 3 ∨ i = 4 ∨ i = 5 ∨ i = 6 ∨ i = 7 ∨ i = 8 ∨ i = 9 ∨ i = 10 ∨ i = 11 ∨ i = 12 ∨ i = 13 ∨ i = 14 ∨ i = 15 ∨ i = 16 ∨ i = 17 ∨ i = 18 ∨ i = 19 ∨ i = 20 := by omega
      rcases hc with rfl | rfl | rfl | rfl | rfl | rfl | rfl | rfl | rfl | rfl | rfl | rfl | rfl | rfl | rfl | rfl | rfl | rfl | rfl | rfl | rfl
      · exact absurd (show true = false from hi) (by decide)
      · exact absurd (show true = false from hi) (by decide)
      · exact absurd (show true = false from hi) (by decide)
      · obtain rfl : b3 = false := hi
        have hRh := Lib.hid hR
        clear hR f0 f1 f2 f3 f4 f5 f6 f7 f8 f9 ne0 ne1 ne2 e0 e1 e2 e3 e4 e5
        refine step_of rfl (fun KK hK => ?_)
        try simp only [Act.put, List.setIfInBounds_toArray, List.set_cons_zero, List.set_cons_succ]
        go_simp
        refine hK.out _ _ ⟨hS0.alloc _, ?_⟩
        exact ⟨true, b4, b8, b9, b10, b13, b14, b15, b16, b17, (.slice (some ⟨W.heap.size, 0, none⟩) 3 3), x68, x72, x73, x74, x77, x78, x8, x9, x10, rfl, (by simp only [Act.put, List.setIfInBounds_toArray, List.set_cons_zero, List.set_cons_succ]; first | done | rfl), R9.s3 hRh.out (below_new _ _) ⟨_, rfl, vals_new3 W (k) (n) (t) (1) (1) (⟨#[]⟩) (1) ((K : Int)) (⟨#[]⟩)⟩⟩
      · obtain rfl : b4 = false := hi
        obtain rfl : b3 = true := hdep _ rfl ⟨3, .data⟩ (by simp) rfl
        obtain ⟨g, rfl, hV⟩ := f0 rfl
        have hRh := Lib.hid hR
        clear hR f0 f1 f2 f3 f4 f5 f6 f7 f8 f9 ne0 ne1 ne2 e0 e1 e2 e3 e4 e5
        refine step_of rfl (fun KK hK => ?_)
        try simp only [Act.put, List.setIfInBounds_toArray, List.set_cons_zero, List.set_cons_succ]
        go_simp
        go_at_call 19; refine (lcall_any ⟨#[115, 117, 98, 115, 116, 114]⟩ _ 3 3 [⟨k, n, (t : ByteArray).data.toList⟩, ⟨1, 1, (⟨#[]⟩ : ByteArray).data.toList⟩, ⟨1, (K : Int), (⟨#[]⟩ : ByteArray).data.toList⟩] W (hL.below hS0.2) (sz18 6 (by decide)) hV (sz18 3 (by decide)) (Nat.le_refl _) (inr3 hih.out inrK.out.1 inrK.out.2) (p) (0) A 0 ha).mono ?_; rintro e W' ⟨rfl, hbW⟩
        refine hK.out _ _ ⟨hS0.on hbW, ?_⟩
        exact ⟨true, true, b8, b9, b10, b13, b14, b15, b16, b17, (.slice (some ⟨g, 0, none⟩) 3 3), (.agg #[.int .i64 p, .int .i64 (0), .string A]), x72, x73, x74, x77, x78, x8, x9, x10, rfl, (by simp only [Act.put, List.setIfInBounds_toArray, List.set_cons_zero, List.set_cons_succ]; first | done | rfl), R9.s4 hRh.out hbW⟩
      · exact absurd (show true = false from hi) (by decide)
      · exact absurd (show true = false from hi) (by decide)
      · exact absurd (show true = false from hi) (by decide)
      · obtain rfl : b8 = false := hi
        obtain rfl : b4 = true := hdep _ rfl ⟨4, .chain⟩ (by simp) rfl
        have hRh := Lib.hid hR
        clear hR f0 f1 f2 f3 f4 f5 f6 f7 f8 f9 ne0 ne1 ne2 e0 e1 e2 e3 e4 e5
        refine step_of rfl (fun KK hK => ?_)
        try simp only [Act.put, List.setIfInBounds_toArray, List.set_cons_zero, List.set_cons_succ]
        go_simp
        go_at_call 20; refine (rint_any _ _).mono ?_; rintro e W' ⟨rfl, hbW⟩
        refine hK.out _ _ ⟨hS0.on hbW, ?_⟩
        exact ⟨b3, true, true, b9, b10, b13, b14, b15, b16, b17, x67, x68, (.agg #[.int .i64 1, .int .i64 ((K : Int) + 1), .string ⟨#[]⟩]), x73, x74, x77, x78, x8, x9, x10, rfl, (by simp only [Act.put, List.setIfInBounds_toArray, List.set_cons_zero, List.set_cons_succ]; first | done | rfl), R9.s8 hRh.out hbW⟩
      · obtain rfl : b9 = false := hi
        obtain rfl : b8 = true := hdep _ rfl ⟨8, .data⟩ (by simp) rfl
        obtain rfl := f2 rfl
        have hRh := Lib.hid hR
        clear hR f0 f1 f2 f3 f4 f5 f6 f7 f8 f9 ne0 ne1 ne2 e0 e1 e2 e3 e4 e5
        refine step_of rfl (fun KK hK => ?_)
        try simp only [Act.put, List.setIfInBounds_toArray, List.set_cons_zero, List.set_cons_succ]
        go_simp
        refine hK.out _ _ ⟨hS0.alloc _, ?_⟩
        exact ⟨b3, b4, true, true, b10, b13, b14, b15, b16, b17, x67, x68, (.agg #[.int .i64 1, .int .i64 ((K : Int) + 1), .string ⟨#[]⟩]), (.slice (some ⟨W.heap.size, 0, none⟩) 2 2), x74, x77, x78, x8, x9, x10, rfl, (by simp only [Act.put, List.setIfInBounds_toArray, List.set_cons_zero, List.set_cons_succ]; first | done | rfl), R9.s9 hRh.out (below_new _ _) ⟨_, rfl, vals_new2 W (k) (n) (t) (1) ((K : Int) + 1) (⟨#[]⟩)⟩⟩
      · obtain rfl : b10 = false := hi
        obtain rfl : b9 = true := hdep _ rfl ⟨9, .data⟩ (by simp) rfl
        obtain ⟨g, rfl, hV⟩ := f3 rfl
        have hRh := Lib.hid hR
        clear hR f0 f1 f2 f3 f4 f5 f6 f7 f8 f9 ne0 ne1 ne2 e0 e1 e2 e3 e4 e5
        refine step_of rfl (fun KK hK => ?_)
        try simp only [Act.put, List.setIfInBounds_toArray, List.set_cons_zero, List.set_cons_succ]
        go_simp
        go_at_call 19; refine (lcall_any ⟨#[115, 117, 98, 115, 116, 114]⟩ _ 2 2 [⟨k, n, (t : ByteArray).data.toList⟩, ⟨1, (K : Int) + 1, (⟨#[]⟩ : ByteArray).data.toList⟩] W (hL.below hS0.2) (sz18 6 (by decide)) hV (sz18 2 (by decide)) (Nat.le_refl _) (inr2 hih.out inrK2.out) (p) (0) B 0 hb).mono ?_; rintro e W' ⟨rfl, hbW⟩
        refine hK.out _ _ ⟨hS0.on hbW, ?_⟩
        exact ⟨b3, b4, b8, true, true, b13, b14, b15, b16, b17, x67, x68, x72, (.slice (some ⟨g, 0, none⟩) 2 2), (.agg #[.int .i64 p, .int .i64 (0), .string B]), x77, x78, x8, x9, x10, rfl, (by simp only [Act.put, List.setIfInBounds_toArray, List.set_cons_zero, List.set_cons_succ]; first | done | rfl), R9.s10 hRh.out hbW⟩
      · exact absurd (show true = false from hi) (by decide)
      · exact absurd (show true = false from hi) (by decide)
      · obtain rfl : b13 = false := hi
        have hRh := Lib.hid hR
        clear hR f0 f1 f2 f3 f4 f5 f6 f7 f8 f9 ne0 ne1 ne2 e0 e1 e2 e3 e4 e5
        refine step_of rfl (fun KK hK => ?_)
        try simp only [Act.put, List.setIfInBounds_toArray, List.set_cons_zero, List.set_cons_succ]
        go_simp
        refine hK.out _ _ ⟨hS0.alloc _, ?_⟩
        exact ⟨b3, b4, b8, b9, b10, true, b14, b15, b16, b17, x67, x68, x72, x73, x74, (.slice (some ⟨W.heap.size, 0, none⟩) 2 2), x78, x8, x9, x10, rfl, (by simp only [Act.put, List.setIfInBounds_toArray, List.set_cons_zero, List.set_cons_succ]; first | done | rfl), R9.s13 hRh.out (below_new _ _) ⟨_, rfl, vals_new2 W (k) (n) (t) (1) (1) (⟨#[]⟩)⟩⟩
      · obtain rfl : b14 = false := hi
        obtain rfl : b13 = true := hdep _ rfl ⟨13, .data⟩ (by simp) rfl
        obtain rfl : b10 = true := hdep _ rfl ⟨10, .chain⟩ (by simp) rfl
        obtain ⟨g, rfl, hV⟩ := f5 rfl
        have hRh := Lib.hid hR
        clear hR f0 f1 f2 f3 f4 f5 f6 f7 f8 f9 ne0 ne1 ne2 e0 e1 e2 e3 e4 e5
        refine step_of rfl (fun KK hK => ?_)
        try simp only [Act.put, List.setIfInBounds_toArray, List.set_cons_zero, List.set_cons_succ]
        go_simp
        go_at_call 19; refine (lcall_any ⟨#[115, 117, 98, 115, 116, 114]⟩ _ 2 2 [⟨k, n, (t : ByteArray).data.toList⟩, ⟨1, 1, (⟨#[]⟩ : ByteArray).data.toList⟩] W (hL.below hS0.2) (sz18 6 (by decide)) hV (sz18 2 (by decide)) (Nat.le_refl _) (inr2 hih.out inrK.out.1) (p) (0) C 0 hc).mono ?_; rintro e W' ⟨rfl, hbW⟩
        refine hK.out _ _ ⟨hS0.on hbW, ?_⟩
        exact ⟨b3, b4, b8, b9, true, true, true, b15, b16, b17, x67, x68, x72, x73, x74, (.slice (some ⟨g, 0, none⟩) 2 2), (.agg #[.int .i64 p, .int .i64 (0), .string C]), x8, x9, x10, rfl, (by simp only [Act.put, List.setIfInBounds_toArray, List.set_cons_zero, List.set_cons_succ]; first | done | rfl), R9.s14 hRh.out hbW⟩
      · obtain rfl : b15 = false := hi
        have hRh := Lib.hid hR
        clear hR f0 f1 f2 f3 f4 f5 f6 f7 f8 f9 ne0 ne1 ne2 e0 e1 e2 e3 e4 e5
        refine step_of rfl (fun KK hK => ?_)
        try simp only [Act.put, List.setIfInBounds_toArray, List.set_cons_zero, List.set_cons_succ]
        go_simp
        refine hK.out _ _ ⟨hS0.alloc _, ?_⟩
        exact ⟨b3, b4, b8, b9, b10, b13, b14, true, b16, b17, x67, x68, x72, x73, x74, x77, x78, (.pointer (some ⟨W.heap.size, 0, none⟩)), x9, x10, rfl, (by simp only [Act.put, List.setIfInBounds_toArray, List.set_cons_zero, List.set_cons_succ]; first | done | rfl), R9.s15 hRh.out⟩
      · obtain rfl : b16 = false := hi
        have hRh := Lib.hid hR
        clear hR f0 f1 f2 f3 f4 f5 f6 f7 f8 f9 ne0 ne1 ne2 e0 e1 e2 e3 e4 e5
        refine step_of rfl (fun KK hK => ?_)
        try simp only [Act.put, List.setIfInBounds_toArray, List.set_cons_zero, List.set_cons_succ]
        go_simp
        refine hK.out _ _ ⟨hS0.alloc _, ?_⟩
        exact ⟨b3, b4, b8, b9, b10, b13, b14, b15, true, b17, x67, x68, x72, x73, x74, x77, x78, x8, (.pointer (some ⟨W.heap.size, 0, none⟩)), x10, rfl, (by simp only [Act.put, List.setIfInBounds_toArray, List.set_cons_zero, List.set_cons_succ]; first | done | rfl), R9.s16 hRh.out⟩
      · obtain rfl : b17 = false := hi
        have hRh := Lib.hid hR
        clear hR f0 f1 f2 f3 f4 f5 f6 f7 f8 f9 ne0 ne1 ne2 e0 e1 e2 e3 e4 e5
        refine step_of rfl (fun KK hK => ?_)
        try simp only [Act.put, List.setIfInBounds_toArray, List.set_cons_zero, List.set_cons_succ]
        go_simp
        refine hK.out _ _ ⟨hS0.alloc _, ?_⟩
        exact ⟨b3, b4, b8, b9, b10, b13, b14, b15, b16, true, x67, x68, x72, x73, x74, x77, x78, x8, x9, (.pointer (some ⟨W.heap.size, 0, none⟩)), rfl, (by simp only [Act.put, List.setIfInBounds_toArray, List.set_cons_zero, List.set_cons_succ]; first | done | rfl), R9.s17 hRh.out⟩
      · exfalso
        have c15 : b15 = true := hdep _ rfl ⟨15, .data⟩ (by simp) rfl
        have c16 : b16 = true := hdep _ rfl ⟨16, .phase⟩ (by simp) rfl
        have c17 : b17 = true := hdep _ rfl ⟨17, .phase⟩ (by simp) rfl
        have c14 : b14 = true := hdep _ rfl ⟨14, .chain⟩ (by simp) rfl
        have c13 := e4 c14
        have c10 := e5 c14
        have c9 := e3 c10
        have c8 := e2 c9
        have c4 := e1 c8
        have c3 := e0 c4
        subst c3 c4 c8 c9 c10 c13 c14 c15 c16 c17
        exact hne rfl
      · exact absurd (show false = true from hdep _ rfl ⟨18, .chain⟩ (by simp) rfl) (by decide)
      · exact absurd (show false = true from hdep _ rfl ⟨19, .chain⟩ (by simp) rfl) (by decide)
    · rintro listed a W ⟨b3, b4, b8, b9, b10, b13, b14, b15, b16, b17, x67, x68, x72, x73, x74, x77, x78, x8, x9, x10, rfl, rfl, hR⟩ hne
      obtain ⟨hS, ⟨e0, e1, e2, e3, e4, e5⟩, hF, hN⟩ := id hR
      cases b15 with
      | false => exact (by refine ready_ne (i := 15) (mem_ready.2 ⟨rfl, _, rfl, ?_⟩); exact fun e he _ => absurd he (Array.not_mem_empty e))
      | true =>
        cases b16 with
        | false => exact (by refine ready_ne (i := 16) (mem_ready.2 ⟨rfl, _, rfl, ?_⟩); exact fun e he _ => absurd he (Array.not_mem_empty e))
        | true =>
          cases b17 with
          | false => exact (by refine ready_ne (i := 17) (mem_ready.2 ⟨rfl, _, rfl, ?_⟩); exact fun e he _ => absurd he (Array.not_mem_empty e))
          | true =>
            cases b13 with
            | false => exact (by refine ready_ne (i := 13) (mem_ready.2 ⟨rfl, _, rfl, ?_⟩); intro e he _; have he : e ∈ (#[⟨11, .data⟩, ⟨12, .data⟩] : Array Go.Edge) := he; simp only [List.mem_toArray, List.mem_cons, List.not_mem_nil, or_false] at he; rcases he with rfl | rfl <;> rfl)
            | true =>
              cases b3 with
              | false => exact (by refine ready_ne (i := 3) (mem_ready.2 ⟨rfl, _, rfl, ?_⟩); intro e he _; have he : e ∈ (#[⟨0, .data⟩, ⟨1, .data⟩, ⟨2, .data⟩] : Array Go.Edge) := he; simp only [List.mem_toArray, List.mem_cons, List.not_mem_nil, or_false] at he; rcases he with rfl | rfl | rfl <;> rfl)
              | true =>
                cases b4 with
                | false => exact (by refine ready_ne (i := 4) (mem_ready.2 ⟨rfl, _, rfl, ?_⟩); intro e he _; have he : e ∈ (#[⟨3, .data⟩] : Array Go.Edge) := he; simp only [List.mem_toArray, List.mem_cons, List.not_mem_nil, or_false] at he; rcases he with rfl; rfl)
                | true =>
                  cases b8 with
                  | false => exact (by refine ready_ne (i := 8) (mem_ready.2 ⟨rfl, _, rfl, ?_⟩); intro e he _; have he : e ∈ (#[⟨7, .data⟩, ⟨4, .chain⟩] : Array Go.Edge) := he; simp only [List.mem_toArray, List.mem_cons, List.not_mem_nil, or_false] at he; rcases he with rfl | rfl <;> rfl)
                  | true =>
                    cases b9 with
                    | false => exact (by refine ready_ne (i := 9) (mem_ready.2 ⟨rfl, _, rfl, ?_⟩); intro e he _; have he : e ∈ (#[⟨5, .data⟩, ⟨8, .data⟩] : Array Go.Edge) := he; simp only [List.mem_toArray, List.mem_cons, List.not_mem_nil, or_false] at he; rcases he with rfl | rfl <;> rfl)
                    | true =>
                      cases b10 with
                      | false => exact (by refine ready_ne (i := 10) (mem_ready.2 ⟨rfl, _, rfl, ?_⟩); intro e he _; have he : e ∈ (#[⟨9, .data⟩, ⟨8, .chain⟩] : Array Go.Edge) := he; simp only [List.mem_toArray, List.mem_cons, List.not_mem_nil, or_false] at he; rcases he with rfl | rfl <;> rfl)
                      | true =>
                        cases b14 with
                        | false => exact (by refine ready_ne (i := 14) (mem_ready.2 ⟨rfl, _, rfl, ?_⟩); intro e he _; have he : e ∈ (#[⟨13, .data⟩, ⟨10, .chain⟩] : Array Go.Edge) := he; simp only [List.mem_toArray, List.mem_cons, List.not_mem_nil, or_false] at he; rcases he with rfl | rfl <;> rfl)
                        | true =>
                          exact absurd rfl hne
    · rintro a W ⟨b3, b4, b8, b9, b10, b13, b14, b15, b16, b17, x67, x68, x72, x73, x74, x77, x78, x8, x9, x10, hT, rfl, hR⟩
      obtain rfl : true = b3 := congrArg (fun l : Array Bool => l.getD 3 false) hT
      obtain rfl : true = b4 := congrArg (fun l : Array Bool => l.getD 4 false) hT
      obtain rfl : true = b8 := congrArg (fun l : Array Bool => l.getD 8 false) hT
      obtain rfl : true = b9 := congrArg (fun l : Array Bool => l.getD 9 false) hT
      obtain rfl : true = b10 := congrArg (fun l : Array Bool => l.getD 10 false) hT
      obtain rfl : true = b13 := congrArg (fun l : Array Bool => l.getD 13 false) hT
      obtain rfl : true = b14 := congrArg (fun l : Array Bool => l.getD 14 false) hT
      obtain rfl : true = b15 := congrArg (fun l : Array Bool => l.getD 15 false) hT
      obtain rfl : true = b16 := congrArg (fun l : Array Bool => l.getD 16 false) hT
      obtain rfl : true = b17 := congrArg (fun l : Array Bool => l.getD 17 false) hT
      clear hT
      obtain ⟨⟨hS0, hS1⟩, ⟨e0, e1, e2, e3, e4, e5⟩, ⟨f0, f1, f2, f3, f4, f5, f6, f7, f8, f9⟩, ⟨ne0, ne1, ne2⟩⟩ := hR
      obtain rfl := f1 rfl
      obtain rfl := f4 rfl
      obtain rfl := f6 rfl
      obtain ⟨g8, rfl, m8, v8⟩ := f7 rfl
      obtain ⟨g9, rfl, m9, v9⟩ := f8 rfl
      obtain ⟨g10, rfl, m10, v10⟩ := f9 rfl
      have d89 : g8 ≠ g9 := fun h => ne0 rfl rfl (by rw [h])
      have d80 : g8 ≠ g10 := fun h => ne1 rfl rfl (by rw [h])
      have d90 : g9 ≠ g10 := fun h => ne2 rfl rfl (by rw [h])
      clear ne0 ne1 ne2 f0 f1 f2 f3 f4 f5 f6 f7 f8 f9 e0 e1 e2 e3 e4 e5
      show wpAnyH _ _ _ _ _ 3 _ _ _
      try simp only [Act.put, List.setIfInBounds_toArray, List.set_cons_zero, List.set_cons_succ]
      have hP0 := hS0.put v8 (by omega) (by intro x hx; simp only [List.mem_cons, List.not_mem_nil, or_false] at hx; rcases hx with rfl | rfl | rfl; exact (show g7 ≠ g8 by omega); exact (show g6 ≠ g8 by omega); exact (show g2 ≠ g8 by omega)) (p) (0) (A)
      obtain ⟨z0, z1, z2, z3, z4, z5⟩ := v8.cells
      refine wpAnyH_ready (rs := [18]) (by kernel_rfl) (by simp) ?_
      refine AllReadyH.cons rfl (fun KK hK => ?_) AllReadyH.nil
      go_simp
      refine hK.out _ _ ?_ (fun hH0 => ?_)
      · exact hP0.tail
      clear hK KK z0 z1 z2 z3 z4 z5
      try simp only [List.getElem_toArray, List.getElem_cons_zero, List.getElem_cons_succ, Act.put, List.setIfInBounds_toArray, List.set_cons_zero, List.set_cons_succ]
      replace v9 := v9.other (g' := g8) d89.symm (.int .i64 p) (.int .i64 0) (.string A)
      replace v10 := v10.other (g' := g8) d80.symm (.int .i64 p) (.int .i64 0) (.string A)
      obtain ⟨Wq0, hWq⟩ : ∃ W', (((W.setCell ⟨g8, 0, none⟩ (.int .i64 p)).setCell ⟨g8, 1, none⟩ (.int .i64 0)).setCell ⟨g8, 2, none⟩ (.string A)) = W' := ⟨_, rfl⟩
      rw [hWq] at hP0 v9 v10 ⊢
      clear hWq hH0
      have hP1 := hP0.put v9 (by omega) (by intro x hx; simp only [List.mem_cons, List.not_mem_nil, or_false] at hx; rcases hx with rfl | rfl | rfl | rfl; exact (show g8 ≠ g9 from d89); exact (show g7 ≠ g9 by omega); exact (show g6 ≠ g9 by omega); exact (show g2 ≠ g9 by omega)) (p) (0) (B)
      obtain ⟨z0, z1, z2, z3, z4, z5⟩ := v9.cells
      refine wpAnyH_ready (rs := [19]) (by kernel_rfl) (by simp) ?_
      refine AllReadyH.cons rfl (fun KK hK => ?_) AllReadyH.nil
      go_simp
      refine hK.out _ _ ?_ (fun hH1 => ?_)
      · exact hP1.tail.tail
      clear hK KK z0 z1 z2 z3 z4 z5
      try simp only [List.getElem_toArray, List.getElem_cons_zero, List.getElem_cons_succ, Act.put, List.setIfInBounds_toArray, List.set_cons_zero, List.set_cons_succ]
      replace v10 := v10.other (g' := g9) d90.symm (.int .i64 p) (.int .i64 0) (.string B)
      obtain ⟨Wq1, hWq⟩ : ∃ W', (((Wq0.setCell ⟨g9, 0, none⟩ (.int .i64 p)).setCell ⟨g9, 1, none⟩ (.int .i64 0)).setCell ⟨g9, 2, none⟩ (.string B)) = W' := ⟨_, rfl⟩
      rw [hWq] at hP1 v10 ⊢
      clear hWq hH1
      have hP2 := hP1.put v10 (by omega) (by intro x hx; simp only [List.mem_cons, List.not_mem_nil, or_false] at hx; rcases hx with rfl | rfl | rfl | rfl | rfl; exact (show g9 ≠ g10 from d90); exact (show g8 ≠ g10 from d80); exact (show g7 ≠ g10 by omega); exact (show g6 ≠ g10 by omega); exact (show g2 ≠ g10 by omega)) (p) (0) (C)
      obtain ⟨z0, z1, z2, z3, z4, z5⟩ := v10.cells
      refine wpAnyH_ready (rs := [20]) (by kernel_rfl) (by simp) ?_
      refine AllReadyH.cons rfl (fun KK hK => ?_) AllReadyH.nil
      go_simp
      refine hK.out _ _ ?_ (fun hH2 => ?_)
      · exact hP2.tail.tail.tail
      clear hK KK z0 z1 z2 z3 z4 z5
      try simp only [List.getElem_toArray, List.getElem_cons_zero, List.getElem_cons_succ, Act.put, List.setIfInBounds_toArray, List.set_cons_zero, List.set_cons_succ]
      obtain ⟨Wq2, hWq⟩ : ∃ W', (((Wq1.setCell ⟨g10, 0, none⟩ (.int .i64 p)).setCell ⟨g10, 1, none⟩ (.int .i64 0)).setCell ⟨g10, 2, none⟩ (.string C)) = W' := ⟨_, rfl⟩
      rw [hWq] at hP2 ⊢
      clear hWq hH2
      refine wpAnyH_done (by kernel_rfl) ?_ _
      go_wp2_with fail
      go_meet
      exact ⟨g8, g9, g10, rfl, rfl, rfl, hP2⟩
    · exact ⟨false, false, false, false, false, false, false, false, false, false, undef, undef, undef, undef, undef, undef, undef, undef, undef, undef, rfl, (by simp only [Act.put, List.setIfInBounds_toArray, List.set_cons_zero, List.set_cons_succ]; first | done | rfl), ⟨hH, Nat.le_of_eq hws.out.symm⟩, ⟨nofun, nofun, nofun, nofun, nofun, nofun⟩, ⟨nofun, nofun, nofun, nofun, nofun, nofun, nofun, nofun, nofun, nofun⟩, ⟨nofun, nofun, nofun⟩⟩
  case rest =>
  obtain ⟨⟨g8, g9, g10, rfl, rfl, rfl, hA10⟩, _⟩ := (⟨hcut, trivial⟩ : _ ∧ True)
  clear hA9 ha hb hc
  have k1 : ¬ 9223372036854775807 < A.size + B.size := by omega
  go_upto_region 10 with fail
  go_cut [110] from 79 to 110 (fun v W => v = .bool false ∧ AgS w [(g10, ⟨p, 0, (C : ByteArray).data.toList⟩), (g9, ⟨p, 0, (B : ByteArray).data.toList⟩), (g8, ⟨p, 0, (A : ByteArray).data.toList⟩), (g7, ⟨1, 1, (⟨#[]⟩ : ByteArray).data.toList⟩), (g6, ⟨1, (K : Int), (⟨#[]⟩ : ByteArray).data.toList⟩), (g2, ⟨k, n, (t : ByteArray).data.toList⟩)] W)
  case first =>
    obtain ⟨Wd, hWd⟩ : ∃ W, (wc).drew = W := ⟨_, rfl⟩
    have hSd : AgS w [(g10, ⟨p, 0, (C : ByteArray).data.toList⟩), (g9, ⟨p, 0, (B : ByteArray).data.toList⟩), (g8, ⟨p, 0, (A : ByteArray).data.toList⟩), (g7, ⟨1, 1, (⟨#[]⟩ : ByteArray).data.toList⟩), (g6, ⟨1, (K : Int), (⟨#[]⟩ : ByteArray).data.toList⟩), (g2, ⟨k, n, (t : ByteArray).data.toList⟩)] Wd := by rw [← hWd]; exact hA10.drew
    refine wp_region_held_drew (S := fun W => AgS w [(g10, ⟨p, 0, (C : ByteArray).data.toList⟩), (g9, ⟨p, 0, (B : ByteArray).data.toList⟩), (g8, ⟨p, 0, (A : ByteArray).data.toList⟩), (g7, ⟨1, 1, (⟨#[]⟩ : ByteArray).data.toList⟩), (g6, ⟨1, (K : Int), (⟨#[]⟩ : ByteArray).data.toList⟩), (g2, ⟨k, n, (t : ByteArray).data.toList⟩)] W) (by kernel_rfl) ?_ (fun hH => ?_)
    · rw [hWd]; exact hSd
    rw [hWd] at hH ⊢
    clear hWd hSd
    refine wpAnyH_take (i := 0) (v := ?_) rfl (by kernel_rfl) (by kernel_rfl) (by kernel_rfl) (fun _ _ _ h => h) (Or.inl ⟨by rfl, ?_⟩) hH ?_
    rotate_left
    · (intro W hSw; (try dsimp only at hSw); go_simp; try with_reducible rfl)
    try simp only [List.getElem_toArray, List.getElem_cons_zero, List.getElem_cons_succ, Act.put, List.setIfInBounds_toArray, List.set_cons_zero, List.set_cons_succ]
    refine wpAnyH_take (i := 1) (v := ?_) rfl (by kernel_rfl) (by kernel_rfl) (by kernel_rfl) (fun _ _ _ h => h) (Or.inl ⟨by rfl, ?_⟩) hH ?_
    rotate_left
    · (intro W hSw; (try dsimp only at hSw); obtain ⟨z00, z01, z02, z03, z04, z05⟩ := (AgS.get hSw (g := g8) (k := p) (n := 0) (t := A) (List.mem_cons_of_mem _ (List.mem_cons_of_mem _ (List.mem_cons_self)))).cells; go_simp; try with_reducible rfl)
    try simp only [List.getElem_toArray, List.getElem_cons_zero, List.getElem_cons_succ, Act.put, List.setIfInBounds_toArray, List.set_cons_zero, List.set_cons_succ]
    refine wpAnyH_take (i := 2) (v := ?_) rfl (by kernel_rfl) (by kernel_rfl) (by kernel_rfl) (fun _ _ _ h => h) (Or.inl ⟨by rfl, ?_⟩) hH ?_
    rotate_left
    · (intro W hSw; (try dsimp only at hSw); go_simp; try with_reducible rfl)
    try simp only [List.getElem_toArray, List.getElem_cons_zero, List.getElem_cons_succ, Act.put, List.setIfInBounds_toArray, List.set_cons_zero, List.set_cons_succ]
    refine wpAnyH_take (i := 3) (v := ?_) rfl (by kernel_rfl) (by kernel_rfl) (by kernel_rfl) (fun _ _ _ h => h) (Or.inl ⟨by rfl, ?_⟩) hH ?_
    rotate_left
    · (intro W hSw; (try dsimp only at hSw); obtain ⟨z00, z01, z02, z03, z04, z05⟩ := (AgS.get hSw (g := g9) (k := p) (n := 0) (t := B) (List.mem_cons_of_mem _ (List.mem_cons_self))).cells; go_simp; try with_reducible rfl)
    try simp only [List.getElem_toArray, List.getElem_cons_zero, List.getElem_cons_succ, Act.put, List.setIfInBounds_toArray, List.set_cons_zero, List.set_cons_succ]
    refine wpAnyH_take (i := 4) (v := ?_) rfl (by kernel_rfl) (by kernel_rfl) (by kernel_rfl) (fun _ _ _ h => h) (Or.inl ⟨by rfl, ?_⟩) hH ?_
    rotate_left
    · (intro W hSw; (try dsimp only at hSw); go_simp; try with_reducible rfl)
    try simp only [List.getElem_toArray, List.getElem_cons_zero, List.getElem_cons_succ, Act.put, List.setIfInBounds_toArray, List.set_cons_zero, List.set_cons_succ]
    refine wpAnyH_take (i := 5) (v := ?_) rfl (by kernel_rfl) (by kernel_rfl) (by kernel_rfl) (fun _ _ _ h => h) (Or.inl ⟨by rfl, ?_⟩) hH ?_
    rotate_left
    · (intro W hSw; (try dsimp only at hSw); go_simp; try with_reducible rfl)
    try simp only [List.getElem_toArray, List.getElem_cons_zero, List.getElem_cons_succ, Act.put, List.setIfInBounds_toArray, List.set_cons_zero, List.set_cons_succ]
    refine wpAnyH_take (i := 6) (v := ?_) rfl (by kernel_rfl) (by kernel_rfl) (by kernel_rfl) (fun _ _ _ h => h) (Or.inl ⟨by rfl, ?_⟩) hH ?_
    rotate_left
    · (intro W hSw; (try dsimp only at hSw); obtain ⟨z00, z01, z02, z03, z04, z05⟩ := (AgS.get hSw (g := g10) (k := p) (n := 0) (t := C) (List.mem_cons_self)).cells; go_simp; try with_reducible rfl)
    try simp only [List.getElem_toArray, List.getElem_cons_zero, List.getElem_cons_succ, Act.put, List.setIfInBounds_toArray, List.set_cons_zero, List.set_cons_succ]
    refine wpAnyH_take (i := 7) (v := ?_) rfl (by kernel_rfl) (by kernel_rfl) (by kernel_rfl) (fun _ _ _ h => h) (Or.inl ⟨by rfl, ?_⟩) hH ?_
    rotate_left
    · (intro W hSw; (try dsimp only at hSw); have hq := congrArg ByteArray.toList hABC.out; go_simp; try with_reducible rfl)
    try simp only [List.getElem_toArray, List.getElem_cons_zero, List.getElem_cons_succ, Act.put, List.setIfInBounds_toArray, List.set_cons_zero, List.set_cons_succ]
    refine wpAnyH_take (i := 8) (v := ?_) rfl (by kernel_rfl) (by kernel_rfl) (by kernel_rfl) (fun _ _ _ h => h) (Or.inl ⟨by rfl, ?_⟩) hH ?_
    rotate_left
    · (intro W hSw; (try dsimp only at hSw); go_simp; try with_reducible rfl)
    try simp only [List.getElem_toArray, List.getElem_cons_zero, List.getElem_cons_succ, Act.put, List.setIfInBounds_toArray, List.set_cons_zero, List.set_cons_succ]
    refine wpAnyH_take (i := 9) (v := ?_) rfl (by kernel_rfl) (by kernel_rfl) (by kernel_rfl) (fun _ _ _ h => h) (Or.inl ⟨by rfl, ?_⟩) hH ?_
    rotate_left
    · (intro W hSw; (try dsimp only at hSw); go_simp; try with_reducible rfl)
    try simp only [List.getElem_toArray, List.getElem_cons_zero, List.getElem_cons_succ, Act.put, List.setIfInBounds_toArray, List.set_cons_zero, List.set_cons_succ]
    refine wpAnyH_take (i := 10) (v := ?_) rfl (by kernel_rfl) (by kernel_rfl) (by kernel_rfl) (fun _ _ _ h => h) (Or.inl ⟨by rfl, ?_⟩) hH ?_
    rotate_left
    · (intro W hSw; (try dsimp only at hSw); obtain ⟨z00, z01, z02, z03, z04, z05⟩ := (AgS.get hSw (g := g8) (k := p) (n := 0) (t := A) (List.mem_cons_of_mem _ (List.mem_cons_of_mem _ (List.mem_cons_self)))).cells; go_simp; try with_reducible rfl)
    try simp only [List.getElem_toArray, List.getElem_cons_zero, List.getElem_cons_succ, Act.put, List.setIfInBounds_toArray, List.set_cons_zero, List.set_cons_succ]
    refine wpAnyH_take (i := 11) (v := ?_) rfl (by kernel_rfl) (by kernel_rfl) (by kernel_rfl) (fun _ _ _ h => h) (Or.inl ⟨by rfl, ?_⟩) hH ?_
    rotate_left
    · (intro W hSw; (try dsimp only at hSw); go_simp; try with_reducible rfl)
    try simp only [List.getElem_toArray, List.getElem_cons_zero, List.getElem_cons_succ, Act.put, List.setIfInBounds_toArray, List.set_cons_zero, List.set_cons_succ]
    refine wpAnyH_take (i := 12) (v := ?_) rfl (by kernel_rfl) (by kernel_rfl) (by kernel_rfl) (fun _ _ _ h => h) (Or.inl ⟨by rfl, ?_⟩) hH ?_
    rotate_left
    · (intro W hSw; (try dsimp only at hSw); obtain ⟨z00, z01, z02, z03, z04, z05⟩ := (AgS.get hSw (g := g10) (k := p) (n := 0) (t := C) (List.mem_cons_self)).cells; go_simp; try with_reducible rfl)
    try simp only [List.getElem_toArray, List.getElem_cons_zero, List.getElem_cons_succ, Act.put, List.setIfInBounds_toArray, List.set_cons_zero, List.set_cons_succ]
    refine wpAnyH_take (i := 13) (v := ?_) rfl (by kernel_rfl) (by kernel_rfl) (by kernel_rfl) (fun _ _ _ h => h) (Or.inl ⟨by rfl, ?_⟩) hH ?_
    rotate_left
    · (intro W hSw; (try dsimp only at hSw); go_simp; try with_reducible rfl)
    try simp only [List.getElem_toArray, List.getElem_cons_zero, List.getElem_cons_succ, Act.put, List.setIfInBounds_toArray, List.set_cons_zero, List.set_cons_succ]
    refine wpAnyH_take (i := 14) (v := ?_) rfl (by kernel_rfl) (by kernel_rfl) (by kernel_rfl) (fun _ _ _ h => h) (Or.inl ⟨by rfl, ?_⟩) hH ?_
    rotate_left
    · (intro W hSw; (try dsimp only at hSw); go_simp; try with_reducible rfl)
    try simp only [List.getElem_toArray, List.getElem_cons_zero, List.getElem_cons_succ, Act.put, List.setIfInBounds_toArray, List.set_cons_zero, List.set_cons_succ]
    refine wpAnyH_take (i := 15) (v := ?_) rfl (by kernel_rfl) (by kernel_rfl) (by kernel_rfl) (fun _ _ _ h => h) (Or.inl ⟨by rfl, ?_⟩) hH ?_
    rotate_left
    · (intro W hSw; (try dsimp only at hSw); go_simp; try with_reducible rfl)
    try simp only [List.getElem_toArray, List.getElem_cons_zero, List.getElem_cons_succ, Act.put, List.setIfInBounds_toArray, List.set_cons_zero, List.set_cons_succ]
    refine wpAnyH_take (i := 16) (v := ?_) rfl (by kernel_rfl) (by kernel_rfl) (by kernel_rfl) (fun _ _ _ h => h) (Or.inl ⟨by rfl, ?_⟩) hH ?_
    rotate_left
    · (intro W hSw; (try dsimp only at hSw); go_simp; try with_reducible rfl)
    try simp only [List.getElem_toArray, List.getElem_cons_zero, List.getElem_cons_succ, Act.put, List.setIfInBounds_toArray, List.set_cons_zero, List.set_cons_succ]
    refine wpAnyH_take (i := 17) (v := ?_) rfl (by kernel_rfl) (by kernel_rfl) (by kernel_rfl) (fun _ _ _ h => h) (Or.inl ⟨by rfl, ?_⟩) hH ?_
    rotate_left
    · (intro W hSw; (try dsimp only at hSw); obtain ⟨z00, z01, z02, z03, z04, z05⟩ := (AgS.get hSw (g := g9) (k := p) (n := 0) (t := B) (List.mem_cons_of_mem _ (List.mem_cons_self))).cells; go_simp; try with_reducible rfl)
    try simp only [List.getElem_toArray, List.getElem_cons_zero, List.getElem_cons_succ, Act.put, List.setIfInBounds_toArray, List.set_cons_zero, List.set_cons_succ]
    refine wpAnyH_take (i := 18) (v := ?_) rfl (by kernel_rfl) (by kernel_rfl) (by kernel_rfl) (fun _ _ _ h => h) (Or.inl ⟨by rfl, ?_⟩) hH ?_
    rotate_left
    · (intro W hSw; (try dsimp only at hSw); go_simp; try with_reducible rfl)
    try simp only [List.getElem_toArray, List.getElem_cons_zero, List.getElem_cons_succ, Act.put, List.setIfInBounds_toArray, List.set_cons_zero, List.set_cons_succ]
    refine wpAnyH_take (i := 19) (v := ?_) rfl (by kernel_rfl) (by kernel_rfl) (by kernel_rfl) (fun _ _ _ h => h) (Or.inl ⟨by rfl, ?_⟩) hH ?_
    rotate_left
    · (intro W hSw; (try dsimp only at hSw); obtain ⟨z00, z01, z02, z03, z04, z05⟩ := (AgS.get hSw (g := g10) (k := p) (n := 0) (t := C) (List.mem_cons_self)).cells; go_simp; try with_reducible rfl)
    try simp only [List.getElem_toArray, List.getElem_cons_zero, List.getElem_cons_succ, Act.put, List.setIfInBounds_toArray, List.set_cons_zero, List.set_cons_succ]
    refine wpAnyH_take (i := 20) (v := ?_) rfl (by kernel_rfl) (by kernel_rfl) (by kernel_rfl) (fun _ _ _ h => h) (Or.inl ⟨by rfl, ?_⟩) hH ?_
    rotate_left
    · (intro W hSw; (try dsimp only at hSw); go_simp; try with_reducible rfl)
    try simp only [List.getElem_toArray, List.getElem_cons_zero, List.getElem_cons_succ, Act.put, List.setIfInBounds_toArray, List.set_cons_zero, List.set_cons_succ]
    refine wpAnyH_take (i := 21) (v := ?_) rfl (by kernel_rfl) (by kernel_rfl) (by kernel_rfl) (fun _ _ _ h => h) (Or.inl ⟨by rfl, ?_⟩) hH ?_
    rotate_left
    · (intro W hSw; (try dsimp only at hSw); go_simp; try with_reducible rfl)
    try simp only [List.getElem_toArray, List.getElem_cons_zero, List.getElem_cons_succ, Act.put, List.setIfInBounds_toArray, List.set_cons_zero, List.set_cons_succ]
    refine wpAnyH_take (i := 22) (v := ?_) rfl (by kernel_rfl) (by kernel_rfl) (by kernel_rfl) (fun _ _ _ h => h) (Or.inl ⟨by rfl, ?_⟩) hH ?_
    rotate_left
    · (intro W hSw; (try dsimp only at hSw); go_simp; try with_reducible rfl)
    try simp only [List.getElem_toArray, List.getElem_cons_zero, List.getElem_cons_succ, Act.put, List.setIfInBounds_toArray, List.set_cons_zero, List.set_cons_succ]
    refine wpAnyH_take (i := 23) (v := ?_) rfl (by kernel_rfl) (by kernel_rfl) (by kernel_rfl) (fun _ _ _ h => h) (Or.inl ⟨by rfl, ?_⟩) hH ?_
    rotate_left
    · (intro W hSw; (try dsimp only at hSw); obtain ⟨z00, z01, z02, z03, z04, z05⟩ := (AgS.get hSw (g := g2) (k := k) (n := n) (t := t) (List.mem_cons_of_mem _ (List.mem_cons_of_mem _ (List.mem_cons_of_mem _ (List.mem_cons_of_mem _ (List.mem_cons_of_mem _ (List.mem_cons_self))))))).cells; go_simp; try with_reducible rfl)
    try simp only [List.getElem_toArray, List.getElem_cons_zero, List.getElem_cons_succ, Act.put, List.setIfInBounds_toArray, List.set_cons_zero, List.set_cons_succ]
    refine wpAnyH_take (i := 27) (v := ?_) rfl (by kernel_rfl) (by kernel_rfl) (by kernel_rfl) (fun _ _ _ h => h) (Or.inl ⟨by rfl, ?_⟩) hH ?_
    rotate_left
    · (intro W hSw; (try dsimp only at hSw); go_simp; try with_reducible rfl)
    try simp only [List.getElem_toArray, List.getElem_cons_zero, List.getElem_cons_succ, Act.put, List.setIfInBounds_toArray, List.set_cons_zero, List.set_cons_succ]
    refine wpAnyH_take (i := 28) (v := ?_) rfl (by kernel_rfl) (by kernel_rfl) (by kernel_rfl) (fun _ _ _ h => h) (Or.inl ⟨by rfl, ?_⟩) hH ?_
    rotate_left
    · (intro W hSw; (try dsimp only at hSw); obtain ⟨z00, z01, z02, z03, z04, z05⟩ := (AgS.get hSw (g := g10) (k := p) (n := 0) (t := C) (List.mem_cons_self)).cells; go_simp; try with_reducible rfl)
    try simp only [List.getElem_toArray, List.getElem_cons_zero, List.getElem_cons_succ, Act.put, List.setIfInBounds_toArray, List.set_cons_zero, List.set_cons_succ]
    refine wpAnyH_ready (rs := [24, 29]) (by kernel_rfl) (by simp) ?_
    refine AllReadyH.cons rfl (fun KK hK => ?_) (AllReadyH.cons rfl (fun KK hK => ?_) (AllReadyH.nil))
    · go_simp
      refine hK.out _ _ ?_ (fun hH44 => ?_)
      · exact hH.alloc _
      clear hK KK
      try simp only [List.getElem_toArray, List.getElem_cons_zero, List.getElem_cons_succ, Act.put, List.setIfInBounds_toArray, List.set_cons_zero, List.set_cons_succ]
      have hV44 := vals_new Wd (k) (n) (t)
      obtain ⟨W44, hW44⟩ : ∃ W, World.alloc Wd (.cells #[.int .i64 k, .int .i64 n, .string t] 25) = W := ⟨_, rfl⟩
      rw [hW44] at hV44 hH44 ⊢
      obtain ⟨s44, hs44⟩ : ∃ g, Wd.heap.size = g := ⟨_, rfl⟩
      rw [hs44] at hV44 ⊢
      clear hW44 hs44
      refine wpAnyH_ready (rs := [25, 29]) (by kernel_rfl) (by simp) ?_
      refine AllReadyH.cons rfl (fun KK hK => ?_) (AllReadyH.cons rfl (fun KK hK => ?_) (AllReadyH.nil))
      · go_simp
        go_at_call 19; refine (lcall_any ⟨#[108, 101, 110, 103, 116, 104]⟩ _ 1 1 [⟨k, n, (t : ByteArray).data.toList⟩] W44 (hL.below hH44.2) (sz18 6 (by decide)) hV44 (sz18 1 (by decide)) (Nat.le_refl _) (inr1 hih.out) (1) ((C.size : Int)) ⟨#[]⟩ 0 hlen).mono ?_; rintro e W45 ⟨rfl, hb45⟩
        refine hK.out _ _ ?_ (fun hH45 => ?_)
        · exact hH44.on hb45
        clear hK KK
        try simp only [List.getElem_toArray, List.getElem_cons_zero, List.getElem_cons_succ, Act.put, List.setIfInBounds_toArray, List.set_cons_zero, List.set_cons_succ]
        refine wpAnyH_take (i := 26) (v := ?_) rfl (by kernel_rfl) (by kernel_rfl) (by kernel_rfl) (fun _ _ _ h => h) (Or.inl ⟨by rfl, ?_⟩) hH45 ?_
        rotate_left
        · (intro W hSw; (try dsimp only at hSw); have hf : ∀ W : World, (Instr.field 25 (.agg #[.int .i64 1, .int .i64 (C.size : Int), .string ⟨#[]⟩]) 1).run Tryz.prog W = .ok (.int .i64 (C.size : Int)) W := fun W => (by kernel_rfl); go_simp; try with_reducible rfl)
        try simp only [List.getElem_toArray, List.getElem_cons_zero, List.getElem_cons_succ, Act.put, List.setIfInBounds_toArray, List.set_cons_zero, List.set_cons_succ]
        refine wpAnyH_ready (rs := [29]) (by kernel_rfl) (by simp) ?_
        refine AllReadyH.cons rfl (fun KK hK => ?_) AllReadyH.nil
        go_simp
        refine hK.out _ _ ?_ (fun hH46 => ?_)
        · exact hH45
        clear hK KK
        try simp only [List.getElem_toArray, List.getElem_cons_zero, List.getElem_cons_succ, Act.put, List.setIfInBounds_toArray, List.set_cons_zero, List.set_cons_succ]
        refine wpAnyH_take (i := 30) (v := ?_) rfl (by kernel_rfl) (by kernel_rfl) (by kernel_rfl) (fun _ _ _ h => h) (Or.inl ⟨by rfl, ?_⟩) hH46 ?_
        rotate_left
        · (intro W hSw; (try dsimp only at hSw); go_simp; try with_reducible rfl)
        try simp only [List.getElem_toArray, List.getElem_cons_zero, List.getElem_cons_succ, Act.put, List.setIfInBounds_toArray, List.set_cons_zero, List.set_cons_succ]
        refine wpAnyH_take (i := 31) (v := ?_) rfl (by kernel_rfl) (by kernel_rfl) (by kernel_rfl) (fun _ _ _ h => h) (Or.inl ⟨by rfl, ?_⟩) hH46 ?_
        rotate_left
        · (intro W hSw; (try dsimp only at hSw); go_simp; try with_reducible rfl)
        try simp only [List.getElem_toArray, List.getElem_cons_zero, List.getElem_cons_succ, Act.put, List.setIfInBounds_toArray, List.set_cons_zero, List.set_cons_succ]
        refine wpAnyH_done (by kernel_rfl) ?_ _
        go_wp2_with fail
        go_meet
        exact ⟨rfl, hH46⟩
      · go_simp
        refine hK.out _ _ ?_ (fun hH47 => ?_)
        · exact hH44
        clear hK KK
        try simp only [List.getElem_toArray, List.getElem_cons_zero, List.getElem_cons_succ, Act.put, List.setIfInBounds_toArray, List.set_cons_zero, List.set_cons_succ]
        refine wpAnyH_ready (rs := [25]) (by kernel_rfl) (by simp) ?_
        refine AllReadyH.cons rfl (fun KK hK => ?_) AllReadyH.nil
        go_simp
        go_at_call 19; refine (lcall_any ⟨#[108, 101, 110, 103, 116, 104]⟩ _ 1 1 [⟨k, n, (t : ByteArray).data.toList⟩] W44 (hL.below hH47.2) (sz18 6 (by decide)) hV44 (sz18 1 (by decide)) (Nat.le_refl _) (inr1 hih.out) (1) ((C.size : Int)) ⟨#[]⟩ 0 hlen).mono ?_; rintro e W48 ⟨rfl, hb48⟩
        refine hK.out _ _ ?_ (fun hH48 => ?_)
        · exact hH47.on hb48
        clear hK KK
        try simp only [List.getElem_toArray, List.getElem_cons_zero, List.getElem_cons_succ, Act.put, List.setIfInBounds_toArray, List.set_cons_zero, List.set_cons_succ]
        refine wpAnyH_take (i := 26) (v := ?_) rfl (by kernel_rfl) (by kernel_rfl) (by kernel_rfl) (fun _ _ _ h => h) (Or.inl ⟨by rfl, ?_⟩) hH48 ?_
        rotate_left
        · (intro W hSw; (try dsimp only at hSw); have hf : ∀ W : World, (Instr.field 25 (.agg #[.int .i64 1, .int .i64 (C.size : Int), .string ⟨#[]⟩]) 1).run Tryz.prog W = .ok (.int .i64 (C.size : Int)) W := fun W => (by kernel_rfl); go_simp; try with_reducible rfl)
        try simp only [List.getElem_toArray, List.getElem_cons_zero, List.getElem_cons_succ, Act.put, List.setIfInBounds_toArray, List.set_cons_zero, List.set_cons_succ]
        refine wpAnyH_take (i := 30) (v := ?_) rfl (by kernel_rfl) (by kernel_rfl) (by kernel_rfl) (fun _ _ _ h => h) (Or.inl ⟨by rfl, ?_⟩) hH48 ?_
        rotate_left
        · (intro W hSw; (try dsimp only at hSw); go_simp; try with_reducible rfl)
        try simp only [List.getElem_toArray, List.getElem_cons_zero, List.getElem_cons_succ, Act.put, List.setIfInBounds_toArray, List.set_cons_zero, List.set_cons_succ]
        refine wpAnyH_take (i := 31) (v := ?_) rfl (by kernel_rfl) (by kernel_rfl) (by kernel_rfl) (fun _ _ _ h => h) (Or.inl ⟨by rfl, ?_⟩) hH48 ?_
        rotate_left
        · (intro W hSw; (try dsimp only at hSw); go_simp; try with_reducible rfl)
        try simp only [List.getElem_toArray, List.getElem_cons_zero, List.getElem_cons_succ, Act.put, List.setIfInBounds_toArray, List.set_cons_zero, List.set_cons_succ]
        refine wpAnyH_done (by kernel_rfl) ?_ _
        go_wp2_with fail
        go_meet
        exact ⟨rfl, hH48⟩
    · go_simp
      refine hK.out _ _ ?_ (fun hH49 => ?_)
      · exact hH
      clear hK KK
      try simp only [List.getElem_toArray, List.getElem_cons_zero, List.getElem_cons_succ, Act.put, List.setIfInBounds_toArray, List.set_cons_zero, List.set_cons_succ]
      refine wpAnyH_ready (rs := [24]) (by kernel_rfl) (by simp) ?_
      refine AllReadyH.cons rfl (fun KK hK => ?_) AllReadyH.nil
      go_simp
      refine hK.out _ _ ?_ (fun hH50 => ?_)
      · exact hH49.alloc _
      clear hK KK
      try simp only [List.getElem_toArray, List.getElem_cons_zero, List.getElem_cons_succ, Act.put, List.setIfInBounds_toArray, List.set_cons_zero, List.set_cons_succ]
      have hV50 := vals_new Wd (k) (n) (t)
      obtain ⟨W50, hW50⟩ : ∃ W, World.alloc Wd (.cells #[.int .i64 k, .int .i64 n, .string t] 25) = W := ⟨_, rfl⟩
      rw [hW50] at hV50 hH50 ⊢
      obtain ⟨s50, hs50⟩ : ∃ g, Wd.heap.size = g := ⟨_, rfl⟩
      rw [hs50] at hV50 ⊢
      clear hW50 hs50
      refine wpAnyH_ready (rs := [25]) (by kernel_rfl) (by simp) ?_
      refine AllReadyH.cons rfl (fun KK hK => ?_) AllReadyH.nil
      go_simp
      go_at_call 19; refine (lcall_any ⟨#[108, 101, 110, 103, 116, 104]⟩ _ 1 1 [⟨k, n, (t : ByteArray).data.toList⟩] W50 (hL.below hH50.2) (sz18 6 (by decide)) hV50 (sz18 1 (by decide)) (Nat.le_refl _) (inr1 hih.out) (1) ((C.size : Int)) ⟨#[]⟩ 0 hlen).mono ?_; rintro e W51 ⟨rfl, hb51⟩
      refine hK.out _ _ ?_ (fun hH51 => ?_)
      · exact hH50.on hb51
      clear hK KK
      try simp only [List.getElem_toArray, List.getElem_cons_zero, List.getElem_cons_succ, Act.put, List.setIfInBounds_toArray, List.set_cons_zero, List.set_cons_succ]
      refine wpAnyH_take (i := 26) (v := ?_) rfl (by kernel_rfl) (by kernel_rfl) (by kernel_rfl) (fun _ _ _ h => h) (Or.inl ⟨by rfl, ?_⟩) hH51 ?_
      rotate_left
      · (intro W hSw; (try dsimp only at hSw); have hf : ∀ W : World, (Instr.field 25 (.agg #[.int .i64 1, .int .i64 (C.size : Int), .string ⟨#[]⟩]) 1).run Tryz.prog W = .ok (.int .i64 (C.size : Int)) W := fun W => (by kernel_rfl); go_simp; try with_reducible rfl)
      try simp only [List.getElem_toArray, List.getElem_cons_zero, List.getElem_cons_succ, Act.put, List.setIfInBounds_toArray, List.set_cons_zero, List.set_cons_succ]
      refine wpAnyH_take (i := 30) (v := ?_) rfl (by kernel_rfl) (by kernel_rfl) (by kernel_rfl) (fun _ _ _ h => h) (Or.inl ⟨by rfl, ?_⟩) hH51 ?_
      rotate_left
      · (intro W hSw; (try dsimp only at hSw); go_simp; try with_reducible rfl)
      try simp only [List.getElem_toArray, List.getElem_cons_zero, List.getElem_cons_succ, Act.put, List.setIfInBounds_toArray, List.set_cons_zero, List.set_cons_succ]
      refine wpAnyH_take (i := 31) (v := ?_) rfl (by kernel_rfl) (by kernel_rfl) (by kernel_rfl) (fun _ _ _ h => h) (Or.inl ⟨by rfl, ?_⟩) hH51 ?_
      rotate_left
      · (intro W hSw; (try dsimp only at hSw); go_simp; try with_reducible rfl)
      try simp only [List.getElem_toArray, List.getElem_cons_zero, List.getElem_cons_succ, Act.put, List.setIfInBounds_toArray, List.set_cons_zero, List.set_cons_succ]
      refine wpAnyH_done (by kernel_rfl) ?_ _
      go_wp2_with fail
      go_meet
      exact ⟨rfl, hH51⟩
  case rest =>
  obtain ⟨rfl, hA11⟩ := hcut
  clear hA10 hABC hlen k1
  obtain ⟨x0, x1, x2, _, _, _⟩ := (AgS.get hA11 (g := g2) (k := k) (n := n) (t := t) (List.mem_cons_of_mem _ (List.mem_cons_of_mem _ (List.mem_cons_of_mem _ (List.mem_cons_of_mem _ (List.mem_cons_of_mem _ (List.mem_cons_self))))))).cells
  obtain ⟨y0, y1, y2, _, _, _⟩ := (AgS.get hA11 (g := g9) (k := p) (n := 0) (t := B) (List.mem_cons_of_mem _ (List.mem_cons_self))).cells
  go_upto_region 13 with (go_at_call 19; refine (lcall_any ⟨#[105, 110, 115, 116, 114]⟩ _ 2 2 [⟨k, n, (t : ByteArray).data.toList⟩, ⟨p, 0, (B : ByteArray).data.toList⟩] _ ((hL.below hA11.2).alloc _) (sz18 5 (by decide)) (vals_new2 wc (k) (n) (t) (p) (0) (B)) (sz18 2 (by decide)) (Nat.le_refl _) (inr2 hih.out inrz) (1) ((j : Int) + 1) ⟨#[]⟩ 0 hin).mono ?_; rintro e w12 ⟨rfl, hb12⟩)
  have hA12 := ((hA11.alloc _).on hb12).new 1 ((j : Int) + 1) ⟨#[]⟩
  obtain ⟨g11, hg11⟩ : ∃ g, w12.heap.size = g := ⟨_, rfl⟩
  obtain ⟨W13, hW13⟩ : ∃ W, w12.alloc (.cells #[.int .i64 1, .int .i64 ((j : Int) + 1), .string ⟨#[]⟩] 25) = W := ⟨_, rfl⟩
  rw [hW13, hg11] at hA12
  rw [hW13, hg11]
  clear hW13 hg11 hb12 hA11 x0 x1 x2 y0 y1 y2
  have o1 : decide ((j : Int) + 1 < 1) = false := decide_eq_false (by omega)
  have o2 : decide ((j : Int) + 1 > (K : Int) + 1) = false := decide_eq_false (by omega)
  have o3 : ¬ K < j := by omega
  have q1 : IntKind.i64.wrap ((K : Int) + 1) = (K : Int) + 1 := IntWalk.i64_in _ (by omega)
  have q2 : wrap64 ((K : Int) + 1) = (K : Int) + 1 := by unfold wrap64; omega
  go_cut [145] from 115 to 145 (fun v W => v = .bool false ∧ AgS w [(g11, ⟨1, (j : Int) + 1, (⟨#[]⟩ : ByteArray).data.toList⟩), (g10, ⟨p, 0, (C : ByteArray).data.toList⟩), (g9, ⟨p, 0, (B : ByteArray).data.toList⟩), (g8, ⟨p, 0, (A : ByteArray).data.toList⟩), (g7, ⟨1, 1, (⟨#[]⟩ : ByteArray).data.toList⟩), (g6, ⟨1, (K : Int), (⟨#[]⟩ : ByteArray).data.toList⟩), (g2, ⟨k, n, (t : ByteArray).data.toList⟩)] W)
  case first =>
    obtain ⟨Wd, hWd⟩ : ∃ W, (W13).drew = W := ⟨_, rfl⟩
    have hSd : AgS w [(g11, ⟨1, (j : Int) + 1, (⟨#[]⟩ : ByteArray).data.toList⟩), (g10, ⟨p, 0, (C : ByteArray).data.toList⟩), (g9, ⟨p, 0, (B : ByteArray).data.toList⟩), (g8, ⟨p, 0, (A : ByteArray).data.toList⟩), (g7, ⟨1, 1, (⟨#[]⟩ : ByteArray).data.toList⟩), (g6, ⟨1, (K : Int), (⟨#[]⟩ : ByteArray).data.toList⟩), (g2, ⟨k, n, (t : ByteArray).data.toList⟩)] Wd := by rw [← hWd]; exact hA12.drew
    refine wp_region_held_drew (S := fun W => AgS w [(g11, ⟨1, (j : Int) + 1, (⟨#[]⟩ : ByteArray).data.toList⟩), (g10, ⟨p, 0, (C : ByteArray).data.toList⟩), (g9, ⟨p, 0, (B : ByteArray).data.toList⟩), (g8, ⟨p, 0, (A : ByteArray).data.toList⟩), (g7, ⟨1, 1, (⟨#[]⟩ : ByteArray).data.toList⟩), (g6, ⟨1, (K : Int), (⟨#[]⟩ : ByteArray).data.toList⟩), (g2, ⟨k, n, (t : ByteArray).data.toList⟩)] W) (by kernel_rfl) ?_ (fun hH => ?_)
    · rw [hWd]; exact hSd
    rw [hWd] at hH ⊢
    clear hWd hSd
    refine wpAnyH_take (i := 0) (v := ?_) rfl (by kernel_rfl) (by kernel_rfl) (by kernel_rfl) (fun _ _ _ h => h) (Or.inl ⟨by rfl, ?_⟩) hH ?_
    rotate_left
    · (intro W hSw; (try dsimp only at hSw); go_simp; try with_reducible rfl)
    try simp only [List.getElem_toArray, List.getElem_cons_zero, List.getElem_cons_succ, Act.put, List.setIfInBounds_toArray, List.set_cons_zero, List.set_cons_succ]
    refine wpAnyH_take (i := 1) (v := ?_) rfl (by kernel_rfl) (by kernel_rfl) (by kernel_rfl) (fun _ _ _ h => h) (Or.inl ⟨by rfl, ?_⟩) hH ?_
    rotate_left
    · (intro W hSw; (try dsimp only at hSw); obtain ⟨z00, z01, z02, z03, z04, z05⟩ := (AgS.get hSw (g := g11) (k := 1) (n := (j : Int) + 1) (t := ⟨#[]⟩) (List.mem_cons_self)).cells; go_simp; try with_reducible rfl)
    try simp only [List.getElem_toArray, List.getElem_cons_zero, List.getElem_cons_succ, Act.put, List.setIfInBounds_toArray, List.set_cons_zero, List.set_cons_succ]
    refine wpAnyH_take (i := 2) (v := ?_) rfl (by kernel_rfl) (by kernel_rfl) (by kernel_rfl) (fun _ _ _ h => h) (Or.inl ⟨by rfl, ?_⟩) hH ?_
    rotate_left
    · (intro W hSw; (try dsimp only at hSw); go_simp; try with_reducible rfl)
    try simp only [List.getElem_toArray, List.getElem_cons_zero, List.getElem_cons_succ, Act.put, List.setIfInBounds_toArray, List.set_cons_zero, List.set_cons_succ]
    refine wpAnyH_take (i := 3) (v := ?_) rfl (by kernel_rfl) (by kernel_rfl) (by kernel_rfl) (fun _ _ _ h => h) (Or.inl ⟨by rfl, ?_⟩) hH ?_
    rotate_left
    · (intro W hSw; (try dsimp only at hSw); go_simp; try with_reducible rfl)
    try simp only [List.getElem_toArray, List.getElem_cons_zero, List.getElem_cons_succ, Act.put, List.setIfInBounds_toArray, List.set_cons_zero, List.set_cons_succ]
    refine wpAnyH_take (i := 4) (v := ?_) rfl (by kernel_rfl) (by kernel_rfl) (by kernel_rfl) (fun _ _ _ h => h) (Or.inl ⟨by rfl, ?_⟩) hH ?_
    rotate_left
    · (intro W hSw; (try dsimp only at hSw); go_simp; try with_reducible rfl)
    try simp only [List.getElem_toArray, List.getElem_cons_zero, List.getElem_cons_succ, Act.put, List.setIfInBounds_toArray, List.set_cons_zero, List.set_cons_succ]
    refine wpAnyH_take (i := 5) (v := ?_) rfl (by kernel_rfl) (by kernel_rfl) (by kernel_rfl) (fun _ _ _ h => h) (Or.inl ⟨by rfl, ?_⟩) hH ?_
    rotate_left
    · (intro W hSw; (try dsimp only at hSw); obtain ⟨z00, z01, z02, z03, z04, z05⟩ := (AgS.get hSw (g := g11) (k := 1) (n := (j : Int) + 1) (t := ⟨#[]⟩) (List.mem_cons_self)).cells; go_simp; try with_reducible rfl)
    try simp only [List.getElem_toArray, List.getElem_cons_zero, List.getElem_cons_succ, Act.put, List.setIfInBounds_toArray, List.set_cons_zero, List.set_cons_succ]
    refine wpAnyH_take (i := 6) (v := ?_) rfl (by kernel_rfl) (by kernel_rfl) (by kernel_rfl) (fun _ _ _ h => h) (Or.inl ⟨by rfl, ?_⟩) hH ?_
    rotate_left
    · (intro W hSw; (try dsimp only at hSw); go_simp; try with_reducible rfl)
    try simp only [List.getElem_toArray, List.getElem_cons_zero, List.getElem_cons_succ, Act.put, List.setIfInBounds_toArray, List.set_cons_zero, List.set_cons_succ]
    refine wpAnyH_take (i := 7) (v := ?_) rfl (by kernel_rfl) (by kernel_rfl) (by kernel_rfl) (fun _ _ _ h => h) (Or.inl ⟨by rfl, ?_⟩) hH ?_
    rotate_left
    · (intro W hSw; (try dsimp only at hSw); go_simp; try with_reducible rfl)
    try simp only [List.getElem_toArray, List.getElem_cons_zero, List.getElem_cons_succ, Act.put, List.setIfInBounds_toArray, List.set_cons_zero, List.set_cons_succ]
    refine wpAnyH_take (i := 8) (v := ?_) rfl (by kernel_rfl) (by kernel_rfl) (by kernel_rfl) (fun _ _ _ h => h) (Or.inl ⟨by rfl, ?_⟩) hH ?_
    rotate_left
    · (intro W hSw; (try dsimp only at hSw); go_simp; try with_reducible rfl)
    try simp only [List.getElem_toArray, List.getElem_cons_zero, List.getElem_cons_succ, Act.put, List.setIfInBounds_toArray, List.set_cons_zero, List.set_cons_succ]
    refine wpAnyH_take (i := 9) (v := ?_) rfl (by kernel_rfl) (by kernel_rfl) (by kernel_rfl) (fun _ _ _ h => h) (Or.inl ⟨by rfl, ?_⟩) hH ?_
    rotate_left
    · (intro W hSw; (try dsimp only at hSw); go_simp; try with_reducible rfl)
    try simp only [List.getElem_toArray, List.getElem_cons_zero, List.getElem_cons_succ, Act.put, List.setIfInBounds_toArray, List.set_cons_zero, List.set_cons_succ]
    refine wpAnyH_take (i := 10) (v := ?_) rfl (by kernel_rfl) (by kernel_rfl) (by kernel_rfl) (fun _ _ _ h => h) (Or.inl ⟨by rfl, ?_⟩) hH ?_
    rotate_left
    · (intro W hSw; (try dsimp only at hSw); obtain ⟨z00, z01, z02, z03, z04, z05⟩ := (AgS.get hSw (g := g11) (k := 1) (n := (j : Int) + 1) (t := ⟨#[]⟩) (List.mem_cons_self)).cells; go_simp; try with_reducible rfl)
    try simp only [List.getElem_toArray, List.getElem_cons_zero, List.getElem_cons_succ, Act.put, List.setIfInBounds_toArray, List.set_cons_zero, List.set_cons_succ]
    refine wpAnyH_take (i := 11) (v := ?_) rfl (by kernel_rfl) (by kernel_rfl) (by kernel_rfl) (fun _ _ _ h => h) (Or.inl ⟨by rfl, ?_⟩) hH ?_
    rotate_left
    · (intro W hSw; (try dsimp only at hSw); go_simp; try with_reducible rfl)
    try simp only [List.getElem_toArray, List.getElem_cons_zero, List.getElem_cons_succ, Act.put, List.setIfInBounds_toArray, List.set_cons_zero, List.set_cons_succ]
    refine wpAnyH_take (i := 12) (v := ?_) rfl (by kernel_rfl) (by kernel_rfl) (by kernel_rfl) (fun _ _ _ h => h) (Or.inl ⟨by rfl, ?_⟩) hH ?_
    rotate_left
    · (intro W hSw; (try dsimp only at hSw); go_simp; try with_reducible rfl)
    try simp only [List.getElem_toArray, List.getElem_cons_zero, List.getElem_cons_succ, Act.put, List.setIfInBounds_toArray, List.set_cons_zero, List.set_cons_succ]
    refine wpAnyH_take (i := 13) (v := ?_) rfl (by kernel_rfl) (by kernel_rfl) (by kernel_rfl) (fun _ _ _ h => h) (Or.inl ⟨by rfl, ?_⟩) hH ?_
    rotate_left
    · (intro W hSw; (try dsimp only at hSw); go_simp; try with_reducible rfl)
    try simp only [List.getElem_toArray, List.getElem_cons_zero, List.getElem_cons_succ, Act.put, List.setIfInBounds_toArray, List.set_cons_zero, List.set_cons_succ]
    refine wpAnyH_take (i := 14) (v := ?_) rfl (by kernel_rfl) (by kernel_rfl) (by kernel_rfl) (fun _ _ _ h => h) (Or.inl ⟨by rfl, ?_⟩) hH ?_
    rotate_left
    · (intro W hSw; (try dsimp only at hSw); go_simp; try with_reducible rfl)
    try simp only [List.getElem_toArray, List.getElem_cons_zero, List.getElem_cons_succ, Act.put, List.setIfInBounds_toArray, List.set_cons_zero, List.set_cons_succ]
    refine wpAnyH_take (i := 15) (v := undef) rfl (by kernel_rfl) (by kernel_rfl) (by kernel_rfl) (fun _ _ _ h => h) (Or.inr ⟨by rfl, rfl⟩) hH ?_
    try simp only [List.getElem_toArray, List.getElem_cons_zero, List.getElem_cons_succ, Act.put, List.setIfInBounds_toArray, List.set_cons_zero, List.set_cons_succ]
    refine wpAnyH_take (i := 16) (v := undef) rfl (by kernel_rfl) (by kernel_rfl) (by kernel_rfl) (fun _ _ _ h => h) (Or.inr ⟨by rfl, rfl⟩) hH ?_
    try simp only [List.getElem_toArray, List.getElem_cons_zero, List.getElem_cons_succ, Act.put, List.setIfInBounds_toArray, List.set_cons_zero, List.set_cons_succ]
    refine wpAnyH_take (i := 17) (v := undef) rfl (by kernel_rfl) (by kernel_rfl) (by kernel_rfl) (fun _ _ _ h => h) (Or.inr ⟨by rfl, rfl⟩) hH ?_
    try simp only [List.getElem_toArray, List.getElem_cons_zero, List.getElem_cons_succ, Act.put, List.setIfInBounds_toArray, List.set_cons_zero, List.set_cons_succ]
    refine wpAnyH_take (i := 18) (v := ?_) rfl (by kernel_rfl) (by kernel_rfl) (by kernel_rfl) (fun _ _ _ h => h) (Or.inl ⟨by rfl, ?_⟩) hH ?_
    rotate_left
    · (intro W hSw; (try dsimp only at hSw); go_simp; try with_reducible rfl)
    try simp only [List.getElem_toArray, List.getElem_cons_zero, List.getElem_cons_succ, Act.put, List.setIfInBounds_toArray, List.set_cons_zero, List.set_cons_succ]
    refine wpAnyH_take (i := 19) (v := ?_) rfl (by kernel_rfl) (by kernel_rfl) (by kernel_rfl) (fun _ _ _ h => h) (Or.inl ⟨by rfl, ?_⟩) hH ?_
    rotate_left
    · (intro W hSw; (try dsimp only at hSw); go_simp; try with_reducible rfl)
    try simp only [List.getElem_toArray, List.getElem_cons_zero, List.getElem_cons_succ, Act.put, List.setIfInBounds_toArray, List.set_cons_zero, List.set_cons_succ]
    refine wpAnyH_take (i := 20) (v := ?_) rfl (by kernel_rfl) (by kernel_rfl) (by kernel_rfl) (fun _ _ _ h => h) (Or.inl ⟨by rfl, ?_⟩) hH ?_
    rotate_left
    · (intro W hSw; (try dsimp only at hSw); go_simp; try with_reducible rfl)
    try simp only [List.getElem_toArray, List.getElem_cons_zero, List.getElem_cons_succ, Act.put, List.setIfInBounds_toArray, List.set_cons_zero, List.set_cons_succ]
    refine wpAnyH_take (i := 21) (v := ?_) rfl (by kernel_rfl) (by kernel_rfl) (by kernel_rfl) (fun _ _ _ h => h) (Or.inl ⟨by rfl, ?_⟩) hH ?_
    rotate_left
    · (intro W hSw; (try dsimp only at hSw); obtain ⟨z00, z01, z02, z03, z04, z05⟩ := (AgS.get hSw (g := g2) (k := k) (n := n) (t := t) (List.mem_cons_of_mem _ (List.mem_cons_of_mem _ (List.mem_cons_of_mem _ (List.mem_cons_of_mem _ (List.mem_cons_of_mem _ (List.mem_cons_of_mem _ (List.mem_cons_self)))))))).cells; go_simp; try with_reducible rfl)
    try simp only [List.getElem_toArray, List.getElem_cons_zero, List.getElem_cons_succ, Act.put, List.setIfInBounds_toArray, List.set_cons_zero, List.set_cons_succ]
    refine wpAnyH_take (i := 22) (v := ?_) rfl (by kernel_rfl) (by kernel_rfl) (by kernel_rfl) (fun _ _ _ h => h) (Or.inl ⟨by rfl, ?_⟩) hH ?_
    rotate_left
    · (intro W hSw; (try dsimp only at hSw); obtain ⟨z00, z01, z02, z03, z04, z05⟩ := (AgS.get hSw (g := g9) (k := p) (n := 0) (t := B) (List.mem_cons_of_mem _ (List.mem_cons_of_mem _ (List.mem_cons_self)))).cells; go_simp; try with_reducible rfl)
    try simp only [List.getElem_toArray, List.getElem_cons_zero, List.getElem_cons_succ, Act.put, List.setIfInBounds_toArray, List.set_cons_zero, List.set_cons_succ]
    refine wpAnyH_take (i := 23) (v := ?_) rfl (by kernel_rfl) (by kernel_rfl) (by kernel_rfl) (fun _ _ _ h => h) (Or.inl ⟨by rfl, ?_⟩) hH ?_
    rotate_left
    · (intro W hSw; (try dsimp only at hSw); obtain ⟨z00, z01, z02, z03, z04, z05⟩ := (AgS.get hSw (g := g9) (k := p) (n := 0) (t := B) (List.mem_cons_of_mem _ (List.mem_cons_of_mem _ (List.mem_cons_self)))).cells; go_simp; try with_reducible rfl)
    try simp only [List.getElem_toArray, List.getElem_cons_zero, List.getElem_cons_succ, Act.put, List.setIfInBounds_toArray, List.set_cons_zero, List.set_cons_succ]
    refine wpAnyH_take (i := 27) (v := ?_) rfl (by kernel_rfl) (by kernel_rfl) (by kernel_rfl) (fun _ _ _ h => h) (Or.inl ⟨by rfl, ?_⟩) hH ?_
    rotate_left
    · (intro W hSw; (try dsimp only at hSw); go_simp; try with_reducible rfl)
    try simp only [List.getElem_toArray, List.getElem_cons_zero, List.getElem_cons_succ, Act.put, List.setIfInBounds_toArray, List.set_cons_zero, List.set_cons_succ]
    refine wpAnyH_take (i := 28) (v := ?_) rfl (by kernel_rfl) (by kernel_rfl) (by kernel_rfl) (fun _ _ _ h => h) (Or.inl ⟨by rfl, ?_⟩) hH ?_
    rotate_left
    · (intro W hSw; (try dsimp only at hSw); obtain ⟨z00, z01, z02, z03, z04, z05⟩ := (AgS.get hSw (g := g10) (k := p) (n := 0) (t := C) (List.mem_cons_of_mem _ (List.mem_cons_self))).cells; go_simp; try with_reducible rfl)
    try simp only [List.getElem_toArray, List.getElem_cons_zero, List.getElem_cons_succ, Act.put, List.setIfInBounds_toArray, List.set_cons_zero, List.set_cons_succ]
    refine wpAnyH_ready (rs := [24]) (by kernel_rfl) (by simp) ?_
    refine AllReadyH.cons rfl (fun KK hK => ?_) AllReadyH.nil
    go_simp
    refine hK.out _ _ ?_ (fun hH52 => ?_)
    · exact hH.alloc _
    clear hK KK
    try simp only [List.getElem_toArray, List.getElem_cons_zero, List.getElem_cons_succ, Act.put, List.setIfInBounds_toArray, List.set_cons_zero, List.set_cons_succ]
    have hV52 := vals_new3 Wd (k) (n) (t) (p) (0) (B) (p) (0) (B)
    obtain ⟨W52, hW52⟩ : ∃ W, World.alloc Wd (.cells #[.int .i64 k, .int .i64 n, .string t, .int .i64 p, .int .i64 0, .string B, .int .i64 p, .int .i64 0, .string B] 25) = W := ⟨_, rfl⟩
    rw [hW52] at hV52 hH52 ⊢
    obtain ⟨s52, hs52⟩ : ∃ g, Wd.heap.size = g := ⟨_, rfl⟩
    rw [hs52] at hV52 ⊢
    clear hW52 hs52
    refine wpAnyH_ready (rs := [25]) (by kernel_rfl) (by simp) ?_
    refine AllReadyH.cons rfl (fun KK hK => ?_) AllReadyH.nil
    go_simp
    go_at_call 19; refine (lcall_any ⟨#[114, 101, 112, 108, 97, 99, 101]⟩ _ 3 3 [⟨k, n, (t : ByteArray).data.toList⟩, ⟨p, 0, (B : ByteArray).data.toList⟩, ⟨p, 0, (B : ByteArray).data.toList⟩] W52 (hL.below hH52.2) (sz18 7 (by decide)) hV52 (sz18 3 (by decide)) (Nat.le_refl _) (inr3 hih.out inrz inrz) (2) (0) C 0 hrep).mono ?_; rintro e W53 ⟨rfl, hb53⟩
    refine hK.out _ _ ?_ (fun hH53 => ?_)
    · exact hH52.on hb53
    clear hK KK
    try simp only [List.getElem_toArray, List.getElem_cons_zero, List.getElem_cons_succ, Act.put, List.setIfInBounds_toArray, List.set_cons_zero, List.set_cons_succ]
    refine wpAnyH_take (i := 26) (v := ?_) rfl (by kernel_rfl) (by kernel_rfl) (by kernel_rfl) (fun _ _ _ h => h) (Or.inl ⟨by rfl, ?_⟩) hH53 ?_
    rotate_left
    · (intro W hSw; (try dsimp only at hSw); have hf : ∀ W : World, (Instr.field 25 (.agg #[.int .i64 2, .int .i64 0, .string C]) 2).run Tryz.prog W = .ok (.string C) W := fun W => (by kernel_rfl); go_simp; try with_reducible rfl)
    try simp only [List.getElem_toArray, List.getElem_cons_zero, List.getElem_cons_succ, Act.put, List.setIfInBounds_toArray, List.set_cons_zero, List.set_cons_succ]
    refine wpAnyH_take (i := 29) (v := ?_) rfl (by kernel_rfl) (by kernel_rfl) (by kernel_rfl) (fun _ _ _ h => h) (Or.inl ⟨by rfl, ?_⟩) hH53 ?_
    rotate_left
    · (intro W hSw; (try dsimp only at hSw); go_simp; try with_reducible rfl)
    try simp only [List.getElem_toArray, List.getElem_cons_zero, List.getElem_cons_succ, Act.put, List.setIfInBounds_toArray, List.set_cons_zero, List.set_cons_succ]
    refine wpAnyH_take (i := 30) (v := ?_) rfl (by kernel_rfl) (by kernel_rfl) (by kernel_rfl) (fun _ _ _ h => h) (Or.inl ⟨by rfl, ?_⟩) hH53 ?_
    rotate_left
    · (intro W hSw; (try dsimp only at hSw); go_simp; try with_reducible rfl)
    try simp only [List.getElem_toArray, List.getElem_cons_zero, List.getElem_cons_succ, Act.put, List.setIfInBounds_toArray, List.set_cons_zero, List.set_cons_succ]
    refine wpAnyH_done (by kernel_rfl) ?_ _
    go_wp2_with fail
    go_meet
    exact ⟨rfl, hH53⟩
  case rest =>
  obtain ⟨rfl, hA14⟩ := hcut
  clear hA12 hin hrep o1 o2 o3 q1 q2
  obtain ⟨x0, x1, x2, _, _, _⟩ := (AgS.get hA14 (g := g2) (k := k) (n := n) (t := t) (List.mem_cons_of_mem _ (List.mem_cons_of_mem _ (List.mem_cons_of_mem _ (List.mem_cons_of_mem _ (List.mem_cons_of_mem _ (List.mem_cons_of_mem _ (List.mem_cons_self)))))))).cells
  have fin : ∀ {W W' : World}, AgS w [(g11, ⟨1, (j : Int) + 1, (⟨#[]⟩ : ByteArray).data.toList⟩), (g10, ⟨p, 0, (C : ByteArray).data.toList⟩), (g9, ⟨p, 0, (B : ByteArray).data.toList⟩), (g8, ⟨p, 0, (A : ByteArray).data.toList⟩), (g7, ⟨1, 1, (⟨#[]⟩ : ByteArray).data.toList⟩), (g6, ⟨1, (K : Int), (⟨#[]⟩ : ByteArray).data.toList⟩), (g2, ⟨k, n, (t : ByteArray).data.toList⟩)] W → Below W.heap.size W W' → Below w.heap.size w W' := fun h hb => (h.on hb).2
  go_upto_region 16 with (go_at_call 19; refine (lcall_any ⟨#[113, 117, 111, 116, 101]⟩ _ 1 1 [⟨k, n, (t : ByteArray).data.toList⟩] _ ((hL.below hA14.2).alloc _) (sz18 5 (by decide)) (vals_new wc (k) (n) (t)) (sz18 1 (by decide)) (Nat.le_refl _) (inr1 hih.out) (kq) (0) q 0 hq).mono ?_; rintro e w15 ⟨rfl, hb15⟩)
  have hA15 := ((hA14.alloc _).on hb15).new kq 0 q
  obtain ⟨g12, hg12⟩ : ∃ g, w15.heap.size = g := ⟨_, rfl⟩
  obtain ⟨W16, hW16⟩ : ∃ W, w15.alloc (.cells #[.int .i64 kq, .int .i64 0, .string q] 25) = W := ⟨_, rfl⟩
  rw [hW16, hg12] at hA15
  rw [hW16, hg12]
  clear hW16 hg12 hb15 hA14 x0 x1 x2 fin
  obtain ⟨y0, y1, y2, _, _, _⟩ := (AgS.get hA15 (g := g12) (k := kq) (n := 0) (t := q) (List.mem_cons_self)).cells
  go_upto_region 17 with (go_at_call 21; refine (vread18 q _ hrd (hL.below hA15.2)).mono ?_; rintro e w16 ⟨rfl, hb16⟩)
  have hA16 := (hA15.on hb16).new k1 n1 t1
  obtain ⟨x0, x1, x2, _, _, _⟩ := (AgS.get hA16 (g := g2) (k := k) (n := n) (t := t) (List.mem_cons_of_mem _ (List.mem_cons_of_mem _ (List.mem_cons_of_mem _ (List.mem_cons_of_mem _ (List.mem_cons_of_mem _ (List.mem_cons_of_mem _ (List.mem_cons_of_mem _ (List.mem_cons_of_mem _ (List.mem_cons_self)))))))))).cells
  obtain ⟨u0, u1, u2, _, _, _⟩ := (AgS.get hA16 (g := g12) (k := kq) (n := 0) (t := q) (List.mem_cons_of_mem _ (List.mem_cons_self))).cells
  obtain ⟨r0, r1, r2, _, _, _⟩ := (AgS.get hA16 (k := k1) (n := n1) (t := t1) (List.mem_cons_self)).cells
  rcases hfin with rfl | ⟨h1, rfl, rfl, rfl, rfl⟩
  · go_wp2
    go_ret
    exact ⟨rfl, hA16.2⟩
  · have b5 : (kq == 0) = false := by simpa using h1
    go_wp2
    go_ret
    exact ⟨rfl, hA16.2⟩

end Go.Proofs.YtmkgalcojoeniaaGreatDoor
