/- Walks: the library's unstable sort, at rows that are held: the partial insertion. -/
import Derived.Test.YtdapnemcdgjeeaaGreatDoorPdqA
import Derived.Deep.CutBlock
import Derived.Deep.LoopGhost
set_option maxRecDepth 100000
set_option linter.unusedVariables false
set_option linter.unusedSimpArgs false
namespace Go.Proofs.YtdapnemcdgjeeaaGreatDoor.Pdq
open Go.RowKit
open Go.Sort (swp scanSorted shiftDown shiftUp partialIns partialInsertionSort)

theorem scan_go (lt : Nat → Nat → Bool) (b i : Nat) (d : Array Nat) (h : i < b) (hl : lt d[i]! d[i - 1]! = false) : scanSorted lt d b i = scanSorted lt d b (i + 1) := by
  conv => lhs; rw [scanSorted]
  rw [if_pos (by simp [h, hl])]
theorem scan_stop (lt : Nat → Nat → Bool) (b i : Nat) (d : Array Nat) (h : ¬ i < b ∨ lt d[i]! d[i - 1]! = true) : scanSorted lt d b i = i := by
  rw [scanSorted, if_neg]
  intro hc
  simp only [Bool.and_eq_true, decide_eq_true_eq, Bool.not_eq_true'] at hc
  rcases h with h | h
  · exact h hc.1
  · rw [hc.2] at h; cases h
theorem down_go (lt : Nat → Nat → Bool) (j : Nat) (d : Array Nat) (h : 0 < j) (hl : lt d[j]! d[j - 1]! = true) : shiftDown lt j d = shiftDown lt (j - 1) (swp d j (j - 1)) := by
  obtain ⟨k, rfl⟩ : ∃ k, j = k + 1 := ⟨j - 1, by omega⟩
  simp only [Nat.add_sub_cancel] at hl ⊢
  conv => lhs; unfold shiftDown
  rw [if_neg (by simp [hl])]
theorem down_stop (lt : Nat → Nat → Bool) (j : Nat) (d : Array Nat) (h : ¬ 0 < j ∨ lt d[j]! d[j - 1]! = false) : shiftDown lt j d = d := by
  cases j with
  | zero => rfl
  | succ k =>
    simp only [Nat.add_sub_cancel] at h
    unfold shiftDown
    rcases h with h | h
    · omega
    · rw [if_pos (by simp [h])]
theorem up_go (lt : Nat → Nat → Bool) (b j : Nat) (d : Array Nat) (h : j < b) (hl : lt d[j]! d[j - 1]! = true) : shiftUp lt b j d = shiftUp lt b (j + 1) (swp d j (j - 1)) := by
  conv => lhs; rw [shiftUp]
  rw [if_pos h, if_neg (by simp [hl])]
theorem up_stop (lt : Nat → Nat → Bool) (b j : Nat) (d : Array Nat) (h : ¬ j < b ∨ lt d[j]! d[j - 1]! = false) : shiftUp lt b j d = d := by
  rw [shiftUp]
  by_cases hj : j < b
  · rw [if_pos hj]
    rcases h with h | h
    · exact absurd hj h
    · rw [if_pos (by simp [h])]
  · rw [if_neg hj]
def sDn (lt : Nat → Nat → Bool) (a i : Nat) (d : Array Nat) : Array Nat := if i - a ≥ 2 then shiftDown lt (i - 1) d else d
def sUp (lt : Nat → Nat → Bool) (b i : Nat) (d : Array Nat) : Array Nat := if b - i ≥ 2 then shiftUp lt b (i + 1) d else d
theorem pins_step (lt : Nat → Nat → Bool) (a b s i I : Nat) (d : Array Nat) (h : scanSorted lt d b i = I) : partialIns lt a b (s + 1) i d = if I = b then (d, true) else if b - a < 50 then (d, false) else partialIns lt a b s I (sUp lt b I (sDn lt a I (swp d I (I - 1)))) := by
  subst h
  rfl
set_option maxHeartbeats 8000000 in
theorem pins_is (rv : Nat → Value) (lt : Nat → Nat → Bool) (W0 : World) (B b N M c : Nat) (d0 : Array Nat) (W : World) (lo hi : Nat) (hC : CmpH rv M lt W0 B b) (hR : RH rv W0 B N M d0 W) (hab : lo < hi) (hb : hi ≤ N) (hN : N ≤ 4194304) :
    Calls Tryz.prog 98 #[.slice (some ⟨B, 0, none⟩) N c, .int .i64 (lo : Int), .int .i64 (hi : Int), .func (.func 42) #[.pointer (some ⟨b, 0, none⟩)] #[]] W fun e W' => e = .returned (.bool (partialInsertionSort lt d0 lo hi).2) ∧ RH rv W0 B N M (partialInsertionSort lt d0 lo hi).1 W' := by
  obtain ⟨R, hRR⟩ : ∃ R, partialInsertionSort lt d0 lo hi = R := ⟨_, rfl⟩
  rw [hRR]
  replace hRR : Hid (partialIns lt lo hi 5 (lo + 1) d0 = R) := Lib.hid hRR
  obtain ⟨L, hL⟩ : ∃ L, L = hi - lo := ⟨_, rfl⟩
  have hL1 : (hi : Int) - (lo : Int) = (L : Int) := by omega
  replace hL := Lib.hid hL
  go_enter Tryz.func98, Tryz.ntmps98
  go_wp2_with fail
  go_loopg [9, 10] 5 (fun k s9 s10 wr => ∃ (i cn : Nat) (g : Array Nat), s9 = .int .i64 (i : Int) ∧ s10 = .int .i64 (cn : Int) ∧ cn + k = 5 ∧ lo < i ∧ i ≤ hi ∧ RH rv W0 B N M g wr ∧ Hid (partialIns lt lo hi k i g = R))
  case atStart => exact ⟨lo + 1, 0, d0, by first | rfl | go_num, by first | rfl | go_num, rfl, by omega, by omega, hR, hRR⟩
  case round =>
  clear hR hRR
  obtain ⟨ia, cn, g, rfl, rfl, hck, hli, hih, hq, hQ⟩ := hrel
  cases gk with
  | zero =>
    have hG : decide ((cn : Int) < 5) = false := by simp; omega
    have hfin : R = (g, false) := hQ.out.symm
    subst hfin
    clear hQ
    go_wp2_with fail
    refine bodyPost_ret (v := .bool false) (by simp only [results, Tryz.results98]; go_simp) rfl ?_
    exact ⟨rfl, hq⟩
  | succ s =>
  have hG : decide ((cn : Int) < 5) = true := by simp; omega
  obtain ⟨I, hI⟩ : ∃ I, scanSorted lt g hi ia = I := ⟨_, rfl⟩
  have hQ2 := hQ.out
  rw [pins_step lt lo hi s ia I g hI] at hQ2
  replace hQ2 := Lib.hid hQ2
  replace hI := Lib.hid hI
  clear hQ
  go_upto_block 2 with fail
  go_cut [9] from 19 to 140 (fun v W' => v = .int .i64 (I : Int) ∧ ia ≤ I ∧ I ≤ hi ∧ RH rv W0 B N M g W')
  case first =>
    clear hQ2
    go_wp2_with fail
    go_loopw [9] (fun iv wr => ∃ i : Nat, iv = .int .i64 (i : Int) ∧ ia ≤ i ∧ i ≤ hi ∧ RH rv W0 B N M g wr ∧ Hid (scanSorted lt g hi i = I)) (fun iv _ => hi - (intOf iv).toNat)
    case atStart => exact ⟨ia, rfl, Nat.le_refl _, hih, hq, hI⟩
    case round =>
      clear hq hI
      obtain ⟨i, rfl, hii, hih2, hq, hI⟩ := hrel
      by_cases hij : i < hi
      · have hG2 : decide ((i : Int) < (hi : Int)) = true := by simp; omega
        obtain ⟨a0, a1⟩ := hq.cell (i) (by omega)
        obtain ⟨b0, b1⟩ := hq.cell (i - 1) (by omega)
        have mx := hq.memb (i) (by omega)
        have my := hq.memb (i - 1) (by omega)
        obtain ⟨p0, n0, q0, h0⟩ := hq.sl g[i]!
        obtain ⟨p1, n1, q1, h1⟩ := hq.sl g[i - 1]!
        obtain ⟨x, hx⟩ : ∃ x, g[i]! = x := ⟨_, rfl⟩
        obtain ⟨y, hy⟩ : ∃ y, g[i - 1]! = y := ⟨_, rfl⟩
        obtain ⟨xi, hxi⟩ : ∃ z, (x : Int) = z := ⟨_, rfl⟩
        obtain ⟨yi, hyi⟩ : ∃ z, (y : Int) = z := ⟨_, rfl⟩
        rw [hx] at a0 a1 mx h0
        rw [hy] at b0 b1 my h1
        rw [h0] at a0
        rw [h1] at b0
        rw [hxi] at a1
        rw [hyi] at b1
        replace h0 := Lib.hid h0
        replace h1 := Lib.hid h1
        replace hx := Lib.hid hx
        replace hy := Lib.hid hy
        replace hxi := Lib.hid hxi
        replace hyi := Lib.hid hyi
        have i0 : (0 : Int) ≤ (i : Int) := by omega
        have l0 : (i : Int) < (N : Int) := by omega
        have e0 : ((i : Int)).toNat = i := by omega
        have i1 : (0 : Int) ≤ (i : Int) - 1 := by omega
        have l1 : (i : Int) - 1 < (N : Int) := by omega
        have e1 : ((i : Int) - 1).toNat = i - 1 := by omega
        have w20 : IntKind.i64.wrap ((i : Int) - 1) = (i : Int) - 1 := IntWalk.i64_in _ (by omega)
        have i4 : (1 : Int) ≤ (i : Int) := by omega
        have i5 : 1 ≤ i := by omega
        have i6 : 0 < i := by omega
        have i7 : i - 1 < N := by omega
        have H0 : wr.cell? ⟨B, (i) * 2, none⟩ = some (.slice p0 n0 q0) ∧ wr.cell? ⟨B, (i) * 2 + 1, none⟩ = some (.int .i64 xi) ∧ wr.cell? ⟨B, (i - 1) * 2, none⟩ = some (.slice p1 n1 q1) ∧ wr.cell? ⟨B, (i - 1) * 2 + 1, none⟩ = some (.int .i64 yi) ∧ RH rv W0 B N M g wr := ⟨a0, a1, b0, b1, hq⟩
        clear hq a0 a1 b0 b1
        cases hl : lt x y with
        | false =>
          have hfin : scanSorted lt g hi (i + 1) = I := by rw [← scan_go lt hi i g hij (by rw [hx.out, hy.out]; exact hl)]; exact hI.out
          replace hfin := Lib.hid hfin
          replace hl := Lib.hid hl
          clear hI
          go_wp2_with fail
          go_region_held3 (fun W => W.cell? ⟨B, (i) * 2, none⟩ = some (.slice p0 n0 q0) ∧ W.cell? ⟨B, (i) * 2 + 1, none⟩ = some (.int .i64 xi) ∧ W.cell? ⟨B, (i - 1) * 2, none⟩ = some (.slice p1 n1 q1) ∧ W.cell? ⟨B, (i - 1) * 2 + 1, none⟩ = some (.int .i64 yi) ∧ RH rv W0 B N M g W) (first | assumption | exact keepF (by assumption) (by assumption) | exact keepF0 (by assumption)) (first
            | (go_at_call 42; refine (hC.at (by assumption) mx my h0.out h1.out hxi.out hyi.out hl.out).mono ?_; rintro e w3 ⟨cc, rfl, hd, hb3⟩))
          rename_i hh
          obtain ⟨k0, k1, k2, k3, hq2⟩ := hh
          go_wp2
          go_roundw
          case rel => exact ⟨i + 1, by first | rfl | go_num, by omega, by omega, hq2, hfin⟩
          case measure => simp [intOf]; omega
        | true =>
          have hfin : I = i := by rw [← hI.out]; exact scan_stop lt hi i g (.inr (by rw [hx.out, hy.out]; exact hl))
          subst hfin
          replace hl := Lib.hid hl
          clear hI
          go_wp2_with fail
          go_region_held3 (fun W => W.cell? ⟨B, (I) * 2, none⟩ = some (.slice p0 n0 q0) ∧ W.cell? ⟨B, (I) * 2 + 1, none⟩ = some (.int .i64 xi) ∧ W.cell? ⟨B, (I - 1) * 2, none⟩ = some (.slice p1 n1 q1) ∧ W.cell? ⟨B, (I - 1) * 2 + 1, none⟩ = some (.int .i64 yi) ∧ RH rv W0 B N M g W) (first | assumption | exact keepF (by assumption) (by assumption) | exact keepF0 (by assumption)) (first
            | (go_at_call 42; refine (hC.at (by assumption) mx my h0.out h1.out hxi.out hyi.out hl.out).mono ?_; rintro e w3 ⟨cc, rfl, hd, hb3⟩))
          rename_i hh
          obtain ⟨k0, k1, k2, k3, hq2⟩ := hh
          go_wp2_with fail
          go_meet
          exact ⟨rfl, hii, hih2, hq2⟩
      · have hG2 : decide ((i : Int) < (hi : Int)) = false := by simp; omega
        have hfin : I = i := by rw [← hI.out]; exact scan_stop lt hi i g (.inl hij)
        subst hfin
        clear hI
        go_wp2_with fail
        go_quiet (fail)
        go_wp2_with fail
        go_meet
        exact ⟨rfl, hii, hih2, hq.below (below_drewN (Below.refl _ _) _)⟩
  case rest =>
  clear hq hI
  obtain ⟨rfl, hiI, hIh, hq⟩ := hcut
  by_cases hIe : I = hi
  · have hE : ((I : Int) == (hi : Int)) = true := by simp; omega
    have hfin : R = (g, true) := by rw [← hQ2.out, if_pos hIe]
    subst hfin
    clear hQ2
    replace hIe := Lib.hid hIe
    go_wp2_with fail
    refine bodyPost_ret (v := .bool true) (by simp only [results, Tryz.results98]; go_simp) rfl ?_
    exact ⟨rfl, hq⟩
  have hE : ((I : Int) == (hi : Int)) = false := by simp; omega
  by_cases h50 : L < 50
  · have h5 : decide ((L : Int) < 50) = true := by simp; omega
    have hfin : R = (g, false) := by rw [← hQ2.out, if_neg hIe, if_pos (by rw [← hL.out]; exact h50)]
    subst hfin
    clear hQ2
    go_wp2_with fail
    refine bodyPost_ret (v := .bool false) (by simp only [results, Tryz.results98]; go_simp) rfl ?_
    exact ⟨rfl, hq⟩
  have h5 : decide ((L : Int) < 50) = false := by simp; omega
  have hQ3 : partialIns lt lo hi s I (sUp lt hi I (sDn lt lo I (swp g I (I - 1)))) = R := by rw [← hQ2.out, if_neg hIe, if_neg (by rw [← hL.out]; exact h50)]
  replace hQ3 := Lib.hid hQ3
  clear hQ2
  have hII : ((I - 1 : Nat) : Int) = (I : Int) - 1 := by omega
  replace hII := Lib.hid hII
  have w70 : IntKind.i64.wrap ((I : Int) - 1) = (I : Int) - 1 := IntWalk.i64_in _ (by omega)
  go_upto_region 11 with fail
  go_cut [] from 46 to 61 (fun W' => RH rv W0 B N M (swp g I (I - 1)) W')
  case first =>
    obtain ⟨a0, a1⟩ := hq.cell (I) (by omega)
    obtain ⟨b0, b1⟩ := hq.cell ((I - 1)) (by omega)
    have mx := hq.memb (I) (by omega)
    have my := hq.memb ((I - 1)) (by omega)
    obtain ⟨p0, n0, q0, h0⟩ := hq.sl g[I]!
    obtain ⟨p1, n1, q1, h1⟩ := hq.sl g[(I - 1)]!
    obtain ⟨x, hx⟩ : ∃ x, g[I]! = x := ⟨_, rfl⟩
    obtain ⟨y, hy⟩ : ∃ y, g[(I - 1)]! = y := ⟨_, rfl⟩
    obtain ⟨xi, hxi⟩ : ∃ z, (x : Int) = z := ⟨_, rfl⟩
    obtain ⟨yi, hyi⟩ : ∃ z, (y : Int) = z := ⟨_, rfl⟩
    rw [hx] at a0 a1 mx h0
    rw [hy] at b0 b1 my h1
    rw [h0] at a0
    rw [h1] at b0
    rw [hxi] at a1
    rw [hyi] at b1
    replace h0 := Lib.hid h0
    replace h1 := Lib.hid h1
    replace hx := Lib.hid hx
    replace hy := Lib.hid hy
    replace hxi := Lib.hid hxi
    replace hyi := Lib.hid hyi
    have i0 : (0 : Int) ≤ (I : Int) := by omega
    have l0 : (I : Int) < (N : Int) := by omega
    have e0 : ((I : Int)).toNat = I := by omega
    have i1 : (0 : Int) ≤ (I : Int) - 1 := by omega
    have l1 : (I : Int) - 1 < (N : Int) := by omega
    have e1 : ((I : Int) - 1).toNat = (I - 1) := by omega
    have f0 := hq.free ((I) * 2)
    have f1 := hq.free ((I) * 2 + 1)
    have f2 := hq.free (((I - 1)) * 2)
    have f3 := hq.free (((I - 1)) * 2 + 1)
    have hsw := hq.drew.swap (i := I) (j := (I - 1)) (by omega) (by omega)
    rw [hx.out, hy.out, h0.out, h1.out, hxi.out, hyi.out] at hsw
    replace hsw := Lib.hid hsw
    clear hq
    go_wp2_with fail
    go_region
    go_wp2_with fail
    go_meet
    exact hsw.out

  case rest =>
  clear hq
  have hq := hcut
  clear hcut
  generalize swp g I (I - 1) = g1 at hq hQ3
  obtain ⟨D, hD⟩ : ∃ D, D = I - lo := ⟨_, rfl⟩
  have hD1 : (I : Int) - (lo : Int) = (D : Int) := by omega
  replace hD := Lib.hid hD
  obtain ⟨bD, hbD⟩ : ∃ bD, decide ((D : Int) ≥ 2) = bD := ⟨_, rfl⟩
  go_upto_if 65 with fail
  go_cut [] from 62 to 100 (fun W' => RH rv W0 B N M (sDn lt lo I g1) W')
  case first =>
    clear hQ3
    cases bD with
    | true =>
      have h2 : 2 ≤ D := by have := of_decide_eq_true hbD; omega
      replace hbD := Lib.hid hbD
      have hS : sDn lt lo I g1 = shiftDown lt (I - 1) g1 := by unfold sDn; rw [if_pos (by rw [← hD.out]; exact h2)]
      obtain ⟨R1, hR1⟩ : ∃ R1, shiftDown lt (I - 1) g1 = R1 := ⟨_, rfl⟩
      rw [hR1] at hS
      replace hR1 := Lib.hid hR1
      replace hS := Lib.hid hS
      go_wp2_with fail
      go_loopg [11] I (fun k jv wr => ∃ (j : Nat) (g : Array Nat), jv = .int .i64 (j : Int) ∧ j < I ∧ j ≤ k ∧ RH rv W0 B N M g wr ∧ Hid (shiftDown lt j g = R1))
      case atStart => exact ⟨I - 1, g1, by rw [hII.out], by omega, by omega, hq, hR1⟩
      case round =>
        clear hq hR1
        obtain ⟨j, g, rfl, hji, hgk, hq, hQ⟩ := hrel
        by_cases hja : 0 < j
        · have hG3 : decide ((j : Int) ≥ 1) = true := by simp; omega
          obtain ⟨a0, a1⟩ := hq.cell (j) (by omega)
          obtain ⟨b0, b1⟩ := hq.cell (j - 1) (by omega)
          have mx := hq.memb (j) (by omega)
          have my := hq.memb (j - 1) (by omega)
          obtain ⟨p0, n0, q0, h0⟩ := hq.sl g[j]!
          obtain ⟨p1, n1, q1, h1⟩ := hq.sl g[j - 1]!
          obtain ⟨x, hx⟩ : ∃ x, g[j]! = x := ⟨_, rfl⟩
          obtain ⟨y, hy⟩ : ∃ y, g[j - 1]! = y := ⟨_, rfl⟩
          obtain ⟨xi, hxi⟩ : ∃ z, (x : Int) = z := ⟨_, rfl⟩
          obtain ⟨yi, hyi⟩ : ∃ z, (y : Int) = z := ⟨_, rfl⟩
          rw [hx] at a0 a1 mx h0
          rw [hy] at b0 b1 my h1
          rw [h0] at a0
          rw [h1] at b0
          rw [hxi] at a1
          rw [hyi] at b1
          replace h0 := Lib.hid h0
          replace h1 := Lib.hid h1
          replace hx := Lib.hid hx
          replace hy := Lib.hid hy
          replace hxi := Lib.hid hxi
          replace hyi := Lib.hid hyi
          have i0 : (0 : Int) ≤ (j : Int) := by omega
          have l0 : (j : Int) < (N : Int) := by omega
          have e0 : ((j : Int)).toNat = j := by omega
          have i1 : (0 : Int) ≤ (j : Int) - 1 := by omega
          have l1 : (j : Int) - 1 < (N : Int) := by omega
          have e1 : ((j : Int) - 1).toNat = j - 1 := by omega
          have w20 : IntKind.i64.wrap ((j : Int) - 1) = (j : Int) - 1 := IntWalk.i64_in _ (by omega)
          have i4 : (1 : Int) ≤ (j : Int) := by omega
          have i5 : 1 ≤ j := by omega
          have i6 : 0 < j := by omega
          have i7 : j - 1 < N := by omega
          have H0 : wr.cell? ⟨B, (j) * 2, none⟩ = some (.slice p0 n0 q0) ∧ wr.cell? ⟨B, (j) * 2 + 1, none⟩ = some (.int .i64 xi) ∧ wr.cell? ⟨B, (j - 1) * 2, none⟩ = some (.slice p1 n1 q1) ∧ wr.cell? ⟨B, (j - 1) * 2 + 1, none⟩ = some (.int .i64 yi) ∧ RH rv W0 B N M g wr := ⟨a0, a1, b0, b1, hq⟩
          clear hq a0 a1 b0 b1
          cases hl : lt x y with
          | true =>
            have hfin : shiftDown lt (j - 1) (swp g j (j - 1)) = R1 := by rw [← down_go lt j g hja (by rw [hx.out, hy.out]; exact hl)]; exact hQ.out
            replace hfin := Lib.hid hfin
            replace hl := Lib.hid hl
            have jj : ((j - 1 : Nat) : Int) = (j : Int) - 1 := by omega
            replace jj := Lib.hid jj
            clear hQ
            go_wp2_with fail
            go_region_held3 (fun W => W.cell? ⟨B, (j) * 2, none⟩ = some (.slice p0 n0 q0) ∧ W.cell? ⟨B, (j) * 2 + 1, none⟩ = some (.int .i64 xi) ∧ W.cell? ⟨B, (j - 1) * 2, none⟩ = some (.slice p1 n1 q1) ∧ W.cell? ⟨B, (j - 1) * 2 + 1, none⟩ = some (.int .i64 yi) ∧ RH rv W0 B N M g W) (first | assumption | exact keepF (by assumption) (by assumption) | exact keepF0 (by assumption)) (first
              | (go_at_call 42; refine (hC.at (by assumption) mx my h0.out h1.out hxi.out hyi.out hl.out).mono ?_; rintro e w3 ⟨cc, rfl, hd, hb3⟩))
            rename_i hh
            obtain ⟨k0, k1, k2, k3, hq2⟩ := hh
            have f0 := hq2.free ((j) * 2)
            have f1 := hq2.free ((j) * 2 + 1)
            have f2 := hq2.free ((j - 1) * 2)
            have f3 := hq2.free ((j - 1) * 2 + 1)
            have hsw := hq2.drew.swap (i := j) (j := j - 1) (by omega) (by omega)
            rw [hx.out, hy.out, h0.out, h1.out, hxi.out, hyi.out] at hsw
            replace hsw := Lib.hid hsw
            clear hq2
            go_wp2_with fail
            go_region
            go_wp2
            go_roundg (j - 1)
            case measure => omega
            case rel => exact ⟨j - 1, _, by rw [jj.out], by omega, Nat.le_refl _, hsw.out, hfin⟩
          | false =>
            have hfin : g = R1 := by rw [← hQ.out]; exact (down_stop lt j g (.inr (by rw [hx.out, hy.out]; exact hl))).symm
            subst hfin
            replace hl := Lib.hid hl
            clear hQ
            go_wp2_with fail
            go_region_held3 (fun W => W.cell? ⟨B, (j) * 2, none⟩ = some (.slice p0 n0 q0) ∧ W.cell? ⟨B, (j) * 2 + 1, none⟩ = some (.int .i64 xi) ∧ W.cell? ⟨B, (j - 1) * 2, none⟩ = some (.slice p1 n1 q1) ∧ W.cell? ⟨B, (j - 1) * 2 + 1, none⟩ = some (.int .i64 yi) ∧ RH rv W0 B N M g W) (first | assumption | exact keepF (by assumption) (by assumption) | exact keepF0 (by assumption)) (first
              | (go_at_call 42; refine (hC.at (by assumption) mx my h0.out h1.out hxi.out hyi.out hl.out).mono ?_; rintro e w3 ⟨cc, rfl, hd, hb3⟩))
            rename_i hh
            obtain ⟨k0, k1, k2, k3, hq2⟩ := hh
            go_wp2_with fail
            go_meet
            rw [hS.out]; exact hq2
        · have hG3 : decide ((j : Int) ≥ 1) = false := by simp; omega
          have hfin : g = R1 := by rw [← hQ.out]; exact (down_stop lt j g (.inl hja)).symm
          subst hfin
          clear hQ
          go_wp2_with fail
          go_meet
          rw [hS.out]; exact hq
    | false =>
      have h2 : ¬ 2 ≤ D := by have := of_decide_eq_false hbD; omega
      replace hbD := Lib.hid hbD
      have hS : sDn lt lo I g1 = g1 := by unfold sDn; rw [if_neg (by rw [← hD.out]; exact h2)]
      replace hS := Lib.hid hS
      go_wp2_with fail
      go_meet
      rw [hS.out]; exact hq
  case rest =>
  clear hq hD hD1 hbD
  have hq := hcut
  clear hcut
  generalize sDn lt lo I g1 = g2 at hq hQ3
  obtain ⟨E, hEd⟩ : ∃ E, E = hi - I := ⟨_, rfl⟩
  have hE1 : (hi : Int) - (I : Int) = (E : Int) := by omega
  replace hEd := Lib.hid hEd
  by_cases h2 : 2 ≤ E
  · have hG2 : decide ((E : Int) ≥ 2) = true := by simp; omega
    have hS : sUp lt hi I g2 = shiftUp lt hi (I + 1) g2 := by unfold sUp; rw [if_pos (by rw [← hEd.out]; exact h2)]
    rw [hS] at hQ3
    obtain ⟨R2, hR2⟩ : ∃ R2, shiftUp lt hi (I + 1) g2 = R2 := ⟨_, rfl⟩
    rw [hR2] at hQ3
    replace hR2 := Lib.hid hR2
    clear hS
    go_wp2_with fail
    go_loopg [12] hi (fun k jv wr => ∃ (j : Nat) (g : Array Nat), jv = .int .i64 (j : Int) ∧ I < j ∧ j ≤ hi ∧ hi - j ≤ k ∧ RH rv W0 B N M g wr ∧ Hid (shiftUp lt hi j g = R2))
    case atStart => exact ⟨I + 1, g2, by first | rfl | go_num, by omega, by omega, by omega, hq, hR2⟩
    case round =>
      clear hq hR2
      obtain ⟨j, g, rfl, hij, hjh, hgk, hq, hQ⟩ := hrel
      by_cases hja : j < hi
      · have hG3 : decide ((j : Int) < (hi : Int)) = true := by simp; omega
        obtain ⟨a0, a1⟩ := hq.cell (j) (by omega)
        obtain ⟨b0, b1⟩ := hq.cell (j - 1) (by omega)
        have mx := hq.memb (j) (by omega)
        have my := hq.memb (j - 1) (by omega)
        obtain ⟨p0, n0, q0, h0⟩ := hq.sl g[j]!
        obtain ⟨p1, n1, q1, h1⟩ := hq.sl g[j - 1]!
        obtain ⟨x, hx⟩ : ∃ x, g[j]! = x := ⟨_, rfl⟩
        obtain ⟨y, hy⟩ : ∃ y, g[j - 1]! = y := ⟨_, rfl⟩
        obtain ⟨xi, hxi⟩ : ∃ z, (x : Int) = z := ⟨_, rfl⟩
        obtain ⟨yi, hyi⟩ : ∃ z, (y : Int) = z := ⟨_, rfl⟩
        rw [hx] at a0 a1 mx h0
        rw [hy] at b0 b1 my h1
        rw [h0] at a0
        rw [h1] at b0
        rw [hxi] at a1
        rw [hyi] at b1
        replace h0 := Lib.hid h0
        replace h1 := Lib.hid h1
        replace hx := Lib.hid hx
        replace hy := Lib.hid hy
        replace hxi := Lib.hid hxi
        replace hyi := Lib.hid hyi
        have i0 : (0 : Int) ≤ (j : Int) := by omega
        have l0 : (j : Int) < (N : Int) := by omega
        have e0 : ((j : Int)).toNat = j := by omega
        have i1 : (0 : Int) ≤ (j : Int) - 1 := by omega
        have l1 : (j : Int) - 1 < (N : Int) := by omega
        have e1 : ((j : Int) - 1).toNat = j - 1 := by omega
        have w20 : IntKind.i64.wrap ((j : Int) - 1) = (j : Int) - 1 := IntWalk.i64_in _ (by omega)
        have i4 : (1 : Int) ≤ (j : Int) := by omega
        have i5 : 1 ≤ j := by omega
        have i6 : 0 < j := by omega
        have i7 : j - 1 < N := by omega
        have H0 : wr.cell? ⟨B, (j) * 2, none⟩ = some (.slice p0 n0 q0) ∧ wr.cell? ⟨B, (j) * 2 + 1, none⟩ = some (.int .i64 xi) ∧ wr.cell? ⟨B, (j - 1) * 2, none⟩ = some (.slice p1 n1 q1) ∧ wr.cell? ⟨B, (j - 1) * 2 + 1, none⟩ = some (.int .i64 yi) ∧ RH rv W0 B N M g wr := ⟨a0, a1, b0, b1, hq⟩
        clear hq a0 a1 b0 b1
        cases hl : lt x y with
        | true =>
          have hfin : shiftUp lt hi (j + 1) (swp g j (j - 1)) = R2 := by rw [← up_go lt hi j g hja (by rw [hx.out, hy.out]; exact hl)]; exact hQ.out
          replace hfin := Lib.hid hfin
          replace hl := Lib.hid hl
          clear hQ
          go_wp2_with fail
          go_region_held3 (fun W => W.cell? ⟨B, (j) * 2, none⟩ = some (.slice p0 n0 q0) ∧ W.cell? ⟨B, (j) * 2 + 1, none⟩ = some (.int .i64 xi) ∧ W.cell? ⟨B, (j - 1) * 2, none⟩ = some (.slice p1 n1 q1) ∧ W.cell? ⟨B, (j - 1) * 2 + 1, none⟩ = some (.int .i64 yi) ∧ RH rv W0 B N M g W) (first | assumption | exact keepF (by assumption) (by assumption) | exact keepF0 (by assumption)) (first
            | (go_at_call 42; refine (hC.at (by assumption) mx my h0.out h1.out hxi.out hyi.out hl.out).mono ?_; rintro e w3 ⟨cc, rfl, hd, hb3⟩))
          rename_i hh
          obtain ⟨k0, k1, k2, k3, hq2⟩ := hh
          have f0 := hq2.free ((j) * 2)
          have f1 := hq2.free ((j) * 2 + 1)
          have f2 := hq2.free ((j - 1) * 2)
          have f3 := hq2.free ((j - 1) * 2 + 1)
          have hsw := hq2.drew.swap (i := j) (j := j - 1) (by omega) (by omega)
          rw [hx.out, hy.out, h0.out, h1.out, hxi.out, hyi.out] at hsw
          replace hsw := Lib.hid hsw
          clear hq2
          go_wp2_with fail
          go_region
          go_wp2
          go_roundg (hi - (j + 1))
          case measure => omega
          case rel => exact ⟨j + 1, _, by first | rfl | go_num, by omega, by omega, Nat.le_refl _, hsw.out, hfin⟩
        | false =>
          have hfin : g = R2 := by rw [← hQ.out]; exact (up_stop lt hi j g (.inr (by rw [hx.out, hy.out]; exact hl))).symm
          subst hfin
          replace hl := Lib.hid hl
          clear hQ
          go_wp2_with fail
          go_region_held3 (fun W => W.cell? ⟨B, (j) * 2, none⟩ = some (.slice p0 n0 q0) ∧ W.cell? ⟨B, (j) * 2 + 1, none⟩ = some (.int .i64 xi) ∧ W.cell? ⟨B, (j - 1) * 2, none⟩ = some (.slice p1 n1 q1) ∧ W.cell? ⟨B, (j - 1) * 2 + 1, none⟩ = some (.int .i64 yi) ∧ RH rv W0 B N M g W) (first | assumption | exact keepF (by assumption) (by assumption) | exact keepF0 (by assumption)) (first
            | (go_at_call 42; refine (hC.at (by assumption) mx my h0.out h1.out hxi.out hyi.out hl.out).mono ?_; rintro e w3 ⟨cc, rfl, hd, hb3⟩))
          rename_i hh
          obtain ⟨k0, k1, k2, k3, hq2⟩ := hh
          go_wp2_with fail
          go_roundg s
          case measure => omega
          case rel => exact ⟨I, cn + 1, g, rfl, by first | rfl | go_num, by omega, by omega, by omega, hq2, hQ3⟩
      · have hG3 : decide ((j : Int) < (hi : Int)) = false := by simp; omega
        have hfin : g = R2 := by rw [← hQ.out]; exact (up_stop lt hi j g (.inl hja)).symm
        subst hfin
        clear hQ
        go_wp2_with fail
        go_roundg s
        case measure => omega
        case rel => exact ⟨I, cn + 1, g, rfl, by first | rfl | go_num, by omega, by omega, by omega, hq, hQ3⟩
  · have hG2 : decide ((E : Int) ≥ 2) = false := by simp; omega
    have hS : sUp lt hi I g2 = g2 := by unfold sUp; rw [if_neg (by rw [← hEd.out]; exact h2)]
    rw [hS] at hQ3
    clear hS
    go_wp2_with fail
    go_roundg s
    case measure => omega
    case rel => exact ⟨I, cn + 1, g2, rfl, by first | rfl | go_num, by omega, by omega, by omega, hq, hQ3⟩
end Go.Proofs.YtdapnemcdgjeeaaGreatDoor.Pdq
