/- Walks: the library's unstable sort, at rows that are held: partition. -/
import Derived.Test.YtdapnemcdgjeeaaGreatDoorPdqA
import Derived.Test.YtdapnemcdgjeeaaGreatDoorPdqP
import Derived.Deep.CutBlock
import Derived.Deep.LoopGhost
set_option maxRecDepth 100000
set_option linter.unusedVariables false
set_option linter.unusedSimpArgs false
namespace Go.Proofs.YtdapnemcdgjeeaaGreatDoor.Pdq
open Go.RowKit
open Go.Sort (swp PermIn)

set_option maxHeartbeats 8000000 in
theorem partition_is (rv : Nat → Value) (lt : Nat → Nat → Bool) (W0 : World) (B b N M c : Nat) (d0 : Array Nat) (W : World) (lo hi pv : Nat) (hC : CmpH rv M lt W0 B b) (hR : RH rv W0 B N M d0 W) (hlp : lo ≤ pv) (hph : pv < hi) (hb : hi ≤ N) (hN : N ≤ 4194304) :
    Calls Tryz.prog 100 #[.slice (some ⟨B, 0, none⟩) N c, .int .i64 (lo : Int), .int .i64 (hi : Int), .int .i64 (pv : Int), .func (.func 42) #[.pointer (some ⟨b, 0, none⟩)] #[]] W fun e W' => ∃ (m : Nat) (ap : Bool) (g : Array Nat), e = .returned (.tuple #[.int .i64 (m : Int), .bool ap]) ∧ RH rv W0 B N M g W' ∧ PermIn lo hi d0 g ∧ Parted lt lo hi m g := by
  have hPS := PartR.start lt hlp hph (by rw [hR.size]; exact hb : hi ≤ d0.size)
  obtain ⟨J, hJ⟩ : ∃ J, J = hi - 1 := ⟨_, rfl⟩
  have hJ1 : (hi : Int) - 1 = (J : Int) := by omega
  have hJ2 : J + 1 ≤ hi := by omega
  have hJ3 : hi ≤ J + 1 := by omega
  rw [← hJ] at hPS
  replace hPS := Lib.hid hPS
  clear hJ
  go_enter Tryz.func100, Tryz.ntmps100
  go_upto_region 1 with fail
  go_cut [] from 14 to 27 (fun W' => RH rv W0 B N M (swp d0 lo pv) W')
  case first =>
    by_cases hal : lo = pv
    · obtain rfl : lo = pv := hal
      obtain ⟨a0, a1⟩ := hR.cell (lo) (by omega)
      obtain ⟨p0, n0, q0, h0⟩ := hR.sl d0[lo]!
      obtain ⟨x, hx⟩ : ∃ x, d0[lo]! = x := ⟨_, rfl⟩
      obtain ⟨xi, hxi⟩ : ∃ z, (x : Int) = z := ⟨_, rfl⟩
      rw [hx] at a0 a1 h0
      rw [h0] at a0
      rw [hxi] at a1
      have f0 := hR.free ((lo) * 2)
      have f1 := hR.free ((lo) * 2 + 1)
      have hsw := hR.drew.swap (i := lo) (j := lo) (by omega) (by omega)
      rw [hx, h0, hxi] at hsw
      replace h0 := Lib.hid h0
      replace hx := Lib.hid hx
      replace hxi := Lib.hid hxi
      replace hsw := Lib.hid hsw
      have i0 : (0 : Int) ≤ (lo : Int) := by omega
      have l0 : (lo : Int) < (N : Int) := by omega
      have e0 : ((lo : Int)).toNat = lo := by omega
      clear hR
      go_wp2_with fail
      go_region
      go_wp2_with fail
      go_meet
      exact hsw.out
    · have hal1 : lo < pv ∨ pv < lo := by omega
      obtain ⟨a0, a1⟩ := hR.cell (lo) (by omega)
      obtain ⟨b0, b1⟩ := hR.cell (pv) (by omega)
      have mx := hR.memb (lo) (by omega)
      have my := hR.memb (pv) (by omega)
      obtain ⟨p0, n0, q0, h0⟩ := hR.sl d0[lo]!
      obtain ⟨p1, n1, q1, h1⟩ := hR.sl d0[pv]!
      obtain ⟨x, hx⟩ : ∃ x, d0[lo]! = x := ⟨_, rfl⟩
      obtain ⟨y, hy⟩ : ∃ y, d0[pv]! = y := ⟨_, rfl⟩
      obtain ⟨xi, hxi⟩ : ∃ z, (x : Int) = z := ⟨_, rfl⟩
      obtain ⟨yi, hyi⟩ : ∃ z, (y : Int) = z := ⟨_, rfl⟩
      rw [hx] at a0 a1 mx h0
      rw [hy] at b0 b1 my h1
      rw [h0] at a0
      rw [h1] at b0
      rw [hxi] at a1
      rw [hyi] at b1
      replace h0 := Lib.hid h0
      replace h1 := Lib.hid h1
      replace hx := Lib.hid hx
      replace hy := Lib.hid hy
      replace hxi := Lib.hid hxi
      replace hyi := Lib.hid hyi
      have i0 : (0 : Int) ≤ (lo : Int) := by omega
      have l0 : (lo : Int) < (N : Int) := by omega
      have e0 : ((lo : Int)).toNat = lo := by omega
      have i1 : (0 : Int) ≤ (pv : Int) := by omega
      have l1 : (pv : Int) < (N : Int) := by omega
      have e1 : ((pv : Int)).toNat = pv := by omega
      have f0 := hR.free ((lo) * 2)
      have f1 := hR.free ((lo) * 2 + 1)
      have f2 := hR.free ((pv) * 2)
      have f3 := hR.free ((pv) * 2 + 1)
      have hsw := hR.drew.swap (i := lo) (j := pv) (by omega) (by omega)
      rw [hx.out, hy.out, h0.out, h1.out, hxi.out, hyi.out] at hsw
      replace hsw := Lib.hid hsw
      clear hR
      go_wp2_with fail
      go_region
      go_wp2_with fail
      go_meet
      exact hsw.out
  case rest =>
  clear hR
  obtain ⟨P, hPe⟩ : ∃ P, (swp d0 lo pv)[lo]! = P := ⟨_, rfl⟩
  rw [hPe] at hPS
  obtain ⟨g, hg⟩ : ∃ g, swp d0 lo pv = g := ⟨_, rfl⟩
  rw [hg] at hcut hPS
  clear hPe hg
  have hq := hcut
  have hQ := hPS
  clear hcut hPS
  go_upto_block 0 with fail
  go_cut [12] from 32 to 49 (fun v W' => ∃ i : Nat, v = .int .i64 (i : Int) ∧ lo + 1 ≤ i ∧ RH rv W0 B N M g W' ∧ Hid (PartR lt lo hi i J P d0 g) ∧ Hid (i ≤ J → lt g[i]! P = false))
  case first =>
    go_wp2_with fail
    go_loopg [12] hi (fun k iv wr => ∃ i : Nat, iv = .int .i64 (i : Int) ∧ lo + 1 ≤ i ∧ hi - i ≤ k ∧ RH rv W0 B N M g wr ∧ Hid (PartR lt lo hi i J P d0 g))
    case atStart => exact ⟨lo + 1, by first | rfl | go_num, Nat.le_refl _, by omega, hq, hQ⟩
    case round =>
      clear hq hQ
      obtain ⟨i, rfl, hii, hgk, hq, hQ⟩ := hrel
      have hP := hQ.out
      have pa := hP.ai
      have pb := hP.ij
      have pc := hP.jb
      have pd := hP.piv
      by_cases hij : i ≤ J
      · have hG : decide ((i : Int) ≤ (J : Int)) = true := by simp; omega
        obtain ⟨a0, a1⟩ := hq.cell (i) (by omega)
        obtain ⟨b0, b1⟩ := hq.cell (lo) (by omega)
        have mx := hq.memb (i) (by omega)
        have my := hq.memb (lo) (by omega)
        obtain ⟨p0, n0, q0, h0⟩ := hq.sl g[i]!
        obtain ⟨p1, n1, q1, h1⟩ := hq.sl g[lo]!
        obtain ⟨x, hx⟩ : ∃ x, g[i]! = x := ⟨_, rfl⟩
        obtain ⟨y, hy⟩ : ∃ y, g[lo]! = y := ⟨_, rfl⟩
        obtain ⟨xi, hxi⟩ : ∃ z, (x : Int) = z := ⟨_, rfl⟩
        obtain ⟨yi, hyi⟩ : ∃ z, (y : Int) = z := ⟨_, rfl⟩
        rw [hx] at a0 a1 mx h0
        rw [hy] at b0 b1 my h1
        rw [h0] at a0
        rw [h1] at b0
        rw [hxi] at a1
        rw [hyi] at b1
        replace h0 := Lib.hid h0
        replace h1 := Lib.hid h1
        replace hx := Lib.hid hx
        replace hy := Lib.hid hy
        replace hxi := Lib.hid hxi
        replace hyi := Lib.hid hyi
        have i0 : (0 : Int) ≤ (i : Int) := by omega
        have l0 : (i : Int) < (N : Int) := by omega
        have e0 : ((i : Int)).toNat = i := by omega
        have i1 : (0 : Int) ≤ (lo : Int) := by omega
        have l1 : (lo : Int) < (N : Int) := by omega
        have e1 : ((lo : Int)).toNat = lo := by omega
        have H0 : wr.cell? ⟨B, (i) * 2, none⟩ = some (.slice p0 n0 q0) ∧ wr.cell? ⟨B, (i) * 2 + 1, none⟩ = some (.int .i64 xi) ∧ wr.cell? ⟨B, (lo) * 2, none⟩ = some (.slice p1 n1 q1) ∧ wr.cell? ⟨B, (lo) * 2 + 1, none⟩ = some (.int .i64 yi) ∧ RH rv W0 B N M g wr := ⟨a0, a1, b0, b1, hq⟩
        clear hq a0 a1 b0 b1
        cases hl : lt x y with
        | true =>
          have hfin := hP.up hij (by rw [← pd, hx.out, hy.out]; exact hl)
          replace hfin := Lib.hid hfin
          replace hl := Lib.hid hl
          clear hP hQ pd
          go_wp2_with fail
          go_region_held3 (fun W => W.cell? ⟨B, (i) * 2, none⟩ = some (.slice p0 n0 q0) ∧ W.cell? ⟨B, (i) * 2 + 1, none⟩ = some (.int .i64 xi) ∧ W.cell? ⟨B, (lo) * 2, none⟩ = some (.slice p1 n1 q1) ∧ W.cell? ⟨B, (lo) * 2 + 1, none⟩ = some (.int .i64 yi) ∧ RH rv W0 B N M g W) (first | assumption | exact keepF (by assumption) (by assumption) | exact keepF0 (by assumption)) (first
            | (go_at_call 42; refine (hC.at (by assumption) mx my h0.out h1.out hxi.out hyi.out hl.out).mono ?_; rintro e w3 ⟨cc, rfl, hd, hb3⟩))
          rename_i hh
          obtain ⟨k0, k1, k2, k3, hq2⟩ := hh
          go_wp2
          go_roundg (hi - (i + 1))
          case measure => omega
          case rel => exact ⟨i + 1, by first | rfl | go_num, by omega, by omega, hq2, hfin⟩
        | false =>
          have hfin : i ≤ J → lt g[i]! P = false := fun _ => by rw [← pd, hx.out, hy.out]; exact hl
          replace hfin := Lib.hid hfin
          replace hl := Lib.hid hl
          clear hP pd
          go_wp2_with fail
          go_region_held3 (fun W => W.cell? ⟨B, (i) * 2, none⟩ = some (.slice p0 n0 q0) ∧ W.cell? ⟨B, (i) * 2 + 1, none⟩ = some (.int .i64 xi) ∧ W.cell? ⟨B, (lo) * 2, none⟩ = some (.slice p1 n1 q1) ∧ W.cell? ⟨B, (lo) * 2 + 1, none⟩ = some (.int .i64 yi) ∧ RH rv W0 B N M g W) (first | assumption | exact keepF (by assumption) (by assumption) | exact keepF0 (by assumption)) (first
            | (go_at_call 42; refine (hC.at (by assumption) mx my h0.out h1.out hxi.out hyi.out hl.out).mono ?_; rintro e w3 ⟨cc, rfl, hd, hb3⟩))
          rename_i hh
          obtain ⟨k0, k1, k2, k3, hq2⟩ := hh
          go_wp2_with fail
          go_meet
          exact ⟨i, rfl, hii, hq2, hQ, hfin⟩
      · have hG : decide ((i : Int) ≤ (J : Int)) = false := by simp; omega
        have hfin : i ≤ J → lt g[i]! P = false := fun h => absurd h hij
        replace hfin := Lib.hid hfin
        clear hP pd
        go_wp2_with fail
        go_quiet (fail)
        go_wp2_with fail
        go_meet
        exact ⟨i, rfl, hii, hq.below (below_drewN (Below.refl _ _) _), hQ, hfin⟩
  case rest =>
  clear hq hQ
  obtain ⟨i, rfl, hii, hq, hQ, hI⟩ := hcut
  go_upto_block 2 with fail
  go_cut [13] from 50 to 68 (fun v W' => ∃ j : Nat, v = .int .i64 (j : Int) ∧ RH rv W0 B N M g W' ∧ j ≤ J ∧ Hid (PartR lt lo hi i j P d0 g) ∧ Hid (i ≤ j → lt g[j]! P = true))
  case first =>
    go_wp2_with fail
    go_loopg [13] J (fun k jv wr => ∃ j : Nat, jv = .int .i64 (j : Int) ∧ j ≤ k ∧ RH rv W0 B N M g wr ∧ j ≤ J ∧ Hid (PartR lt lo hi i j P d0 g))
    case atStart => exact ⟨J, rfl, Nat.le_refl _, hq, Nat.le_refl _, hQ⟩
    case round =>
      clear hq hQ hI
      obtain ⟨j, rfl, hgk, hq, hjj, hQ⟩ := hrel
      have hP := hQ.out
      have pa := hP.ai
      have pb := hP.ij
      have pc := hP.jb
      have pd := hP.piv
      by_cases hij : i ≤ j
      · have hG : decide ((i : Int) ≤ (j : Int)) = true := by simp; omega
        obtain ⟨a0, a1⟩ := hq.cell (j) (by omega)
        obtain ⟨b0, b1⟩ := hq.cell (lo) (by omega)
        have mx := hq.memb (j) (by omega)
        have my := hq.memb (lo) (by omega)
        obtain ⟨p0, n0, q0, h0⟩ := hq.sl g[j]!
        obtain ⟨p1, n1, q1, h1⟩ := hq.sl g[lo]!
        obtain ⟨x, hx⟩ : ∃ x, g[j]! = x := ⟨_, rfl⟩
        obtain ⟨y, hy⟩ : ∃ y, g[lo]! = y := ⟨_, rfl⟩
        obtain ⟨xi, hxi⟩ : ∃ z, (x : Int) = z := ⟨_, rfl⟩
        obtain ⟨yi, hyi⟩ : ∃ z, (y : Int) = z := ⟨_, rfl⟩
        rw [hx] at a0 a1 mx h0
        rw [hy] at b0 b1 my h1
        rw [h0] at a0
        rw [h1] at b0
        rw [hxi] at a1
        rw [hyi] at b1
        replace h0 := Lib.hid h0
        replace h1 := Lib.hid h1
        replace hx := Lib.hid hx
        replace hy := Lib.hid hy
        replace hxi := Lib.hid hxi
        replace hyi := Lib.hid hyi
        have i0 : (0 : Int) ≤ (j : Int) := by omega
        have l0 : (j : Int) < (N : Int) := by omega
        have e0 : ((j : Int)).toNat = j := by omega
        have i1 : (0 : Int) ≤ (lo : Int) := by omega
        have l1 : (lo : Int) < (N : Int) := by omega
        have e1 : ((lo : Int)).toNat = lo := by omega
        have H0 : wr.cell? ⟨B, (j) * 2, none⟩ = some (.slice p0 n0 q0) ∧ wr.cell? ⟨B, (j) * 2 + 1, none⟩ = some (.int .i64 xi) ∧ wr.cell? ⟨B, (lo) * 2, none⟩ = some (.slice p1 n1 q1) ∧ wr.cell? ⟨B, (lo) * 2 + 1, none⟩ = some (.int .i64 yi) ∧ RH rv W0 B N M g wr := ⟨a0, a1, b0, b1, hq⟩
        clear hq a0 a1 b0 b1
        cases hl : lt x y with
        | false =>
          have hfin := hP.down hij (by rw [← pd, hx.out, hy.out]; exact hl)
          replace hfin := Lib.hid hfin
          replace hl := Lib.hid hl
          have jj : ((j - 1 : Nat) : Int) = (j : Int) - 1 := by omega
          replace jj := Lib.hid jj
          clear hP hQ pd
          go_wp2_with fail
          go_region_held3 (fun W => W.cell? ⟨B, (j) * 2, none⟩ = some (.slice p0 n0 q0) ∧ W.cell? ⟨B, (j) * 2 + 1, none⟩ = some (.int .i64 xi) ∧ W.cell? ⟨B, (lo) * 2, none⟩ = some (.slice p1 n1 q1) ∧ W.cell? ⟨B, (lo) * 2 + 1, none⟩ = some (.int .i64 yi) ∧ RH rv W0 B N M g W) (first | assumption | exact keepF (by assumption) (by assumption) | exact keepF0 (by assumption)) (first
            | (go_at_call 42; refine (hC.at (by assumption) mx my h0.out h1.out hxi.out hyi.out hl.out).mono ?_; rintro e w3 ⟨cc, rfl, hd, hb3⟩))
          rename_i hh
          obtain ⟨k0, k1, k2, k3, hq2⟩ := hh
          go_wp2
          go_roundg (j - 1)
          case measure => omega
          case rel => exact ⟨j - 1, by rw [jj.out], Nat.le_refl _, hq2, by omega, hfin⟩
        | true =>
          have hfin : i ≤ j → lt g[j]! P = true := fun _ => by rw [← pd, hx.out, hy.out]; exact hl
          replace hfin := Lib.hid hfin
          replace hl := Lib.hid hl
          clear hP pd
          go_wp2_with fail
          go_region_held3 (fun W => W.cell? ⟨B, (j) * 2, none⟩ = some (.slice p0 n0 q0) ∧ W.cell? ⟨B, (j) * 2 + 1, none⟩ = some (.int .i64 xi) ∧ W.cell? ⟨B, (lo) * 2, none⟩ = some (.slice p1 n1 q1) ∧ W.cell? ⟨B, (lo) * 2 + 1, none⟩ = some (.int .i64 yi) ∧ RH rv W0 B N M g W) (first | assumption | exact keepF (by assumption) (by assumption) | exact keepF0 (by assumption)) (first
            | (go_at_call 42; refine (hC.at (by assumption) mx my h0.out h1.out hxi.out hyi.out hl.out).mono ?_; rintro e w3 ⟨cc, rfl, hd, hb3⟩))
          rename_i hh
          obtain ⟨k0, k1, k2, k3, hq2⟩ := hh
          go_wp2_with fail
          go_meet
          exact ⟨j, rfl, hq2, hjj, hQ, hfin⟩
      · have hG : decide ((i : Int) ≤ (j : Int)) = false := by simp; omega
        have hfin : i ≤ j → lt g[j]! P = true := fun h => absurd h hij
        replace hfin := Lib.hid hfin
        clear hP pd
        go_wp2_with fail
        go_quiet (fail)
        go_wp2_with fail
        go_meet
        exact ⟨j, rfl, hq.below (below_drewN (Below.refl _ _) _), hjj, hQ, hfin⟩
  case rest =>
  clear hq hQ
  obtain ⟨j, rfl, hq, hjJ, hQ, hJ⟩ := hcut
  have pa := hQ.out.ai
  have pb := hQ.out.ij
  have pc := hQ.out.jb
  by_cases hij : i ≤ j
  · have hG : decide ((i : Int) > (j : Int)) = false := by simp; omega
    have hlt := PartR.apart hij (hI.out (by omega)) (hJ.out hij)
    have hQ2 := hQ.out.swap hlt (hI.out (by omega)) (hJ.out hij)
    replace hQ2 := Lib.hid hQ2
    have jj : ((j - 1 : Nat) : Int) = (j : Int) - 1 := by omega
    replace jj := Lib.hid jj
    clear hQ hI hJ
    go_upto_region 10 with fail
    go_cut [] from 69 to 100 (fun W' => RH rv W0 B N M (swp g i j) W')
    case first =>
      obtain ⟨a0, a1⟩ := hq.cell (i) (by omega)
      obtain ⟨b0, b1⟩ := hq.cell (j) (by omega)
      have mx := hq.memb (i) (by omega)
      have my := hq.memb (j) (by omega)
      obtain ⟨p0, n0, q0, h0⟩ := hq.sl g[i]!
      obtain ⟨p1, n1, q1, h1⟩ := hq.sl g[j]!
      obtain ⟨x, hx⟩ : ∃ x, g[i]! = x := ⟨_, rfl⟩
      obtain ⟨y, hy⟩ : ∃ y, g[j]! = y := ⟨_, rfl⟩
      obtain ⟨xi, hxi⟩ : ∃ z, (x : Int) = z := ⟨_, rfl⟩
      obtain ⟨yi, hyi⟩ : ∃ z, (y : Int) = z := ⟨_, rfl⟩
      rw [hx] at a0 a1 mx h0
      rw [hy] at b0 b1 my h1
      rw [h0] at a0
      rw [h1] at b0
      rw [hxi] at a1
      rw [hyi] at b1
      replace h0 := Lib.hid h0
      replace h1 := Lib.hid h1
      replace hx := Lib.hid hx
      replace hy := Lib.hid hy
      replace hxi := Lib.hid hxi
      replace hyi := Lib.hid hyi
      have i0 : (0 : Int) ≤ (i : Int) := by omega
      have l0 : (i : Int) < (N : Int) := by omega
      have e0 : ((i : Int)).toNat = i := by omega
      have i1 : (0 : Int) ≤ (j : Int) := by omega
      have l1 : (j : Int) < (N : Int) := by omega
      have e1 : ((j : Int)).toNat = j := by omega
      have f0 := hq.free ((i) * 2)
      have f1 := hq.free ((i) * 2 + 1)
      have f2 := hq.free ((j) * 2)
      have f3 := hq.free ((j) * 2 + 1)
      have hsw := hq.drew.swap (i := i) (j := j) (by omega) (by omega)
      rw [hx.out, hy.out, h0.out, h1.out, hxi.out, hyi.out] at hsw
      replace hsw := Lib.hid hsw
      clear hq
      go_wp2_with fail
      go_region
      go_wp2_with fail
      go_meet
      exact hsw.out
    case rest =>
    clear hq
    have hq := hcut
    clear hcut
    generalize swp g i j = g1 at hq hQ2
    go_wp2_with fail
    go_loopg [12, 13] (J + 1) (fun k iv jv wr => ∃ (i j : Nat) (g : Array Nat), iv = .int .i64 (i : Int) ∧ jv = .int .i64 (j : Int) ∧ j + 1 - i ≤ k ∧ RH rv W0 B N M g wr ∧ Hid (PartR lt lo hi i j P d0 g))
    case atStart => exact ⟨i + 1, j - 1, g1, by first | rfl | go_num, by rw [jj.out], by omega, hq, hQ2⟩
    case round =>
    clear hq hQ2 jj hlt hij hG pa pb pc
    obtain ⟨ia, ja, g, rfl, rfl, hk, hq, hQ⟩ := hrel
    have q3 := hQ.out.jb
    go_upto_block 6 with fail
    go_cut [12] from 105 to 162 (fun v W' => ∃ i : Nat, v = .int .i64 (i : Int) ∧ ia ≤ i ∧ RH rv W0 B N M g W' ∧ Hid (PartR lt lo hi i ja P d0 g) ∧ Hid (i ≤ ja → lt g[i]! P = false))
    case first =>
      go_wp2_with fail
      go_loopg [12] hi (fun k iv wr => ∃ i : Nat, iv = .int .i64 (i : Int) ∧ ia ≤ i ∧ hi - i ≤ k ∧ RH rv W0 B N M g wr ∧ Hid (PartR lt lo hi i ja P d0 g))
      case atStart => exact ⟨ia, by first | rfl | go_num, Nat.le_refl _, by omega, hq, hQ⟩
      case round =>
        clear hq hQ
        obtain ⟨i, rfl, hii, hgk, hq, hQ⟩ := hrel
        have hP := hQ.out
        have pa := hP.ai
        have pb := hP.ij
        have pc := hP.jb
        have pd := hP.piv
        by_cases hij : i ≤ ja
        · have hG : decide ((i : Int) ≤ (ja : Int)) = true := by simp; omega
          obtain ⟨a0, a1⟩ := hq.cell (i) (by omega)
          obtain ⟨b0, b1⟩ := hq.cell (lo) (by omega)
          have mx := hq.memb (i) (by omega)
          have my := hq.memb (lo) (by omega)
          obtain ⟨p0, n0, q0, h0⟩ := hq.sl g[i]!
          obtain ⟨p1, n1, q1, h1⟩ := hq.sl g[lo]!
          obtain ⟨x, hx⟩ : ∃ x, g[i]! = x := ⟨_, rfl⟩
          obtain ⟨y, hy⟩ : ∃ y, g[lo]! = y := ⟨_, rfl⟩
          obtain ⟨xi, hxi⟩ : ∃ z, (x : Int) = z := ⟨_, rfl⟩
          obtain ⟨yi, hyi⟩ : ∃ z, (y : Int) = z := ⟨_, rfl⟩
          rw [hx] at a0 a1 mx h0
          rw [hy] at b0 b1 my h1
          rw [h0] at a0
          rw [h1] at b0
          rw [hxi] at a1
          rw [hyi] at b1
          replace h0 := Lib.hid h0
          replace h1 := Lib.hid h1
          replace hx := Lib.hid hx
          replace hy := Lib.hid hy
          replace hxi := Lib.hid hxi
          replace hyi := Lib.hid hyi
          have i0 : (0 : Int) ≤ (i : Int) := by omega
          have l0 : (i : Int) < (N : Int) := by omega
          have e0 : ((i : Int)).toNat = i := by omega
          have i1 : (0 : Int) ≤ (lo : Int) := by omega
          have l1 : (lo : Int) < (N : Int) := by omega
          have e1 : ((lo : Int)).toNat = lo := by omega
          have H0 : wr.cell? ⟨B, (i) * 2, none⟩ = some (.slice p0 n0 q0) ∧ wr.cell? ⟨B, (i) * 2 + 1, none⟩ = some (.int .i64 xi) ∧ wr.cell? ⟨B, (lo) * 2, none⟩ = some (.slice p1 n1 q1) ∧ wr.cell? ⟨B, (lo) * 2 + 1, none⟩ = some (.int .i64 yi) ∧ RH rv W0 B N M g wr := ⟨a0, a1, b0, b1, hq⟩
          clear hq a0 a1 b0 b1
          cases hl : lt x y with
          | true =>
            have hfin := hP.up hij (by rw [← pd, hx.out, hy.out]; exact hl)
            replace hfin := Lib.hid hfin
            replace hl := Lib.hid hl
            clear hP hQ pd
            go_wp2_with fail
            go_region_held3 (fun W => W.cell? ⟨B, (i) * 2, none⟩ = some (.slice p0 n0 q0) ∧ W.cell? ⟨B, (i) * 2 + 1, none⟩ = some (.int .i64 xi) ∧ W.cell? ⟨B, (lo) * 2, none⟩ = some (.slice p1 n1 q1) ∧ W.cell? ⟨B, (lo) * 2 + 1, none⟩ = some (.int .i64 yi) ∧ RH rv W0 B N M g W) (first | assumption | exact keepF (by assumption) (by assumption) | exact keepF0 (by assumption)) (first
              | (go_at_call 42; refine (hC.at (by assumption) mx my h0.out h1.out hxi.out hyi.out hl.out).mono ?_; rintro e w3 ⟨cc, rfl, hd, hb3⟩))
            rename_i hh
            obtain ⟨k0, k1, k2, k3, hq2⟩ := hh
            go_wp2
            go_roundg (hi - (i + 1))
            case measure => omega
            case rel => exact ⟨i + 1, by first | rfl | go_num, by omega, by omega, hq2, hfin⟩
          | false =>
            have hfin : i ≤ ja → lt g[i]! P = false := fun _ => by rw [← pd, hx.out, hy.out]; exact hl
            replace hfin := Lib.hid hfin
            replace hl := Lib.hid hl
            clear hP pd
            go_wp2_with fail
            go_region_held3 (fun W => W.cell? ⟨B, (i) * 2, none⟩ = some (.slice p0 n0 q0) ∧ W.cell? ⟨B, (i) * 2 + 1, none⟩ = some (.int .i64 xi) ∧ W.cell? ⟨B, (lo) * 2, none⟩ = some (.slice p1 n1 q1) ∧ W.cell? ⟨B, (lo) * 2 + 1, none⟩ = some (.int .i64 yi) ∧ RH rv W0 B N M g W) (first | assumption | exact keepF (by assumption) (by assumption) | exact keepF0 (by assumption)) (first
              | (go_at_call 42; refine (hC.at (by assumption) mx my h0.out h1.out hxi.out hyi.out hl.out).mono ?_; rintro e w3 ⟨cc, rfl, hd, hb3⟩))
            rename_i hh
            obtain ⟨k0, k1, k2, k3, hq2⟩ := hh
            go_wp2_with fail
            go_meet
            exact ⟨i, rfl, hii, hq2, hQ, hfin⟩
        · have hG : decide ((i : Int) ≤ (ja : Int)) = false := by simp; omega
          have hfin : i ≤ ja → lt g[i]! P = false := fun h => absurd h hij
          replace hfin := Lib.hid hfin
          clear hP pd
          go_wp2_with fail
          go_quiet (fail)
          go_wp2_with fail
          go_meet
          exact ⟨i, rfl, hii, hq.below (below_drewN (Below.refl _ _) _), hQ, hfin⟩
    case rest =>
    clear hq hQ
    obtain ⟨i, rfl, hii, hq, hQ, hI⟩ := hcut
    go_upto_block 8 with fail
    go_cut [13] from 105 to 162 (fun v W' => ∃ j : Nat, v = .int .i64 (j : Int) ∧ RH rv W0 B N M g W' ∧ j ≤ ja ∧ Hid (PartR lt lo hi i j P d0 g) ∧ Hid (i ≤ j → lt g[j]! P = true))
    case first =>
      go_wp2_with fail
      go_loopg [13] ja (fun k jv wr => ∃ j : Nat, jv = .int .i64 (j : Int) ∧ j ≤ k ∧ RH rv W0 B N M g wr ∧ j ≤ ja ∧ Hid (PartR lt lo hi i j P d0 g))
      case atStart => exact ⟨ja, rfl, Nat.le_refl _, hq, Nat.le_refl _, hQ⟩
      case round =>
        clear hq hQ hI
        obtain ⟨j, rfl, hgk, hq, hjj, hQ⟩ := hrel
        have hP := hQ.out
        have pa := hP.ai
        have pb := hP.ij
        have pc := hP.jb
        have pd := hP.piv
        by_cases hij : i ≤ j
        · have hG : decide ((i : Int) ≤ (j : Int)) = true := by simp; omega
          obtain ⟨a0, a1⟩ := hq.cell (j) (by omega)
          obtain ⟨b0, b1⟩ := hq.cell (lo) (by omega)
          have mx := hq.memb (j) (by omega)
          have my := hq.memb (lo) (by omega)
          obtain ⟨p0, n0, q0, h0⟩ := hq.sl g[j]!
          obtain ⟨p1, n1, q1, h1⟩ := hq.sl g[lo]!
          obtain ⟨x, hx⟩ : ∃ x, g[j]! = x := ⟨_, rfl⟩
          obtain ⟨y, hy⟩ : ∃ y, g[lo]! = y := ⟨_, rfl⟩
          obtain ⟨xi, hxi⟩ : ∃ z, (x : Int) = z := ⟨_, rfl⟩
          obtain ⟨yi, hyi⟩ : ∃ z, (y : Int) = z := ⟨_, rfl⟩
          rw [hx] at a0 a1 mx h0
          rw [hy] at b0 b1 my h1
          rw [h0] at a0
          rw [h1] at b0
          rw [hxi] at a1
          rw [hyi] at b1
          replace h0 := Lib.hid h0
          replace h1 := Lib.hid h1
          replace hx := Lib.hid hx
          replace hy := Lib.hid hy
          replace hxi := Lib.hid hxi
          replace hyi := Lib.hid hyi
          have i0 : (0 : Int) ≤ (j : Int) := by omega
          have l0 : (j : Int) < (N : Int) := by omega
          have e0 : ((j : Int)).toNat = j := by omega
          have i1 : (0 : Int) ≤ (lo : Int) := by omega
          have l1 : (lo : Int) < (N : Int) := by omega
          have e1 : ((lo : Int)).toNat = lo := by omega
          have H0 : wr.cell? ⟨B, (j) * 2, none⟩ = some (.slice p0 n0 q0) ∧ wr.cell? ⟨B, (j) * 2 + 1, none⟩ = some (.int .i64 xi) ∧ wr.cell? ⟨B, (lo) * 2, none⟩ = some (.slice p1 n1 q1) ∧ wr.cell? ⟨B, (lo) * 2 + 1, none⟩ = some (.int .i64 yi) ∧ RH rv W0 B N M g wr := ⟨a0, a1, b0, b1, hq⟩
          clear hq a0 a1 b0 b1
          cases hl : lt x y with
          | false =>
            have hfin := hP.down hij (by rw [← pd, hx.out, hy.out]; exact hl)
            replace hfin := Lib.hid hfin
            replace hl := Lib.hid hl
            have jj : ((j - 1 : Nat) : Int) = (j : Int) - 1 := by omega
            replace jj := Lib.hid jj
            clear hP hQ pd
            go_wp2_with fail
            go_region_held3 (fun W => W.cell? ⟨B, (j) * 2, none⟩ = some (.slice p0 n0 q0) ∧ W.cell? ⟨B, (j) * 2 + 1, none⟩ = some (.int .i64 xi) ∧ W.cell? ⟨B, (lo) * 2, none⟩ = some (.slice p1 n1 q1) ∧ W.cell? ⟨B, (lo) * 2 + 1, none⟩ = some (.int .i64 yi) ∧ RH rv W0 B N M g W) (first | assumption | exact keepF (by assumption) (by assumption) | exact keepF0 (by assumption)) (first
              | (go_at_call 42; refine (hC.at (by assumption) mx my h0.out h1.out hxi.out hyi.out hl.out).mono ?_; rintro e w3 ⟨cc, rfl, hd, hb3⟩))
            rename_i hh
            obtain ⟨k0, k1, k2, k3, hq2⟩ := hh
            go_wp2
            go_roundg (j - 1)
            case measure => omega
            case rel => exact ⟨j - 1, by rw [jj.out], Nat.le_refl _, hq2, by omega, hfin⟩
          | true =>
            have hfin : i ≤ j → lt g[j]! P = true := fun _ => by rw [← pd, hx.out, hy.out]; exact hl
            replace hfin := Lib.hid hfin
            replace hl := Lib.hid hl
            clear hP pd
            go_wp2_with fail
            go_region_held3 (fun W => W.cell? ⟨B, (j) * 2, none⟩ = some (.slice p0 n0 q0) ∧ W.cell? ⟨B, (j) * 2 + 1, none⟩ = some (.int .i64 xi) ∧ W.cell? ⟨B, (lo) * 2, none⟩ = some (.slice p1 n1 q1) ∧ W.cell? ⟨B, (lo) * 2 + 1, none⟩ = some (.int .i64 yi) ∧ RH rv W0 B N M g W) (first | assumption | exact keepF (by assumption) (by assumption) | exact keepF0 (by assumption)) (first
              | (go_at_call 42; refine (hC.at (by assumption) mx my h0.out h1.out hxi.out hyi.out hl.out).mono ?_; rintro e w3 ⟨cc, rfl, hd, hb3⟩))
            rename_i hh
            obtain ⟨k0, k1, k2, k3, hq2⟩ := hh
            go_wp2_with fail
            go_meet
            exact ⟨j, rfl, hq2, hjj, hQ, hfin⟩
        · have hG : decide ((i : Int) ≤ (j : Int)) = false := by simp; omega
          have hfin : i ≤ j → lt g[j]! P = true := fun h => absurd h hij
          replace hfin := Lib.hid hfin
          clear hP pd
          go_wp2_with fail
          go_quiet (fail)
          go_wp2_with fail
          go_meet
          exact ⟨j, rfl, hq.below (below_drewN (Below.refl _ _) _), hjj, hQ, hfin⟩
    case rest =>
    clear hq hQ
    obtain ⟨j, rfl, hq, hjJ, hQ, hJ⟩ := hcut
    have pa := hQ.out.ai
    have pb := hQ.out.ij
    have pc := hQ.out.jb
    by_cases hij : i ≤ j
    · have hG : decide ((i : Int) > (j : Int)) = false := by simp; omega
      have hlt := PartR.apart hij (hI.out (by omega)) (hJ.out hij)
      have hQ2 := hQ.out.swap hlt (hI.out (by omega)) (hJ.out hij)
      replace hQ2 := Lib.hid hQ2
      have jj : ((j - 1 : Nat) : Int) = (j : Int) - 1 := by omega
      replace jj := Lib.hid jj
      clear hQ hI hJ
      go_upto_region 18 with fail
      go_cut [] from 105 to 162 (fun W' => RH rv W0 B N M (swp g i j) W')
      case first =>
        obtain ⟨a0, a1⟩ := hq.cell (i) (by omega)
        obtain ⟨b0, b1⟩ := hq.cell (j) (by omega)
        have mx := hq.memb (i) (by omega)
        have my := hq.memb (j) (by omega)
        obtain ⟨p0, n0, q0, h0⟩ := hq.sl g[i]!
        obtain ⟨p1, n1, q1, h1⟩ := hq.sl g[j]!
        obtain ⟨x, hx⟩ : ∃ x, g[i]! = x := ⟨_, rfl⟩
        obtain ⟨y, hy⟩ : ∃ y, g[j]! = y := ⟨_, rfl⟩
        obtain ⟨xi, hxi⟩ : ∃ z, (x : Int) = z := ⟨_, rfl⟩
        obtain ⟨yi, hyi⟩ : ∃ z, (y : Int) = z := ⟨_, rfl⟩
        rw [hx] at a0 a1 mx h0
        rw [hy] at b0 b1 my h1
        rw [h0] at a0
        rw [h1] at b0
        rw [hxi] at a1
        rw [hyi] at b1
        replace h0 := Lib.hid h0
        replace h1 := Lib.hid h1
        replace hx := Lib.hid hx
        replace hy := Lib.hid hy
        replace hxi := Lib.hid hxi
        replace hyi := Lib.hid hyi
        have i0 : (0 : Int) ≤ (i : Int) := by omega
        have l0 : (i : Int) < (N : Int) := by omega
        have e0 : ((i : Int)).toNat = i := by omega
        have i1 : (0 : Int) ≤ (j : Int) := by omega
        have l1 : (j : Int) < (N : Int) := by omega
        have e1 : ((j : Int)).toNat = j := by omega
        have f0 := hq.free ((i) * 2)
        have f1 := hq.free ((i) * 2 + 1)
        have f2 := hq.free ((j) * 2)
        have f3 := hq.free ((j) * 2 + 1)
        have hsw := hq.drew.swap (i := i) (j := j) (by omega) (by omega)
        rw [hx.out, hy.out, h0.out, h1.out, hxi.out, hyi.out] at hsw
        replace hsw := Lib.hid hsw
        clear hq
        go_wp2_with fail
        go_region
        go_wp2_with fail
        go_meet
        exact hsw.out
      case rest =>
      clear hq
      go_wp2_with fail
      go_roundg (j - 1 + 1 - (i + 1))
      case measure => omega
      case rel => exact ⟨i + 1, j - 1, _, by first | rfl | go_num, by rw [jj.out], by omega, hcut, hQ2⟩
    · have hG : decide ((i : Int) > (j : Int)) = true := by simp; omega
      have hfin := hQ.out.fin hij
      replace hfin := Lib.hid hfin
      have hlj : lo ≤ j := by omega
      clear hQ hI hJ
      go_upto_region 21 with fail
      go_cut [] from 163 to 176 (fun W' => RH rv W0 B N M (swp g j lo) W')
      case first =>
        by_cases hal : j = lo
        · obtain rfl : j = lo := hal
          obtain ⟨a0, a1⟩ := hq.cell (j) (by omega)
          obtain ⟨p0, n0, q0, h0⟩ := hq.sl g[j]!
          obtain ⟨x, hx⟩ : ∃ x, g[j]! = x := ⟨_, rfl⟩
          obtain ⟨xi, hxi⟩ : ∃ z, (x : Int) = z := ⟨_, rfl⟩
          rw [hx] at a0 a1 h0
          rw [h0] at a0
          rw [hxi] at a1
          have f0 := hq.free ((j) * 2)
          have f1 := hq.free ((j) * 2 + 1)
          have hsw := hq.drew.swap (i := j) (j := j) (by omega) (by omega)
          rw [hx, h0, hxi] at hsw
          replace h0 := Lib.hid h0
          replace hx := Lib.hid hx
          replace hxi := Lib.hid hxi
          replace hsw := Lib.hid hsw
          have i0 : (0 : Int) ≤ (j : Int) := by omega
          have l0 : (j : Int) < (N : Int) := by omega
          have e0 : ((j : Int)).toNat = j := by omega
          clear hq
          go_wp2_with fail
          go_region
          go_wp2_with fail
          go_meet
          exact hsw.out
        · have hal1 : j < lo ∨ lo < j := by omega
          obtain ⟨a0, a1⟩ := hq.cell (j) (by omega)
          obtain ⟨b0, b1⟩ := hq.cell (lo) (by omega)
          have mx := hq.memb (j) (by omega)
          have my := hq.memb (lo) (by omega)
          obtain ⟨p0, n0, q0, h0⟩ := hq.sl g[j]!
          obtain ⟨p1, n1, q1, h1⟩ := hq.sl g[lo]!
          obtain ⟨x, hx⟩ : ∃ x, g[j]! = x := ⟨_, rfl⟩
          obtain ⟨y, hy⟩ : ∃ y, g[lo]! = y := ⟨_, rfl⟩
          obtain ⟨xi, hxi⟩ : ∃ z, (x : Int) = z := ⟨_, rfl⟩
          obtain ⟨yi, hyi⟩ : ∃ z, (y : Int) = z := ⟨_, rfl⟩
          rw [hx] at a0 a1 mx h0
          rw [hy] at b0 b1 my h1
          rw [h0] at a0
          rw [h1] at b0
          rw [hxi] at a1
          rw [hyi] at b1
          replace h0 := Lib.hid h0
          replace h1 := Lib.hid h1
          replace hx := Lib.hid hx
          replace hy := Lib.hid hy
          replace hxi := Lib.hid hxi
          replace hyi := Lib.hid hyi
          have i0 : (0 : Int) ≤ (j : Int) := by omega
          have l0 : (j : Int) < (N : Int) := by omega
          have e0 : ((j : Int)).toNat = j := by omega
          have i1 : (0 : Int) ≤ (lo : Int) := by omega
          have l1 : (lo : Int) < (N : Int) := by omega
          have e1 : ((lo : Int)).toNat = lo := by omega
          have f0 := hq.free ((j) * 2)
          have f1 := hq.free ((j) * 2 + 1)
          have f2 := hq.free ((lo) * 2)
          have f3 := hq.free ((lo) * 2 + 1)
          have hsw := hq.drew.swap (i := j) (j := lo) (by omega) (by omega)
          rw [hx.out, hy.out, h0.out, h1.out, hxi.out, hyi.out] at hsw
          replace hsw := Lib.hid hsw
          clear hq
          go_wp2_with fail
          go_region
          go_wp2_with fail
          go_meet
          exact hsw.out
      case rest =>
      go_wp2_with fail
      refine bodyPost_ret (v := .tuple #[.int .i64 (j : Int), .bool false]) (by simp only [results, Tryz.results100]; go_simp) rfl ?_
      exact ⟨j, false, _, rfl, hcut, hfin.out⟩
  · have hG : decide ((i : Int) > (j : Int)) = true := by simp; omega
    have hfin := hQ.out.fin hij
    replace hfin := Lib.hid hfin
    have hlj : lo ≤ j := by omega
    clear hQ hI hJ
    go_upto_region 8 with fail
    go_cut [] from 72 to 85 (fun W' => RH rv W0 B N M (swp g j lo) W')
    case first =>
      by_cases hal : j = lo
      · obtain rfl : j = lo := hal
        obtain ⟨a0, a1⟩ := hq.cell (j) (by omega)
        obtain ⟨p0, n0, q0, h0⟩ := hq.sl g[j]!
        obtain ⟨x, hx⟩ : ∃ x, g[j]! = x := ⟨_, rfl⟩
        obtain ⟨xi, hxi⟩ : ∃ z, (x : Int) = z := ⟨_, rfl⟩
        rw [hx] at a0 a1 h0
        rw [h0] at a0
        rw [hxi] at a1
        have f0 := hq.free ((j) * 2)
        have f1 := hq.free ((j) * 2 + 1)
        have hsw := hq.drew.swap (i := j) (j := j) (by omega) (by omega)
        rw [hx, h0, hxi] at hsw
        replace h0 := Lib.hid h0
        replace hx := Lib.hid hx
        replace hxi := Lib.hid hxi
        replace hsw := Lib.hid hsw
        have i0 : (0 : Int) ≤ (j : Int) := by omega
        have l0 : (j : Int) < (N : Int) := by omega
        have e0 : ((j : Int)).toNat = j := by omega
        clear hq
        go_wp2_with fail
        go_region
        go_wp2_with fail
        go_meet
        exact hsw.out
      · have hal1 : j < lo ∨ lo < j := by omega
        obtain ⟨a0, a1⟩ := hq.cell (j) (by omega)
        obtain ⟨b0, b1⟩ := hq.cell (lo) (by omega)
        have mx := hq.memb (j) (by omega)
        have my := hq.memb (lo) (by omega)
        obtain ⟨p0, n0, q0, h0⟩ := hq.sl g[j]!
        obtain ⟨p1, n1, q1, h1⟩ := hq.sl g[lo]!
        obtain ⟨x, hx⟩ : ∃ x, g[j]! = x := ⟨_, rfl⟩
        obtain ⟨y, hy⟩ : ∃ y, g[lo]! = y := ⟨_, rfl⟩
        obtain ⟨xi, hxi⟩ : ∃ z, (x : Int) = z := ⟨_, rfl⟩
        obtain ⟨yi, hyi⟩ : ∃ z, (y : Int) = z := ⟨_, rfl⟩
        rw [hx] at a0 a1 mx h0
        rw [hy] at b0 b1 my h1
        rw [h0] at a0
        rw [h1] at b0
        rw [hxi] at a1
        rw [hyi] at b1
        replace h0 := Lib.hid h0
        replace h1 := Lib.hid h1
        replace hx := Lib.hid hx
        replace hy := Lib.hid hy
        replace hxi := Lib.hid hxi
        replace hyi := Lib.hid hyi
        have i0 : (0 : Int) ≤ (j : Int) := by omega
        have l0 : (j : Int) < (N : Int) := by omega
        have e0 : ((j : Int)).toNat = j := by omega
        have i1 : (0 : Int) ≤ (lo : Int) := by omega
        have l1 : (lo : Int) < (N : Int) := by omega
        have e1 : ((lo : Int)).toNat = lo := by omega
        have f0 := hq.free ((j) * 2)
        have f1 := hq.free ((j) * 2 + 1)
        have f2 := hq.free ((lo) * 2)
        have f3 := hq.free ((lo) * 2 + 1)
        have hsw := hq.drew.swap (i := j) (j := lo) (by omega) (by omega)
        rw [hx.out, hy.out, h0.out, h1.out, hxi.out, hyi.out] at hsw
        replace hsw := Lib.hid hsw
        clear hq
        go_wp2_with fail
        go_region
        go_wp2_with fail
        go_meet
        exact hsw.out
    case rest =>
    go_wp2_with fail
    refine bodyPost_ret (v := .tuple #[.int .i64 (j : Int), .bool true]) (by simp only [results, Tryz.results100]; go_simp) rfl ?_
    exact ⟨j, true, _, rfl, hcut, hfin.out⟩
end Go.Proofs.YtdapnemcdgjeeaaGreatDoor.Pdq
