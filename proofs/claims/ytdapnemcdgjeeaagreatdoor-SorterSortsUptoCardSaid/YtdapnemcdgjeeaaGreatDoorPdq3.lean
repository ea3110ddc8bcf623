/- Walks: the library's unstable sort, at rows that are held: the heap: one that sinks. -/
import Derived.Test.YtdapnemcdgjeeaaGreatDoorPdqA
set_option maxRecDepth 100000
set_option linter.unusedVariables false
set_option linter.unusedSimpArgs false
namespace Go.Proofs.YtdapnemcdgjeeaaGreatDoor.Pdq
open Go.RowKit
open Go.Sort (swp siftDown)

theorem sift_end (lt : Nat → Nat → Bool) (hi F r : Nat) (d : Array Nat) (h : ¬ 2 * r + 1 < hi) : siftDown lt hi F r d = d := by
  unfold siftDown
  rw [dif_pos (by omega)]
/-- the greater child is the left one -/
theorem sift_left (lt : Nat → Nat → Bool) (hi F r k : Nat) (d : Array Nat) (hk : k = 2 * r + 1) (h : k < hi) (hc : ¬ k + 1 < hi ∨ lt d[F + k]! d[F + k + 1]! = false) :
    siftDown lt hi F r d = if lt d[F + r]! d[F + k]! then siftDown lt hi F k (swp d (F + r) (F + k)) else d := by
  subst hk
  conv => lhs; unfold siftDown
  rw [dif_neg (by omega), if_neg]
  · cases lt d[F + r]! d[F + (2 * r + 1)]! <;> simp
  · intro hx
    simp only [Bool.and_eq_true, decide_eq_true_eq] at hx
    rcases hc with hc | hc
    · omega
    · rw [hc] at hx; cases hx.2
theorem sift_right (lt : Nat → Nat → Bool) (hi F r k m : Nat) (d : Array Nat) (hk : k = 2 * r + 1) (hm : m = k + 1) (h : m < hi) (hc : lt d[F + k]! d[F + k + 1]! = true) :
    siftDown lt hi F r d = if lt d[F + r]! d[F + m]! then siftDown lt hi F m (swp d (F + r) (F + m)) else d := by
  subst hk
  subst hm
  conv => lhs; unfold siftDown
  rw [dif_neg (by omega), if_pos (by simp only [Bool.and_eq_true, decide_eq_true_eq]; exact ⟨by omega, hc⟩)]
  show (if (!lt d[F + r]! d[F + (2 * r + 1 + 1)]!) = true then d else _) = _
  cases lt d[F + r]! d[F + (2 * r + 1 + 1)]! with
  | true => simp only [Bool.not_true, Bool.false_eq_true, if_false, if_true]; rw [dif_pos (by omega)]
  | false => simp
set_option maxHeartbeats 8000000 in
theorem sift_is (rv : Nat → Value) (lt : Nat → Nat → Bool) (W0 : World) (B b N M c : Nat) (d0 : Array Nat) (W : World) (F lo hi : Nat) (hC : CmpH rv M lt W0 B b) (hR : RH rv W0 B N M d0 W) (hb : F + hi ≤ N) (hlo : lo < N) (hN : N ≤ 4194304) :
    Calls Tryz.prog 120 #[.slice (some ⟨B, 0, none⟩) N c, .int .i64 (lo : Int), .int .i64 (hi : Int), .int .i64 (F : Int), .func (.func 42) #[.pointer (some ⟨b, 0, none⟩)] #[]] W fun e W' => e = .returned (.tuple #[]) ∧ RH rv W0 B N M (siftDown lt hi F lo d0) W' := by
  obtain ⟨R, hRR⟩ : ∃ R, siftDown lt hi F lo d0 = R := ⟨_, rfl⟩
  rw [hRR]
  replace hRR := Lib.hid hRR
  go_enter Tryz.func120, Tryz.ntmps120
  go_wp2
  go_loopw [10] (fun iv wr => ∃ (r : Nat) (g : Array Nat), iv = .int .i64 (r : Int) ∧ r < N ∧ RH rv W0 B N M g wr ∧ Hid (siftDown lt hi F r g = R)) (fun iv _ => hi - (intOf iv).toNat)
  case atStart => exact ⟨lo, d0, rfl, hlo, hR, hRR⟩
  case round =>
    obtain ⟨r, g, rfl, hrN, hq, hQ⟩ := hrel
    clear hRR hR
    obtain ⟨k, hk⟩ : ∃ k, k = 2 * r + 1 := ⟨_, rfl⟩
    have hk1 : 2 * (r : Int) + 1 = (k : Int) := by omega
    have hk2 : k ≤ 2 * r + 1 := by omega
    have hk3 : 2 * r + 1 ≤ k := by omega
    clear hk
    by_cases hlt : k < hi
    · have g1 : decide ((k : Int) ≥ (hi : Int)) = false := by simp; omega
      have w20 : IntKind.i64.wrap ((k : Int) + 1) = (k : Int) + 1 := IntWalk.i64_in _ (by omega)
      have w21 : IntKind.i64.wrap ((F : Int) + (k : Int)) = (F : Int) + (k : Int) := IntWalk.i64_in _ (by omega)
      have w22 : IntKind.i64.wrap ((F : Int) + (k : Int) + 1) = (F : Int) + (k : Int) + 1 := IntWalk.i64_in _ (by omega)
      have w23 : IntKind.i64.wrap ((F : Int) + (r : Int)) = (F : Int) + (r : Int) := IntWalk.i64_in _ (by omega)
      by_cases h2 : k + 1 < hi
      · have g2 : decide ((k : Int) + 1 < (hi : Int)) = true := by simp; omega
        suffices hh : ∀ (r1 : Bool), lt g[F + k]! g[F + k + 1]! = r1 → _ from hh _ rfl
        intro r1 hr1
        obtain ⟨a0, a1⟩ := hq.cell (F + k) (by omega)
        obtain ⟨b0, b1⟩ := hq.cell (F + k + 1) (by omega)
        have mx := hq.memb (F + k) (by omega)
        have my := hq.memb (F + k + 1) (by omega)
        obtain ⟨p0, n0, q0, h0⟩ := hq.sl g[F + k]!
        obtain ⟨p1, n1, q1, h1⟩ := hq.sl g[F + k + 1]!
        obtain ⟨x, hx⟩ : ∃ x, g[F + k]! = x := ⟨_, rfl⟩
        obtain ⟨y, hy⟩ : ∃ y, g[F + k + 1]! = y := ⟨_, rfl⟩
        obtain ⟨xi, hxi⟩ : ∃ z, (x : Int) = z := ⟨_, rfl⟩
        obtain ⟨yi, hyi⟩ : ∃ z, (y : Int) = z := ⟨_, rfl⟩
        rw [hx] at a0 a1 mx h0
        rw [hy] at b0 b1 my h1
        rw [h0] at a0
        rw [h1] at b0
        rw [hxi] at a1
        rw [hyi] at b1
        replace h0 := Lib.hid h0
        replace h1 := Lib.hid h1
        replace hx := Lib.hid hx
        replace hy := Lib.hid hy
        replace hxi := Lib.hid hxi
        replace hyi := Lib.hid hyi
        have i2 : (0 : Int) ≤ (F : Int) + (k : Int) := by omega
        have l2 : (F : Int) + (k : Int) < (N : Int) := by omega
        have e2 : ((F : Int) + (k : Int)).toNat = F + k := by omega
        have i3 : (0 : Int) ≤ (F : Int) + (k : Int) + 1 := by omega
        have l3 : (F : Int) + (k : Int) + 1 < (N : Int) := by omega
        have e3 : ((F : Int) + (k : Int) + 1).toNat = F + k + 1 := by omega
        have H0 : wr.cell? ⟨B, (F + k) * 2, none⟩ = some (.slice p0 n0 q0) ∧ wr.cell? ⟨B, (F + k) * 2 + 1, none⟩ = some (.int .i64 xi) ∧ wr.cell? ⟨B, (F + k + 1) * 2, none⟩ = some (.slice p1 n1 q1) ∧ wr.cell? ⟨B, (F + k + 1) * 2 + 1, none⟩ = some (.int .i64 yi) ∧ RH rv W0 B N M g wr := ⟨a0, a1, b0, b1, hq⟩
        clear hq a0 a1 b0 b1
        have hl : lt x y = r1 := by rw [← hx.out, ← hy.out]; exact hr1
        replace hl := Lib.hid hl
        cases r1 with
        | false =>
          have hsel : ¬ k + 1 < hi ∨ lt g[F + k]! g[F + k + 1]! = false := .inr hr1
          replace hsel := Lib.hid hsel
          replace hr1 := Lib.hid hr1
          go_wp2_with fail
          go_region_held3 (fun W => W.cell? ⟨B, (F + k) * 2, none⟩ = some (.slice p0 n0 q0) ∧ W.cell? ⟨B, (F + k) * 2 + 1, none⟩ = some (.int .i64 xi) ∧ W.cell? ⟨B, (F + k + 1) * 2, none⟩ = some (.slice p1 n1 q1) ∧ W.cell? ⟨B, (F + k + 1) * 2 + 1, none⟩ = some (.int .i64 yi) ∧ RH rv W0 B N M g W) (first | assumption | exact keepF (by assumption) (by assumption) | exact keepF0 (by assumption)) (first
            | (go_at_call 42; refine (hC.at (by assumption) mx my h0.out h1.out hxi.out hyi.out hl.out).mono ?_; rintro e w3 ⟨cc, rfl, hd, hb3⟩))
          rename_i hh
          obtain ⟨k0, k1, k2, k3, hq⟩ := hh
          clear k0 k1 k2 k3 mx my h0 h1 hx hy hxi hyi hl
          obtain ⟨a0, a1⟩ := hq.cell (F + r) (by omega)
          obtain ⟨b0, b1⟩ := hq.cell (F + k) (by omega)
          have mx := hq.memb (F + r) (by omega)
          have my := hq.memb (F + k) (by omega)
          obtain ⟨p0, n0, q0, h0⟩ := hq.sl g[F + r]!
          obtain ⟨p1, n1, q1, h1⟩ := hq.sl g[F + k]!
          obtain ⟨x, hx⟩ : ∃ x, g[F + r]! = x := ⟨_, rfl⟩
          obtain ⟨y, hy⟩ : ∃ y, g[F + k]! = y := ⟨_, rfl⟩
          obtain ⟨xi, hxi⟩ : ∃ z, (x : Int) = z := ⟨_, rfl⟩
          obtain ⟨yi, hyi⟩ : ∃ z, (y : Int) = z := ⟨_, rfl⟩
          rw [hx] at a0 a1 mx h0
          rw [hy] at b0 b1 my h1
          rw [h0] at a0
          rw [h1] at b0
          rw [hxi] at a1
          rw [hyi] at b1
          replace h0 := Lib.hid h0
          replace h1 := Lib.hid h1
          replace hx := Lib.hid hx
          replace hy := Lib.hid hy
          replace hxi := Lib.hid hxi
          replace hyi := Lib.hid hyi
          have i0 : (0 : Int) ≤ (F : Int) + (r : Int) := by omega
          have l0 : (F : Int) + (r : Int) < (N : Int) := by omega
          have e0 : ((F : Int) + (r : Int)).toNat = F + r := by omega
          have i1 : (0 : Int) ≤ (F : Int) + (k : Int) := by omega
          have l1 : (F : Int) + (k : Int) < (N : Int) := by omega
          have e1 : ((F : Int) + (k : Int)).toNat = F + k := by omega
          have H0 : w3.cell? ⟨B, (F + r) * 2, none⟩ = some (.slice p0 n0 q0) ∧ w3.cell? ⟨B, (F + r) * 2 + 1, none⟩ = some (.int .i64 xi) ∧ w3.cell? ⟨B, (F + k) * 2, none⟩ = some (.slice p1 n1 q1) ∧ w3.cell? ⟨B, (F + k) * 2 + 1, none⟩ = some (.int .i64 yi) ∧ RH rv W0 B N M g w3 := ⟨a0, a1, b0, b1, hq⟩
          clear hq a0 a1 b0 b1
          cases hl : lt x y with
          | true =>
            have hfin : siftDown lt hi F k (swp g (F + r) (F + k)) = R := by
              rw [← hQ.out, sift_left lt hi F r k g (by omega) (by omega) hsel.out, hx.out, hy.out, if_pos hl]
            replace hfin := Lib.hid hfin
            replace hl := Lib.hid hl
            go_wp2_with fail
            go_region_held3 (fun W => W.cell? ⟨B, (F + r) * 2, none⟩ = some (.slice p0 n0 q0) ∧ W.cell? ⟨B, (F + r) * 2 + 1, none⟩ = some (.int .i64 xi) ∧ W.cell? ⟨B, (F + k) * 2, none⟩ = some (.slice p1 n1 q1) ∧ W.cell? ⟨B, (F + k) * 2 + 1, none⟩ = some (.int .i64 yi) ∧ RH rv W0 B N M g W) (first | assumption | exact keepF (by assumption) (by assumption) | exact keepF0 (by assumption)) (first
              | (go_at_call 42; refine (hC.at (by assumption) mx my h0.out h1.out hxi.out hyi.out hl.out).mono ?_; rintro e w3 ⟨cc, rfl, hd, hb3⟩))
            rename_i hh
            obtain ⟨k0, k1, k2, k3, hq2⟩ := hh
            have f0 := hq2.free ((F + r) * 2)
            have f1 := hq2.free ((F + r) * 2 + 1)
            have f2 := hq2.free ((F + k) * 2)
            have f3 := hq2.free ((F + k) * 2 + 1)
            have hsw := hq2.drew.swap (i := F + r) (j := F + k) (by omega) (by omega)
            rw [hx.out, hy.out, h0.out, h1.out, hxi.out, hyi.out] at hsw
            replace hsw := Lib.hid hsw
            clear hq2
            go_wp2_with fail
            go_region
            go_wp2
            go_roundw
            case rel => exact ⟨k, _, rfl, by omega, hsw.out, hfin⟩
            case measure => simp [intOf]; omega
          | false =>
            have hfin : g = R := by
              rw [← hQ.out, sift_left lt hi F r k g (by omega) (by omega) hsel.out, hx.out, hy.out, if_neg (by rw [hl]; decide)]
            subst hfin
            replace hl := Lib.hid hl
            go_wp2_with fail
            go_region_held3 (fun W => W.cell? ⟨B, (F + r) * 2, none⟩ = some (.slice p0 n0 q0) ∧ W.cell? ⟨B, (F + r) * 2 + 1, none⟩ = some (.int .i64 xi) ∧ W.cell? ⟨B, (F + k) * 2, none⟩ = some (.slice p1 n1 q1) ∧ W.cell? ⟨B, (F + k) * 2 + 1, none⟩ = some (.int .i64 yi) ∧ RH rv W0 B N M g W) (first | assumption | exact keepF (by assumption) (by assumption) | exact keepF0 (by assumption)) (first
              | (go_at_call 42; refine (hC.at (by assumption) mx my h0.out h1.out hxi.out hyi.out hl.out).mono ?_; rintro e w3 ⟨cc, rfl, hd, hb3⟩))
            rename_i hh
            obtain ⟨k0, k1, k2, k3, hq2⟩ := hh
            go_wp2
            refine bodyPost_ret (v := .tuple #[]) (by simp only [results, Tryz.results120]; go_simp) rfl ?_
            exact ⟨rfl, hq2⟩
        | true =>
          have hsel := Lib.hid hr1
          replace hr1 := Lib.hid hr1
          obtain ⟨m, hm⟩ : ∃ m, m = k + 1 := ⟨_, rfl⟩
          go_wp2_with fail
          go_region_held3 (fun W => W.cell? ⟨B, (F + k) * 2, none⟩ = some (.slice p0 n0 q0) ∧ W.cell? ⟨B, (F + k) * 2 + 1, none⟩ = some (.int .i64 xi) ∧ W.cell? ⟨B, (F + k + 1) * 2, none⟩ = some (.slice p1 n1 q1) ∧ W.cell? ⟨B, (F + k + 1) * 2 + 1, none⟩ = some (.int .i64 yi) ∧ RH rv W0 B N M g W) (first | assumption | exact keepF (by assumption) (by assumption) | exact keepF0 (by assumption)) (first
            | (go_at_call 42; refine (hC.at (by assumption) mx my h0.out h1.out hxi.out hyi.out hl.out).mono ?_; rintro e w3 ⟨cc, rfl, hd, hb3⟩))
          rename_i hh
          obtain ⟨k0, k1, k2, k3, hq⟩ := hh
          clear k0 k1 k2 k3 mx my h0 h1 hx hy hxi hyi hl
          have hm1 : (k : Int) + 1 = (m : Int) := by omega
          have hm2 : m ≤ k + 1 := by omega
          have hm3 : k + 1 ≤ m := by omega
          clear hm
          have w90 : IntKind.i64.wrap ((F : Int) + (m : Int)) = (F : Int) + (m : Int) := IntWalk.i64_in _ (by omega)
          obtain ⟨a0, a1⟩ := hq.cell (F + r) (by omega)
          obtain ⟨b0, b1⟩ := hq.cell (F + m) (by omega)
          have mx := hq.memb (F + r) (by omega)
          have my := hq.memb (F + m) (by omega)
          obtain ⟨p0, n0, q0, h0⟩ := hq.sl g[F + r]!
          obtain ⟨p1, n1, q1, h1⟩ := hq.sl g[F + m]!
          obtain ⟨x, hx⟩ : ∃ x, g[F + r]! = x := ⟨_, rfl⟩
          obtain ⟨y, hy⟩ : ∃ y, g[F + m]! = y := ⟨_, rfl⟩
          obtain ⟨xi, hxi⟩ : ∃ z, (x : Int) = z := ⟨_, rfl⟩
          obtain ⟨yi, hyi⟩ : ∃ z, (y : Int) = z := ⟨_, rfl⟩
          rw [hx] at a0 a1 mx h0
          rw [hy] at b0 b1 my h1
          rw [h0] at a0
          rw [h1] at b0
          rw [hxi] at a1
          rw [hyi] at b1
          replace h0 := Lib.hid h0
          replace h1 := Lib.hid h1
          replace hx := Lib.hid hx
          replace hy := Lib.hid hy
          replace hxi := Lib.hid hxi
          replace hyi := Lib.hid hyi
          have i0 : (0 : Int) ≤ (F : Int) + (r : Int) := by omega
          have l0 : (F : Int) + (r : Int) < (N : Int) := by omega
          have e0 : ((F : Int) + (r : Int)).toNat = F + r := by omega
          have i1 : (0 : Int) ≤ (F : Int) + (m : Int) := by omega
          have l1 : (F : Int) + (m : Int) < (N : Int) := by omega
          have e1 : ((F : Int) + (m : Int)).toNat = F + m := by omega
          have H0 : w3.cell? ⟨B, (F + r) * 2, none⟩ = some (.slice p0 n0 q0) ∧ w3.cell? ⟨B, (F + r) * 2 + 1, none⟩ = some (.int .i64 xi) ∧ w3.cell? ⟨B, (F + m) * 2, none⟩ = some (.slice p1 n1 q1) ∧ w3.cell? ⟨B, (F + m) * 2 + 1, none⟩ = some (.int .i64 yi) ∧ RH rv W0 B N M g w3 := ⟨a0, a1, b0, b1, hq⟩
          clear hq a0 a1 b0 b1
          cases hl : lt x y with
          | true =>
            have hfin : siftDown lt hi F m (swp g (F + r) (F + m)) = R := by
              rw [← hQ.out, sift_right lt hi F r k m g (by omega) (by omega) (by omega) hsel.out, hx.out, hy.out, if_pos hl]
            replace hfin := Lib.hid hfin
            replace hl := Lib.hid hl
            go_wp2_with fail
            go_region_held3 (fun W => W.cell? ⟨B, (F + r) * 2, none⟩ = some (.slice p0 n0 q0) ∧ W.cell? ⟨B, (F + r) * 2 + 1, none⟩ = some (.int .i64 xi) ∧ W.cell? ⟨B, (F + m) * 2, none⟩ = some (.slice p1 n1 q1) ∧ W.cell? ⟨B, (F + m) * 2 + 1, none⟩ = some (.int .i64 yi) ∧ RH rv W0 B N M g W) (first | assumption | exact keepF (by assumption) (by assumption) | exact keepF0 (by assumption)) (first
              | (go_at_call 42; refine (hC.at (by assumption) mx my h0.out h1.out hxi.out hyi.out hl.out).mono ?_; rintro e w3 ⟨cc, rfl, hd, hb3⟩))
            rename_i hh
            obtain ⟨k0, k1, k2, k3, hq2⟩ := hh
            have f0 := hq2.free ((F + r) * 2)
            have f1 := hq2.free ((F + r) * 2 + 1)
            have f2 := hq2.free ((F + m) * 2)
            have f3 := hq2.free ((F + m) * 2 + 1)
            have hsw := hq2.drew.swap (i := F + r) (j := F + m) (by omega) (by omega)
            rw [hx.out, hy.out, h0.out, h1.out, hxi.out, hyi.out] at hsw
            replace hsw := Lib.hid hsw
            clear hq2
            go_wp2_with fail
            go_region
            go_wp2
            go_roundw
            case rel => exact ⟨m, _, rfl, by omega, hsw.out, hfin⟩
            case measure => simp [intOf]; omega
          | false =>
            have hfin : g = R := by
              rw [← hQ.out, sift_right lt hi F r k m g (by omega) (by omega) (by omega) hsel.out, hx.out, hy.out, if_neg (by rw [hl]; decide)]
            subst hfin
            replace hl := Lib.hid hl
            go_wp2_with fail
            go_region_held3 (fun W => W.cell? ⟨B, (F + r) * 2, none⟩ = some (.slice p0 n0 q0) ∧ W.cell? ⟨B, (F + r) * 2 + 1, none⟩ = some (.int .i64 xi) ∧ W.cell? ⟨B, (F + m) * 2, none⟩ = some (.slice p1 n1 q1) ∧ W.cell? ⟨B, (F + m) * 2 + 1, none⟩ = some (.int .i64 yi) ∧ RH rv W0 B N M g W) (first | assumption | exact keepF (by assumption) (by assumption) | exact keepF0 (by assumption)) (first
              | (go_at_call 42; refine (hC.at (by assumption) mx my h0.out h1.out hxi.out hyi.out hl.out).mono ?_; rintro e w3 ⟨cc, rfl, hd, hb3⟩))
            rename_i hh
            obtain ⟨k0, k1, k2, k3, hq2⟩ := hh
            go_wp2
            refine bodyPost_ret (v := .tuple #[]) (by simp only [results, Tryz.results120]; go_simp) rfl ?_
            exact ⟨rfl, hq2⟩
      · have g2 : decide ((k : Int) + 1 < (hi : Int)) = false := by simp; omega
        have g3 : decide (IntKind.i64.wrap ((k : Int) + 1) < (hi : Int)) = false := by rw [w20]; exact g2
        have hsel : ¬ k + 1 < hi ∨ lt g[F + k]! g[F + k + 1]! = false := .inl h2
        replace hsel := Lib.hid hsel
        go_wp2_with fail
        go_quiet (fail)
        replace hq := hq.below (below_drewN (Below.refl _ wr) nq)
        generalize hwq : wr.drewN nq = wq at hq ⊢
        clear hwq
        obtain ⟨a0, a1⟩ := hq.cell (F + r) (by omega)
        obtain ⟨b0, b1⟩ := hq.cell (F + k) (by omega)
        have mx := hq.memb (F + r) (by omega)
        have my := hq.memb (F + k) (by omega)
        obtain ⟨p0, n0, q0, h0⟩ := hq.sl g[F + r]!
        obtain ⟨p1, n1, q1, h1⟩ := hq.sl g[F + k]!
        obtain ⟨x, hx⟩ : ∃ x, g[F + r]! = x := ⟨_, rfl⟩
        obtain ⟨y, hy⟩ : ∃ y, g[F + k]! = y := ⟨_, rfl⟩
        obtain ⟨xi, hxi⟩ : ∃ z, (x : Int) = z := ⟨_, rfl⟩
        obtain ⟨yi, hyi⟩ : ∃ z, (y : Int) = z := ⟨_, rfl⟩
        rw [hx] at a0 a1 mx h0
        rw [hy] at b0 b1 my h1
        rw [h0] at a0
        rw [h1] at b0
        rw [hxi] at a1
        rw [hyi] at b1
        replace h0 := Lib.hid h0
        replace h1 := Lib.hid h1
        replace hx := Lib.hid hx
        replace hy := Lib.hid hy
        replace hxi := Lib.hid hxi
        replace hyi := Lib.hid hyi
        have i0 : (0 : Int) ≤ (F : Int) + (r : Int) := by omega
        have l0 : (F : Int) + (r : Int) < (N : Int) := by omega
        have e0 : ((F : Int) + (r : Int)).toNat = F + r := by omega
        have i1 : (0 : Int) ≤ (F : Int) + (k : Int) := by omega
        have l1 : (F : Int) + (k : Int) < (N : Int) := by omega
        have e1 : ((F : Int) + (k : Int)).toNat = F + k := by omega
        have H0 : wq.cell? ⟨B, (F + r) * 2, none⟩ = some (.slice p0 n0 q0) ∧ wq.cell? ⟨B, (F + r) * 2 + 1, none⟩ = some (.int .i64 xi) ∧ wq.cell? ⟨B, (F + k) * 2, none⟩ = some (.slice p1 n1 q1) ∧ wq.cell? ⟨B, (F + k) * 2 + 1, none⟩ = some (.int .i64 yi) ∧ RH rv W0 B N M g wq := ⟨a0, a1, b0, b1, hq⟩
        clear hq a0 a1 b0 b1
        cases hl : lt x y with
        | true =>
          have hfin : siftDown lt hi F k (swp g (F + r) (F + k)) = R := by
            rw [← hQ.out, sift_left lt hi F r k g (by omega) (by omega) hsel.out, hx.out, hy.out, if_pos hl]
          replace hfin := Lib.hid hfin
          replace hl := Lib.hid hl
          go_wp2_with fail
          go_region_held3 (fun W => W.cell? ⟨B, (F + r) * 2, none⟩ = some (.slice p0 n0 q0) ∧ W.cell? ⟨B, (F + r) * 2 + 1, none⟩ = some (.int .i64 xi) ∧ W.cell? ⟨B, (F + k) * 2, none⟩ = some (.slice p1 n1 q1) ∧ W.cell? ⟨B, (F + k) * 2 + 1, none⟩ = some (.int .i64 yi) ∧ RH rv W0 B N M g W) (first | assumption | exact keepF (by assumption) (by assumption) | exact keepF0 (by assumption)) (first
            | (go_at_call 42; refine (hC.at (by assumption) mx my h0.out h1.out hxi.out hyi.out hl.out).mono ?_; rintro e w3 ⟨cc, rfl, hd, hb3⟩))
          rename_i hh
          obtain ⟨k0, k1, k2, k3, hq2⟩ := hh
          have f0 := hq2.free ((F + r) * 2)
          have f1 := hq2.free ((F + r) * 2 + 1)
          have f2 := hq2.free ((F + k) * 2)
          have f3 := hq2.free ((F + k) * 2 + 1)
          have hsw := hq2.drew.swap (i := F + r) (j := F + k) (by omega) (by omega)
          rw [hx.out, hy.out, h0.out, h1.out, hxi.out, hyi.out] at hsw
          replace hsw := Lib.hid hsw
          clear hq2
          go_wp2_with fail
          go_region
          go_wp2
          go_roundw
          case rel => exact ⟨k, _, rfl, by omega, hsw.out, hfin⟩
          case measure => simp [intOf]; omega
        | false =>
          have hfin : g = R := by
            rw [← hQ.out, sift_left lt hi F r k g (by omega) (by omega) hsel.out, hx.out, hy.out, if_neg (by rw [hl]; decide)]
          subst hfin
          replace hl := Lib.hid hl
          go_wp2_with fail
          go_region_held3 (fun W => W.cell? ⟨B, (F + r) * 2, none⟩ = some (.slice p0 n0 q0) ∧ W.cell? ⟨B, (F + r) * 2 + 1, none⟩ = some (.int .i64 xi) ∧ W.cell? ⟨B, (F + k) * 2, none⟩ = some (.slice p1 n1 q1) ∧ W.cell? ⟨B, (F + k) * 2 + 1, none⟩ = some (.int .i64 yi) ∧ RH rv W0 B N M g W) (first | assumption | exact keepF (by assumption) (by assumption) | exact keepF0 (by assumption)) (first
            | (go_at_call 42; refine (hC.at (by assumption) mx my h0.out h1.out hxi.out hyi.out hl.out).mono ?_; rintro e w3 ⟨cc, rfl, hd, hb3⟩))
          rename_i hh
          obtain ⟨k0, k1, k2, k3, hq2⟩ := hh
          go_wp2
          refine bodyPost_ret (v := .tuple #[]) (by simp only [results, Tryz.results120]; go_simp) rfl ?_
          exact ⟨rfl, hq2⟩
    · have g1 : decide ((k : Int) ≥ (hi : Int)) = true := by simp; omega
      have hfin : g = R := by rw [← hQ.out, sift_end lt hi F r g (by omega)]
      subst hfin
      go_wp2
      go_end0
      exact ⟨rfl, hq⟩

end Go.Proofs.YtdapnemcdgjeeaaGreatDoor.Pdq
