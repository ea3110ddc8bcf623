/- Walks: the library's unstable sort, at rows that are held: the heap. Walks: the library's unstable sort, at rows that are held: the whole. -/
import Derived.Test.YtdapnemcdgjeeaaGreatDoorPdq3
import Derived.Test.YtdapnemcdgjeeaaGreatDoorPdq7
import Derived.Test.YtdapnemcdgjeeaaGreatDoorPdq8
import Derived.Test.YtdapnemcdgjeeaaGreatDoorPdq9
import Derived.Test.YtdapnemcdgjeeaaGreatDoorPdqA
set_option maxRecDepth 100000
set_option linter.unusedVariables false
set_option linter.unusedSimpArgs false
namespace Go.Proofs.YtdapnemcdgjeeaaGreatDoor.Pdq
open Go.RowKit
open Go.Sort (swp siftDown heapBuild heapPop heapSort)

set_option maxHeartbeats 4000000 in
theorem heapSort_is (rv : Nat → Value) (lt : Nat → Nat → Bool) (W0 : World) (B b N M c : Nat) (d0 : Array Nat) (W : World) (lo hi : Nat) (hC : CmpH rv M lt W0 B b) (hR : RH rv W0 B N M d0 W) (hab : lo < hi) (hb : hi ≤ N) (hN : N ≤ 4194304) :
    Calls Tryz.prog 94 #[.slice (some ⟨B, 0, none⟩) N c, .int .i64 (lo : Int), .int .i64 (hi : Int), .func (.func 42) #[.pointer (some ⟨b, 0, none⟩)] #[]] W fun e W' => e = .returned (.tuple #[]) ∧ RH rv W0 B N M (heapSort lt d0 lo hi) W' := by
  obtain ⟨R, hRR⟩ : ∃ R, heapSort lt d0 lo hi = R := ⟨_, rfl⟩
  rw [hRR]
  obtain ⟨L, hL⟩ : ∃ L, L = hi - lo := ⟨_, rfl⟩
  have hL1 : (hi : Int) - (lo : Int) = (L : Int) := by omega
  obtain ⟨K, hK⟩ : ∃ K, K = (L - 1) / 2 := ⟨_, rfl⟩
  have hK1 : ((L : Int) - 1).tdiv 2 = (K : Int) := by
    rw [Int.tdiv_eq_ediv_of_nonneg (by omega)]
    omega
  replace hRR : Hid (heapPop lt lo L (heapBuild lt L lo (K + 1) d0) = R) := Lib.hid (by rw [hK, hL]; exact hRR)
  have hKL : K < L := by omega
  have hLN : lo + L ≤ N := by omega
  clear hL hK
  go_enter Tryz.func94, Tryz.ntmps94
  go_wp2
  go_loopw [11] (fun iv wr => ∃ (k : Nat) (g : Array Nat), iv = .int .i64 ((k : Int) - 1) ∧ k ≤ L ∧ RH rv W0 B N M g wr ∧ Hid (heapPop lt lo L (heapBuild lt L lo k g) = R)) (fun iv _ => (intOf iv + 1).toNat)
  case atStart => exact ⟨K + 1, d0, by first | rfl | (congr 1; omega) | simp, by omega, hR, hRR⟩
  case round =>
    obtain ⟨k, g, rfl, hkL, hq, hQ⟩ := hrel
    clear hRR hR
    by_cases hk : 0 < k
    · have hlB : decide ((k : Int) - 1 ≥ 0) = true := by simp; omega
      obtain ⟨m, rfl⟩ : ∃ m, k = m + 1 := ⟨k - 1, by omega⟩
      have e1 : ((m + 1 : Nat) : Int) - 1 = (m : Int) := by omega
      have hc := sift_is rv lt W0 B b N M c g wr lo m L hC hq hLN (by omega) hN
      have hQ2 : heapPop lt lo L (heapBuild lt L lo m (siftDown lt L lo m g)) = R := hQ.out
      replace hQ2 := Lib.hid hQ2
      clear hQ
      simp only [e1] at hlB ⊢
      go_wp2_with (go_at_call 120; refine hc.mono ?_; rintro e w3 ⟨rfl, hq2⟩)
      go_roundw
      case rel => exact ⟨m, _, rfl, by omega, hq2, hQ2⟩
      case measure => simp [intOf] <;> omega
    · have hlB : decide ((k : Int) - 1 ≥ 0) = false := by simp; omega
      have hk0 : k = 0 := by omega
      have hQ2 : heapPop lt lo L g = R := by
        have hq0 := hQ.out
        rw [hk0] at hq0
        exact hq0
      replace hQ2 := Lib.hid hQ2
      replace hk0 := Lib.hid hk0
      clear hQ
      go_wp2
      go_loopw [12] (fun iv wr => ∃ (k : Nat) (g : Array Nat), iv = .int .i64 ((k : Int) - 1) ∧ k ≤ L ∧ RH rv W0 B N M g wr ∧ Hid (heapPop lt lo k g = R)) (fun iv _ => (intOf iv + 1).toNat)
      case atStart => exact ⟨L, g, by first | rfl | simp, by omega, hq, hQ2⟩
      case round =>
        clear hq hQ2
        obtain ⟨k, g, rfl, hkL, hq, hQ⟩ := hrel
        by_cases hk : 0 < k
        · have hlB : decide ((k : Int) - 1 ≥ 0) = true := by simp; omega
          obtain ⟨m, rfl⟩ : ∃ m, k = m + 1 := ⟨k - 1, by omega⟩
          have e1 : ((m + 1 : Nat) : Int) - 1 = (m : Int) := by omega
          have hQ2 : heapPop lt lo m (siftDown lt m lo 0 (swp g lo (lo + m))) = R := hQ.out
          replace hQ2 := Lib.hid hQ2
          clear hQ
          simp only [e1] at hlB ⊢
          replace e1 := Lib.hid e1
          by_cases hm : 0 < m
          · skip
            obtain ⟨a0, a1⟩ := hq.cell (lo) (by omega)
            obtain ⟨b0, b1⟩ := hq.cell (lo + m) (by omega)
            have mx := hq.memb (lo) (by omega)
            have my := hq.memb (lo + m) (by omega)
            obtain ⟨p0, n0, q0, h0⟩ := hq.sl g[lo]!
            obtain ⟨p1, n1, q1, h1⟩ := hq.sl g[lo + m]!
            obtain ⟨x, hx⟩ : ∃ x, g[lo]! = x := ⟨_, rfl⟩
            obtain ⟨y, hy⟩ : ∃ y, g[lo + m]! = y := ⟨_, rfl⟩
            obtain ⟨xi, hxi⟩ : ∃ z, (x : Int) = z := ⟨_, rfl⟩
            obtain ⟨yi, hyi⟩ : ∃ z, (y : Int) = z := ⟨_, rfl⟩
            rw [hx] at a0 a1 mx h0
            rw [hy] at b0 b1 my h1
            rw [h0] at a0
            rw [h1] at b0
            rw [hxi] at a1
            rw [hyi] at b1
            replace h0 := Lib.hid h0
            replace h1 := Lib.hid h1
            replace hx := Lib.hid hx
            replace hy := Lib.hid hy
            replace hxi := Lib.hid hxi
            replace hyi := Lib.hid hyi
            have i0 : (0 : Int) ≤ (lo : Int) := by omega
            have l0 : (lo : Int) < (N : Int) := by omega
            have e0 : ((lo : Int)).toNat = lo := by omega
            have i1 : (0 : Int) ≤ (lo : Int) + (m : Int) := by omega
            have l1 : (lo : Int) + (m : Int) < (N : Int) := by omega
            have e1 : ((lo : Int) + (m : Int)).toNat = lo + m := by omega
            have w20 : IntKind.i64.wrap ((lo : Int) + (m : Int)) = (lo : Int) + (m : Int) := IntWalk.i64_in _ (by omega)
            have f0 := hq.free ((lo) * 2)
            have f1 := hq.free ((lo) * 2 + 1)
            have f2 := hq.free ((lo + m) * 2)
            have f3 := hq.free ((lo + m) * 2 + 1)
            have hsw := hq.drew.swap (i := lo) (j := lo + m) (by omega) (by omega)
            rw [hx.out, hy.out, h0.out, h1.out, hxi.out, hyi.out] at hsw
            replace hsw := Lib.hid hsw
            have hc := fun W' (h : RH rv W0 B N M (swp g lo (lo + m)) W') => sift_is rv lt W0 B b N M c (swp g lo (lo + m)) W' lo 0 m hC h (by omega) (by omega) hN
            clear hq
            go_wp2_with fail
            go_region
            go_wp2_with (go_at_call 120; refine (hc _ hsw.out).mono ?_; rintro e w3 ⟨rfl, hq2⟩)
            go_roundw
            case rel => exact ⟨m, _, rfl, by omega, hq2, hQ2⟩
            case measure => simp [intOf] <;> omega
          · obtain rfl : m = 0 := by omega
            obtain ⟨a0, a1⟩ := hq.cell (lo) (by omega)
            obtain ⟨p0, n0, q0, h0⟩ := hq.sl g[lo]!
            obtain ⟨x, hx⟩ : ∃ x, g[lo]! = x := ⟨_, rfl⟩
            obtain ⟨xi, hxi⟩ : ∃ z, (x : Int) = z := ⟨_, rfl⟩
            rw [hx] at a0 a1 h0
            rw [h0] at a0
            rw [hxi] at a1
            have f0 := hq.free ((lo) * 2)
            have f1 := hq.free ((lo) * 2 + 1)
            have hsw := hq.drew.swap (i := lo) (j := lo) (by omega) (by omega)
            rw [hx, h0, hxi] at hsw
            replace h0 := Lib.hid h0
            replace hx := Lib.hid hx
            replace hxi := Lib.hid hxi
            replace hsw := Lib.hid hsw
            have i0 : (0 : Int) ≤ (lo : Int) := by omega
            have l0 : (lo : Int) < (N : Int) := by omega
            have e0 : ((lo : Int)).toNat = lo := by omega
            have w20 : IntKind.i64.wrap ((lo : Int) + ((0 : Nat) : Int)) = (lo : Int) + ((0 : Nat) : Int) := IntWalk.i64_in _ (by omega)
            have hc := fun W' (h : RH rv W0 B N M (swp g lo lo) W') => sift_is rv lt W0 B b N M c (swp g lo lo) W' lo 0 0 hC h (by omega) (by omega) hN
            clear hq
            go_wp2_with fail
            go_region
            go_wp2_with (go_at_call 120; refine (hc _ hsw.out).mono ?_; rintro e w3 ⟨rfl, hq2⟩)
            go_roundw
            case rel => exact ⟨0, _, by first | rfl | simp, by omega, hq2, hQ2⟩
            case measure => simp [intOf]
        · have hlB : decide ((k : Int) - 1 ≥ 0) = false := by simp; omega
          obtain rfl : k = 0 := by omega
          have hQ2 : g = R := hQ.out
          subst hQ2
          clear hQ
          go_wp2
          go_end0
          exact ⟨rfl, hq⟩

end Go.Proofs.YtdapnemcdgjeeaaGreatDoor.Pdq

namespace Go.Proofs.YtdapnemcdgjeeaaGreatDoor.Pdq
open Go.RowKit
open Go.Sort (swp PermIn SortedIn SWO partialInsertionSort)

theorem pdq_fin {lt : Nat → Nat → Bool} {lo hi p q : Nat} {d0 g g' : Array Nat} (hI : Inv lt lo hi p q g) (hP : PermIn lo hi d0 g) (h1 : lo ≤ p) (h2 : q ≤ hi) (hs : hi ≤ g.size) (hp : PermIn p q g g') (hs' : SortedIn lt p q g') : PermIn lo hi d0 g' ∧ SortedIn lt lo hi g' :=
  ⟨Go.Sort.permIn_trans _ _ _ _ _ hP (pm _ _ _ _ _ _ h1 h2 hs hp), (hI.perm h1 (by omega) h2 hp).sorted hs'⟩
set_option maxHeartbeats 8000000 in
theorem pdq_is (rv : Nat → Value) (lt : Nat → Nat → Bool) (W0 : World) (B b N M c : Nat) (hS : SWO lt) (hT : ∀ x y, lt x y = false → lt y x = false → x = y) (hC : CmpH rv M lt W0 B b) (hN : N ≤ 4194304) :
    ∀ (n : Nat) (d0 : Array Nat) (W : World) (lo hi limit : Nat), hi - lo < n → RH rv W0 B N M d0 W → lo ≤ hi → hi ≤ N → limit ≤ 4194304 → Go.Sort.Below lt lo hi d0 → Uniq d0 →
    Calls Tryz.prog 71 #[.slice (some ⟨B, 0, none⟩) N c, .int .i64 (lo : Int), .int .i64 (hi : Int), .int .i64 (limit : Int), .func (.func 42) #[.pointer (some ⟨b, 0, none⟩)] #[]] W fun e W' => e = .returned (.tuple #[]) ∧ ∃ g, RH rv W0 B N M g W' ∧ PermIn lo hi d0 g ∧ SortedIn lt lo hi g := by
  replace hT := Lib.hid hT
  intro n
  induction n with
  | zero => intro d0 W lo hi limit h; omega
  | succ n ih =>
  intro d0 W lo hi limit hn hR hlh hhN hlim hB0 hU0
  have hsz0 : hi ≤ d0.size := by rw [hR.size]; exact hhN
  replace hB0 := Lib.hid hB0
  replace hU0 := Lib.hid hU0
  go_enter Tryz.func71, Tryz.ntmps71

  go_wp2_with fail
  go_loopg [1, 2, 3, 10, 11] (hi - lo) (fun k s1 s2 s3 s10 s11 wr => ∃ (p q lim : Nat) (wb wp : Bool) (g : Array Nat), s1 = .int .i64 (p : Int) ∧ s2 = .int .i64 (q : Int) ∧ s3 = .int .i64 (lim : Int) ∧ s10 = .bool wb ∧ s11 = .bool wp ∧ lo ≤ p ∧ p ≤ q ∧ q ≤ hi ∧ q - p ≤ k ∧ k ≤ hi - lo ∧ lim ≤ limit ∧ RH rv W0 B N M g wr ∧ Hid (PermIn lo hi d0 g ∧ Inv lt lo hi p q g))
  case atStart => exact ⟨lo, hi, limit, true, true, d0, rfl, rfl, rfl, rfl, rfl, Nat.le_refl _, hlh, Nat.le_refl _, Nat.le_refl _, Nat.le_refl _, Nat.le_refl _, hR, Lib.hid ⟨Go.Sort.permIn_refl _ _ _, Inv.start lt lo hi d0⟩⟩
  case round =>
  clear hR
  obtain ⟨p, q, lim, wb, wp, g, rfl, rfl, rfl, rfl, rfl, hlp, hpq, hqh, hgk, hkk, hll, hq, hPI⟩ := hrel
  have hgs : hi ≤ g.size := by rw [hq.size]; exact hhN
  have hBel : Go.Sort.Below lt p q g := hPI.out.2.below (below_perm hB0.out hsz0 hPI.out.1) hlp hpq hqh
  have hUg : Uniq g := hU0.out.perm hsz0 hPI.out.1
  have hfin : ∀ g', PermIn p q g g' → SortedIn lt p q g' → PermIn lo hi d0 g' ∧ SortedIn lt lo hi g' := fun g' => pdq_fin hPI.out.2 hPI.out.1 hlp hqh hgs
  replace hBel := Lib.hid hBel
  replace hUg := Lib.hid hUg
  replace hfin := Lib.hid hfin
  obtain ⟨L, hL⟩ : ∃ L, L = q - p := ⟨_, rfl⟩
  have hL1 : (q : Int) - (p : Int) = (L : Int) := by omega
  have hL2 : p + L = q := by omega
  replace hL := Lib.hid hL
  replace hL2 := Lib.hid hL2
  by_cases h12 : L ≤ 12
  · have g1 : decide ((L : Int) ≤ 12) = true := by simp; omega
    have hc := insertion_is rv lt W0 B b N M c p q g wr hC hq hpq (by omega) hN
    have hf := hfin.out _ (Go.Sort.insertionSort_holds hS g p q hpq (by omega)).1 (Go.Sort.insertionSort_holds hS g p q hpq (by omega)).2
    generalize Go.Sort.insertionSort lt g p q = g' at hc hf
    replace hf := Lib.hid hf
    go_wp2_with (go_at_call 93; refine hc.mono ?_; rintro e w1 ⟨rfl, hq1⟩)
    (try simp only [Exit.inBlock, Exit.then]); refine bodyPost_ret (results_none rfl _ _ _) rfl ?_
    exact ⟨rfl, g', hq1, hf.out⟩
  have g1 : decide ((L : Int) ≤ 12) = false := by simp; omega
  have hpq12 : p + 12 < q := by have := hL2.out; omega
  by_cases hl0 : lim = 0
  · have g2 : ((lim : Int) == 0) = true := by simp; omega
    have hc := heapSort_is rv lt W0 B b N M c g wr p q hC hq (by omega) (by omega) hN
    have hf := hfin.out _ (Go.Sort.heapSort_holds hS g p q hpq (by omega)).1 (Go.Sort.heapSort_holds hS g p q hpq (by omega)).2
    generalize Go.Sort.heapSort lt g p q = g' at hc hf
    replace hf := Lib.hid hf
    replace hl0 := Lib.hid hl0
    go_wp2_with (go_at_call 94; refine hc.mono ?_; rintro e w1 ⟨rfl, hq1⟩)
    (try simp only [Exit.inBlock, Exit.then]); refine bodyPost_ret (results_none rfl _ _ _) rfl ?_
    exact ⟨rfl, g', hq1, hf.out⟩
  have g2 : ((lim : Int) == 0) = false := by simp; omega
  go_upto_if 39 with fail
  go_cut [3] from 21 to 147 (fun s3 W' => ∃ (lim' : Nat) (g' : Array Nat), s3 = .int .i64 (lim' : Int) ∧ lim' ≤ limit ∧ RH rv W0 B N M g' W' ∧ Hid (PermIn p q g g'))
  case first =>
    cases wb with
    | false =>
      have hc := break_is rv W0 B b N M c g wr p q hq (by omega) (by omega) hN
      have jj : ((lim - 1 : Nat) : Int) = (lim : Int) - 1 := by omega
      replace jj := Lib.hid jj
      go_wp2_with (go_at_call 95; refine hc.mono ?_; rintro e w1 ⟨rfl, g', hq1, hp1⟩)
      go_meet
      exact ⟨lim - 1, g', by rw [jj.out], by omega, hq1, Lib.hid hp1⟩
    | true =>
      go_wp2_with fail
      go_meet
      exact ⟨lim, g, rfl, hll, hq, Lib.hid (Go.Sort.permIn_refl _ _ _)⟩
  case rest =>
  clear hq hll hl0 g2
  obtain ⟨lim', g', rfl, hll, hq, hp1⟩ := hcut
  have hpv := fun (W : World) (h : RH rv W0 B N M g' W) => pivot_is rv lt W0 B b N M c g' W p q hC h (by omega) (by omega) hN h.lt h.grown.size
  go_upto_if 56 with (go_at_call 96; refine (hpv _ hq).mono ?_; clear hq; rintro e w2 ⟨⟨pv, hint, rfl, hpv1, hpv2, hh⟩, hq⟩)
  go_cut [13, 14] from 21 to 147 (fun s13 s14 W' => ∃ (pv' : Nat) (z : Int) (g2 : Array Nat), s13 = .int .i64 (pv' : Int) ∧ s14 = .int .i64 z ∧ (z = 0 ∨ z = 1) ∧ p ≤ pv' ∧ pv' < q ∧ RH rv W0 B N M g2 W' ∧ Hid (PermIn p q g g2))
  case first =>
    rcases hh with rfl | rfl | rfl
    · go_wp2_with fail
      go_meet
      exact ⟨pv, 0, g', rfl, rfl, .inl rfl, hpv1, hpv2, hq, hp1⟩
    · go_wp2_with fail
      go_meet
      exact ⟨pv, 1, g', rfl, rfl, .inr rfl, hpv1, hpv2, hq, hp1⟩
    · have hc := reverse_is rv W0 B b N M c p q g' w2 hq (by omega) (by omega) hN
      have hp2 := Go.Sort.permIn_trans _ _ _ _ _ hp1.out (Go.Sort.reverseRange_holds g' p q hpq (by rw [hq.size]; omega))
      generalize Go.Sort.reverseRange g' p q = g2 at hc hp2
      replace hp2 := Lib.hid hp2
      have w1 : IntKind.i64.wrap ((q : Int) - 1) = (q : Int) - 1 := IntWalk.i64_in _ (by omega)
      have w2' : IntKind.i64.wrap ((pv : Int) - (p : Int)) = (pv : Int) - (p : Int) := IntWalk.i64_in _ (by omega)
      have w3 : IntKind.i64.wrap ((q : Int) - 1 - ((pv : Int) - (p : Int))) = (q : Int) - 1 - ((pv : Int) - (p : Int)) := IntWalk.i64_in _ (by omega)
      have jj : ((q - 1 - (pv - p) : Nat) : Int) = (q : Int) - 1 - ((pv : Int) - (p : Int)) := by omega
      replace jj := Lib.hid jj
      go_wp2_with (go_at_call 97; refine hc.mono ?_; rintro e w1 ⟨rfl, hq1⟩)
      go_meet
      exact ⟨q - 1 - (pv - p), 1, g2, by rw [jj.out], rfl, .inr rfl, by omega, by omega, hq1, hp2⟩
  case rest =>
  clear hq hp1 hh hpv hpv1 hpv2
  obtain ⟨pv', z, g2, rfl, rfl, hz, hpv1, hpv2, hq, hp2⟩ := hcut
  go_upto_region 15 with fail
  go_cut [75] from 21 to 147 (fun s75 W' => ∃ r : Bool, s75 = .bool r ∧ W' = wc)
  case first =>
    cases wb <;> cases wp <;> rcases hz with rfl | rfl <;>
      (go_wp2_with fail
       go_meet
       exact ⟨_, rfl, rfl⟩)
  case rest =>
  obtain ⟨r, rfl, hwc⟩ := hcut
  subst hwc
  go_upto_if 75 with fail
  go_cut [] from 21 to 147 (fun W' => ∃ g3 : Array Nat, RH rv W0 B N M g3 W' ∧ Hid (PermIn p q g g3))
  case first =>
    cases r with
    | false =>
      go_wp2_with fail
      go_meet
      exact ⟨g2, hq, hp2⟩
    | true =>
      have hc := pins_is rv lt W0 B b N M c g2 _ p q hC hq (by omega) (by omega) hN
      have hB2 : Go.Sort.Below lt p q g2 := below_perm hBel.out (by omega) hp2.out
      obtain ⟨f1, f2⟩ := Go.Sort.partialInsertionSort_holds hS g2 p q (by omega) (by rw [hq.size]; omega) hB2
      obtain ⟨RR, hRR⟩ : ∃ RR, partialInsertionSort lt g2 p q = RR := ⟨_, rfl⟩
      rw [hRR] at hc f1 f2
      obtain ⟨g3, fl⟩ := RR
      have f3 := Go.Sort.permIn_trans _ _ _ _ _ hp2.out f1
      replace f3 := Lib.hid f3
      replace f2 := Lib.hid f2
      clear hRR hB2 f1
      simp only at hc
      cases fl with
      | false =>
        go_wp2_with (go_at_call 98; refine hc.mono ?_; rintro e w4 ⟨rfl, hq4⟩)
        go_meet
        exact ⟨g3, hq4, f3⟩
      | true =>
        have hf := hfin.out g3 f3.out (f2.out rfl)
        replace hf := Lib.hid hf
        go_wp2_with (go_at_call 98; refine hc.mono ?_; rintro e w4 ⟨rfl, hq4⟩)
        (try simp only [Exit.inBlock, Exit.then]); refine bodyPost_ret (results_none rfl _ _ _) rfl ?_
        exact ⟨rfl, g3, hq4, hf.out⟩
  case rest =>
  clear hq hp2
  obtain ⟨g3, hq, hp3⟩ := hcut
  have hg3 : hi ≤ g3.size := by rw [hq.size]; exact hhN
  go_upto_region 17 with fail
  go_cut [97] from 21 to 147 (fun s97 W' => s97 = .bool false ∧ RH rv W0 B N M g3 W')
  case first =>
    by_cases hp0 : 0 < p
    · have g3' : decide ((p : Int) > 0) = true := by simp; omega
      have hlt := pivot_gt hT.out (hUg.out.perm (by omega) hp3.out) (below_perm hBel.out (by omega) hp3.out) hp0 hpv1 hpv2 (by omega)
      obtain ⟨wr0, hwr0⟩ : ∃ w, w = wc := ⟨_, rfl⟩
      obtain ⟨a0, a1⟩ := hq.cell (p - 1) (by omega)
      obtain ⟨b0, b1⟩ := hq.cell (pv') (by omega)
      have mx := hq.memb (p - 1) (by omega)
      have my := hq.memb (pv') (by omega)
      obtain ⟨p0, n0, q0, h0⟩ := hq.sl g3[p - 1]!
      obtain ⟨p1, n1, q1, h1⟩ := hq.sl g3[pv']!
      obtain ⟨x, hx⟩ : ∃ x, g3[p - 1]! = x := ⟨_, rfl⟩
      obtain ⟨y, hy⟩ : ∃ y, g3[pv']! = y := ⟨_, rfl⟩
      obtain ⟨xi, hxi⟩ : ∃ z, (x : Int) = z := ⟨_, rfl⟩
      obtain ⟨yi, hyi⟩ : ∃ z, (y : Int) = z := ⟨_, rfl⟩
      rw [hx] at a0 a1 mx h0
      rw [hy] at b0 b1 my h1
      rw [h0] at a0
      rw [h1] at b0
      rw [hxi] at a1
      rw [hyi] at b1
      replace h0 := Lib.hid h0
      replace h1 := Lib.hid h1
      replace hx := Lib.hid hx
      replace hy := Lib.hid hy
      replace hxi := Lib.hid hxi
      replace hyi := Lib.hid hyi
      have i0 : (0 : Int) ≤ (p : Int) - 1 := by omega
      have l0 : (p : Int) - 1 < (N : Int) := by omega
      have e0 : ((p : Int) - 1).toNat = p - 1 := by omega
      have i1 : (0 : Int) ≤ (pv' : Int) := by omega
      have l1 : (pv' : Int) < (N : Int) := by omega
      have e1 : ((pv' : Int)).toNat = pv' := by omega
      have w20 : IntKind.i64.wrap ((p : Int) - 1) = (p : Int) - 1 := IntWalk.i64_in _ (by omega)
      have i4 : (1 : Int) ≤ (p : Int) := by omega
      have i5 : 1 ≤ p := by omega
      have i7 : p - 1 < N := by omega
      have hl : lt x y = true := by rw [← hx.out, ← hy.out]; exact hlt
      replace hl := Lib.hid hl
      clear hlt hwr0
      have H0 : wc.cell? ⟨B, (p - 1) * 2, none⟩ = some (.slice p0 n0 q0) ∧ wc.cell? ⟨B, (p - 1) * 2 + 1, none⟩ = some (.int .i64 xi) ∧ wc.cell? ⟨B, (pv') * 2, none⟩ = some (.slice p1 n1 q1) ∧ wc.cell? ⟨B, (pv') * 2 + 1, none⟩ = some (.int .i64 yi) ∧ RH rv W0 B N M g3 wc := ⟨a0, a1, b0, b1, hq⟩
      clear hq a0 a1 b0 b1
      go_wp2_with fail
      go_region_held3 (fun W => W.cell? ⟨B, (p - 1) * 2, none⟩ = some (.slice p0 n0 q0) ∧ W.cell? ⟨B, (p - 1) * 2 + 1, none⟩ = some (.int .i64 xi) ∧ W.cell? ⟨B, (pv') * 2, none⟩ = some (.slice p1 n1 q1) ∧ W.cell? ⟨B, (pv') * 2 + 1, none⟩ = some (.int .i64 yi) ∧ RH rv W0 B N M g3 W) (first | assumption | exact keepF (by assumption) (by assumption) | exact keepF0 (by assumption)) (first
        | (go_at_call 42; refine (hC.at (by assumption) mx my h0.out h1.out hxi.out hyi.out hl.out).mono ?_; rintro e w3 ⟨cc, rfl, hd, hb3⟩))
      rename_i hh
      obtain ⟨k0, k1, k2, k3, hq2⟩ := hh
      go_wp2_with fail
      go_meet
      exact ⟨rfl, hq2⟩
    · have g3' : decide ((p : Int) > 0) = false := by simp; omega
      go_wp2_with fail
      go_quiet (fail)
      go_wp2_with fail
      go_meet
      exact ⟨rfl, hq.below (below_drewN (Below.refl _ _) _)⟩
  case rest =>
  clear hq
  obtain ⟨rfl, hq⟩ := hcut
  have hpt := fun (W : World) (h : RH rv W0 B N M g3 W) => partition_is rv lt W0 B b N M c g3 W p q pv' hC h hpv1 hpv2 (by omega) hN
  go_upto_region 21 with (go_at_call 100; refine (hpt _ hq).mono ?_; clear hq; rintro e w5 ⟨mid, ap, g4, rfl, hq, hp4, hPt⟩)
  have hm1 := hPt.lo
  have hm2 := hPt.hi
  have hg4 : hi ≤ g4.size := by rw [hq.size]; exact hhN
  have hp34 := Go.Sort.permIn_trans _ _ _ _ _ hp3.out hp4
  have hP4 : PermIn lo hi d0 g4 := Go.Sort.permIn_trans _ _ _ _ _ hPI.out.1 (pm _ _ _ _ _ _ hlp hqh hgs hp34)
  have hI4 : Inv lt lo hi p q g4 := hPI.out.2.perm hlp (by omega) hqh hp34
  have hB4 : Go.Sort.Below lt p q g4 := below_perm hBel.out (by omega) hp34
  have hU4 : Uniq g4 := hUg.out.perm (by omega) hp34
  have hB4l : Go.Sort.Below lt p mid g4 := hB4.imp id fun h i h1 h2 => h i h1 (by omega)
  have hB4r := hPt.belowR
  replace hPt := Lib.hid hPt
  replace hP4 := Lib.hid hP4
  replace hI4 := Lib.hid hI4
  clear hp34 hp4 hp3 hB4 hUg hBel hPI hpt
  obtain ⟨D1, hD1⟩ : ∃ D, D = mid - p := ⟨_, rfl⟩
  obtain ⟨D2, hD2⟩ : ∃ D, D = q - mid := ⟨_, rfl⟩
  have hD1' : (mid : Int) - (p : Int) = (D1 : Int) := by omega
  have hD2' : (q : Int) - (mid : Int) = (D2 : Int) := by omega
  by_cases h4 : D1 < D2
  · have g4' : decide ((D1 : Int) < (D2 : Int)) = true := by simp; omega
    have hih := ih g4 w5 p mid lim' (by omega) hq hm1 (by omega) (by omega) hB4l hU4
    replace hD1 := Lib.hid hD1
    replace hD2 := Lib.hid hD2
    clear hB4l hB4r hU4
    go_wp2_with (go_at_call 71; refine hih.mono ?_; rintro e w6 ⟨rfl, g5, hq6, hp6, hs6⟩)
    go_roundg (q - (mid + 1))
    case measure => omega
    case rel => exact ⟨mid + 1, q, lim', _, ap, g5, by first | rfl | go_num, rfl, rfl, rfl, rfl, by omega, by omega, hqh, Nat.le_refl _, by omega, hll, hq6, Lib.hid ⟨Go.Sort.permIn_trans _ _ _ _ _ hP4.out (pm _ _ _ _ _ _ hlp (by omega) hg4 hp6), hI4.out.left hS hPt.out hlp hqh (by omega) hp6 hs6⟩⟩
  · have g4' : decide ((D1 : Int) < (D2 : Int)) = false := by simp; omega
    have hih := ih g4 w5 (mid + 1) q lim' (by omega) hq (by omega) (by omega) (by omega) hB4r hU4
    have mm : ((mid + 1 : Nat) : Int) = (mid : Int) + 1 := by omega
    rw [mm] at hih
    replace hD1 := Lib.hid hD1
    replace hD2 := Lib.hid hD2
    replace mm := Lib.hid mm
    clear hB4l hB4r hU4
    go_wp2_with (go_at_call 71; refine hih.mono ?_; rintro e w6 ⟨rfl, g5, hq6, hp6, hs6⟩)
    go_roundg (mid - p)
    case measure => omega
    case rel => exact ⟨p, mid, lim', _, ap, g5, rfl, rfl, rfl, rfl, rfl, hlp, hm1, by omega, Nat.le_refl _, by omega, hll, hq6, Lib.hid ⟨Go.Sort.permIn_trans _ _ _ _ _ hP4.out (pm _ _ _ _ _ _ (by omega) hqh hg4 hp6), hI4.out.right hS hPt.out hlp hqh (by omega) hp6 hs6⟩⟩
/-- THE LIBRARY's SORT -/
theorem sortFunc_is (rv : Nat → Value) (lt : Nat → Nat → Bool) (W0 : World) (B b N M c : Nat) (hS : SWO lt) (hT : ∀ x y, lt x y = false → lt y x = false → x = y) (hC : CmpH rv M lt W0 B b) (hN : N ≤ 4194304) (d0 : Array Nat) (W : World) (hR : RH rv W0 B N M d0 W) (hU : Uniq d0) :
    Calls Tryz.prog 41 #[.slice (some ⟨B, 0, none⟩) N c, .func (.func 42) #[.pointer (some ⟨b, 0, none⟩)] #[]] W fun e W' => e = .returned (.tuple #[]) ∧ ∃ g, RH rv W0 B N M g W' ∧ PermIn 0 N d0 g ∧ SortedIn lt 0 N g := by
  have hLen : ∀ w, Calls Tryz.prog 72 #[.int .u64 (N : Int)] w fun e w' => e = .returned (.int .i64 ((Go.Sort.bitsLen N : Nat) : Int)) ∧ w' = w := fun w => by
    have h := Tryz.bits_Len (N : Int) w (by omega) (by omega)
    rwa [Int.toNat_natCast, bitLen_eq _ (by omega)] at h
  have hk : Go.Sort.bitsLen N ≤ 62 := (Go.Sort.bitsLen_le_iff N 62).2 (by omega)
  have hwr : IntKind.u64.wrap (N : Int) = N := by rw [IntKind.wrap_u64]; omega
  generalize Go.Sort.bitsLen N = k at hLen hk
  have hp := pdq_is rv lt W0 B b N M c hS hT hC hN (N + 1) d0 W 0 N k (by omega) hR (by omega) (Nat.le_refl _) (by omega) (.inl rfl) hU
  rw [show ((0 : Nat) : Int) = 0 from rfl] at hp
  clear hT hS hU hC
  go_enter Tryz.func41, Tryz.ntmps41
  go_wp2_with (first
    | (go_at_call 72; refine (hLen _).mono ?_; rintro e w' ⟨rfl, rfl⟩)
    | (go_at_call 71; refine hp.mono ?_; rintro e w6 ⟨rfl, g5, hq6, hp6, hs6⟩))
  go_end0
  exact ⟨rfl, g5, hq6, hp6, hs6⟩

end Go.Proofs.YtdapnemcdgjeeaaGreatDoor.Pdq

