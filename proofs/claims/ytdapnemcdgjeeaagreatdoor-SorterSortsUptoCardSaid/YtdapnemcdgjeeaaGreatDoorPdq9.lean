/- Walks: the library's unstable sort, at rows that are held: the patterns that are broken. -/
import Derived.Test.YtdapnemcdgjeeaaGreatDoorPdqA
import Derived.Test.YtdapnemcdgjeeaaGreatDoorPdqP
import Derived.Test.YtdapnemcdgjeeaaGreatDoorLib
import Derived.Sort.Walk7a
import Derived.Sort.WalkA14
import Derived.Sort.LotD1
import Derived.Laws.Bits64b
import Derived.Deep.CutBlock
import Derived.Deep.LoopGhost
set_option maxRecDepth 100000
set_option linter.unusedVariables false
set_option linter.unusedSimpArgs false
namespace Go.Proofs.YtdapnemcdgjeeaaGreatDoor.Pdq
open Go.RowKit
open Go.Sort (swp PermIn bitsLen)

/-- the cell of random numbers: in a block that is new -/
structure CntU (W0 W : World) (B s : Nat) : Prop where
  cell : ∃ z : Nat, z < 18446744073709551616 ∧ W.cell? ⟨s, 0, none⟩ = some (.int .u64 (z : Int))
  free : W.frozen? ⟨s, 0, none⟩ = false
  new : W0.heap.size ≤ s
  lt : s < W.heap.size
  ne : s ≠ B
theorem CntU.below {W0 W W' : World} {B s : Nat} (h : CntU W0 W B s) (hb : Below W.heap.size W W') : CntU W0 W' B s := by
  obtain ⟨⟨z, hz0, hz⟩, h2, h3, h4, h5⟩ := h
  exact ⟨⟨z, hz0, (hb.cell (p := ⟨s, 0, none⟩) h4).trans hz⟩, (hb.frozen (p := ⟨s, 0, none⟩) h4).trans h2, h3, Nat.lt_of_lt_of_le h4 hb.size, h5⟩
theorem CntU.set {W0 W : World} {B s : Nat} (h : CntU W0 W B s) (z : Nat) (hz1 : z < 18446744073709551616) : CntU W0 (W.setCell ⟨s, 0, none⟩ (.int .u64 (z : Int))) B s := by
  obtain ⟨⟨z0, _, hz⟩, h2, h3, h4, h5⟩ := h
  exact ⟨⟨z, hz1, World.cell?_setCell_same _ _ _ hz⟩, by rw [World.frozen?_setCell]; exact h2, h3, Nat.lt_of_lt_of_le h4 ((Below.refl 0 W).setCell (p := ⟨s, 0, none⟩) (Nat.zero_le _) (.int .u64 (z : Int))).size, h5⟩
theorem CntU.other {W0 W : World} {B s : Nat} (h : CntU W0 W B s) (o : Nat) (v : Value) : CntU W0 (W.setCell ⟨B, o, none⟩ v) B s := by
  obtain ⟨⟨z, hz0, hz⟩, h2, h3, h4, h5⟩ := h
  exact ⟨⟨z, hz0, (World.cell?_setCell_other _ _ _ _ (fun e => by injection e with e1 _; exact h5 e1.symm)).trans hz⟩, by rw [World.frozen?_setCell]; exact h2, h3, Nat.lt_of_lt_of_le h4 ((Below.refl 0 W).setCell (p := ⟨B, o, none⟩) (Nat.zero_le _) v).size, h5⟩
theorem CntU.fresh {W0 W : World} {B : Nat} (T : TypeId) (z : Nat) (hz : z < 18446744073709551616) (hW : W0.heap.size ≤ W.heap.size) (hB : B < W.heap.size) : CntU W0 (W.alloc (.cells #[.int .u64 (z : Int)] T)) B W.heap.size := by
  have h := heap_new W (.cells #[.int .u64 (z : Int)] T)
  exact ⟨⟨z, hz, by unfold World.cell?; rw [h]; rfl⟩, by unfold World.frozen?; rw [h]; rfl, hW, by simp, fun e => by omega⟩
set_option maxHeartbeats 2000000 in
theorem pow_is (n : Nat) (hn : n < 4611686018427387904) (w : World) : Calls Tryz.prog 121 #[.int .i64 (n : Int)] w fun e w' => e = .returned (.int .u64 ((1 <<< bitsLen n : Nat) : Int)) ∧ w' = w := by
  have hLen : ∀ w, Calls Tryz.prog 72 #[.int .u64 (n : Int)] w fun e w' => e = .returned (.int .i64 ((bitsLen n : Nat) : Int)) ∧ w' = w := fun w => by
    have h := Tryz.bits_Len (n : Int) w (by omega) (by omega)
    rwa [Int.toNat_natCast, bitLen_eq _ (by omega)] at h
  have hk : bitsLen n ≤ 62 := (Go.Sort.bitsLen_le_iff n 62).2 (by omega)
  have hp := wrap_two_pow (bitsLen n) hk
  have hwr : IntKind.u64.wrap (n : Int) = n := by rw [IntKind.wrap_u64]; omega
  generalize bitsLen n = k at hLen hk hp ⊢
  go_enter Tryz.func121, Tryz.ntmps121
  go_wp2_with (go_at_call 72; refine (hLen _).mono ?_; rintro e w' ⟨rfl, rfl⟩)
  go_ret
  exact ⟨rfl, rfl⟩
set_option maxHeartbeats 4000000 in
theorem next_is (s X : Nat) (W : World) (hX : X < 18446744073709551616) (hc : W.cell? ⟨s, 0, none⟩ = some (.int .u64 (X : Int))) (hf : W.frozen? ⟨s, 0, none⟩ = false) :
    Calls Tryz.prog 122 #[.pointer (some ⟨s, 0, none⟩)] W fun e w' => ∃ Y : Nat, Y < 18446744073709551616 ∧ e = .returned (.int .u64 (Y : Int)) ∧ w' = (W.setCell ⟨s, 0, none⟩ (.int .u64 (Y : Int))).drewN 3 := by
  obtain ⟨Y1, h1⟩ : ∃ Y1 : Nat, Y1 = X ^^^ (X * 8192 % 18446744073709551616) := ⟨_, rfl⟩
  obtain ⟨Y2, h2⟩ : ∃ Y2 : Nat, Y2 = Y1 ^^^ (Y1 / 128) := ⟨_, rfl⟩
  obtain ⟨Y3, h3⟩ : ∃ Y3 : Nat, Y3 = Y2 ^^^ (Y2 * 131072 % 18446744073709551616) := ⟨_, rfl⟩
  have l1 : Y1 < 18446744073709551616 := by rw [h1]; exact Nat.xor_lt_two_pow (n := 64) (by omega) (by omega)
  have l2 : Y2 < 18446744073709551616 := by rw [h2]; exact Nat.xor_lt_two_pow (n := 64) (by omega) (by omega)
  have l3 : Y3 < 18446744073709551616 := by rw [h3]; exact Nat.xor_lt_two_pow (n := 64) (by omega) (by omega)
  have e1 : bits .xor .u64 (X : Int) (IntKind.u64.wrap ((X : Int) * 8192)) = (Y1 : Int) := by
    have z : IntKind.u64.wrap ((X : Int) * 8192) = ((X * 8192 % 18446744073709551616 : Nat) : Int) := by rw [IntKind.wrap_u64]; omega
    rw [z, bits_xor_u64_nat _ _ hX (by omega), h1]
  have e2 : bits .xor .u64 (Y1 : Int) ((Y1 : Int) / 128) = (Y2 : Int) := by
    have z : ((Y1 : Int) / 128) = ((Y1 / 128 : Nat) : Int) := by omega
    rw [z, bits_xor_u64_nat _ _ l1 (by omega), h2]
  have e3 : bits .xor .u64 (Y2 : Int) (IntKind.u64.wrap ((Y2 : Int) * 131072)) = (Y3 : Int) := by
    have z : IntKind.u64.wrap ((Y2 : Int) * 131072) = ((Y2 * 131072 % 18446744073709551616 : Nat) : Int) := by rw [IntKind.wrap_u64]; omega
    rw [z, bits_xor_u64_nat _ _ l2 (by omega), h3]
  clear h1 h2 h3
  have hss : ∀ v v', (W.setCell ⟨s, 0, none⟩ v).setCell ⟨s, 0, none⟩ v' = W.setCell ⟨s, 0, none⟩ v' := setCell_setCell W s 0
  go_enter Tryz.func122, Tryz.ntmps122
  go_wp2
  go_region
  all_goals go_wp2
  all_goals go_region
  all_goals go_wp2
  all_goals go_region
  all_goals go_wp2
  go_ret
  exact ⟨Y3, l3, rfl, rfl⟩
theorem nextU (rv : Nat → Value) (W0 : World) (B N M s : Nat) (g : Array Nat) (W : World) (hq : RH rv W0 B N M g W ∧ CntU W0 W B s) :
    Calls Tryz.prog 122 #[.pointer (some ⟨s, 0, none⟩)] W fun e w' => (∃ Y : Nat, Y < 18446744073709551616 ∧ e = .returned (.int .u64 (Y : Int))) ∧ RH rv W0 B N M g w' ∧ CntU W0 w' B s := by
  obtain ⟨hR, hs⟩ := hq
  obtain ⟨X, hX, hc⟩ := hs.cell
  refine (next_is s X W hX hc hs.free).mono ?_
  rintro e w' ⟨Y, hY, rfl, rfl⟩
  exact ⟨⟨Y, hY, rfl⟩, (hR.setNew hs.new hs.ne _).below (below_drewN (Below.refl _ _) _), (hs.set Y hY).below (below_drewN (Below.refl _ _) _)⟩
set_option maxHeartbeats 4000000 in
theorem break_is (rv : Nat → Value) (W0 : World) (B b N M c : Nat) (d0 : Array Nat) (W : World) (lo hi : Nat) (hR : RH rv W0 B N M d0 W) (hab : lo + 8 ≤ hi) (hb : hi ≤ N) (hN : N ≤ 4194304) :
    Calls Tryz.prog 95 #[.slice (some ⟨B, 0, none⟩) N c, .int .i64 (lo : Int), .int .i64 (hi : Int), .func (.func 42) #[.pointer (some ⟨b, 0, none⟩)] #[]] W fun e W' => e = .returned (.tuple #[]) ∧ ∃ g, RH rv W0 B N M g W' ∧ PermIn lo hi d0 g := by
  have hBW := hR.lt
  have hW := hR.grown.size
  have hsz : hi ≤ d0.size := by rw [hR.size]; exact hb
  obtain ⟨L, hL⟩ : ∃ L, L = hi - lo := ⟨_, rfl⟩
  have hL1 : (hi : Int) - (lo : Int) = (L : Int) := by omega
  have hL2 : lo + L ≤ hi := by omega
  have hL3 : hi ≤ lo + L := by omega
  obtain ⟨K, hK⟩ : ∃ K, K = L / 4 := ⟨_, rfl⟩
  have hK1 : (L : Int) / 4 = (K : Int) := by omega
  have hK2 : 4 * K ≤ L := by omega
  have hK3 : L < 4 * K + 4 := by omega
  obtain ⟨Z, hZ⟩ : ∃ Z, Z = lo + K * 2 := ⟨_, rfl⟩
  have hZ1 : (lo : Int) + (K : Int) * 2 = (Z : Int) := by omega
  have hZ2 : lo + 2 ≤ Z := by omega
  have hZ3 : Z + 2 ≤ hi := by omega
  have hpow := pow_is L (by omega)
  have hp1 := Go.Sort.two_pow_bitsLen_le (n := L) (by omega)
  have hp2 := Go.Sort.lt_two_pow_bitsLen L
  obtain ⟨mo, hmo⟩ : ∃ mo, 1 <<< bitsLen L = mo := ⟨_, rfl⟩
  rw [hmo] at hpow
  rw [← Nat.one_shiftLeft, hmo] at hp1 hp2
  obtain ⟨m1, hm1⟩ : ∃ m1, mo = m1 + 1 := ⟨mo - 1, by omega⟩
  subst hm1
  have hm2 : IntKind.u64.wrap (((m1 + 1 : Nat) : Int) - 1) = (m1 : Int) := by rw [IntKind.wrap_u64]; omega
  have hLu : IntKind.u64.wrap (L : Int) = (L : Int) := by rw [IntKind.wrap_u64]; omega
  have hz0 : ((Z - 1 : Nat) : Int) = (Z : Int) - 1 := by omega
  have w20 : IntKind.i64.wrap ((K : Int) * 2) = (K : Int) * 2 := IntWalk.i64_in _ (by omega)
  have w21 : IntKind.i64.wrap (Z : Int) = (Z : Int) := IntWalk.i64_in _ (by omega)
  have w22 : IntKind.i64.wrap ((Z : Int) - 1) = (Z : Int) - 1 := IntWalk.i64_in _ (by omega)
  have w23 : IntKind.i64.wrap ((Z : Int) + 1) = (Z : Int) + 1 := IntWalk.i64_in _ (by omega)
  replace hz0 := Lib.hid hz0
  clear hL hK hZ hmo
  have g8 : decide ((L : Int) ≥ 8) = true := by simp; omega
  go_enter Tryz.func95, Tryz.ntmps95

  go_upto_region 3 with fail
  have hs := CntU.fresh (W := W) 180 L (by omega) hW hBW
  have hq := hR.below ((Below.refl W.heap.size W).alloc (Nat.le_refl _) (.cells #[.int .u64 (L : Int)] 180))
  generalize hgs : W.heap.size = s at hs hq ⊢
  generalize hgW : W.alloc (.cells #[.int .u64 (L : Int)] 180) = W1 at hs hq ⊢
  clear hgs hgW hR hBW hW
  go_wp2_with (go_at_call 121; refine (hpow _).mono ?_; rintro e w1 ⟨rfl, rfl⟩)
  go_loopg [11] (Z + 2) (fun k s11 wr => ∃ (i : Nat) (g : Array Nat), s11 = .int .i64 (i : Int) ∧ Z ≤ i + 1 ∧ i ≤ Z + 2 ∧ Z + 2 - i ≤ k ∧ RH rv W0 B N M g wr ∧ CntU W0 wr B s ∧ Hid (PermIn lo hi d0 g))
  case atStart => exact ⟨Z - 1, d0, by rw [hz0.out], by omega, by omega, by omega, hq, hs, Lib.hid (Go.Sort.permIn_refl _ _ _)⟩
  case round =>
  clear hq hs
  obtain ⟨i, g, rfl, hi1, hi2, hgk, hq, hs, hP⟩ := hrel
  have hgs : hi ≤ g.size := by rw [hq.size]; exact hb
  by_cases hij : i < Z + 2
  · have hG : decide ((i : Int) ≤ (Z : Int) + 1) = true := by simp; omega
    go_upto_region 8 with (go_at_call 122; refine (nextU rv W0 B N M s g _ ⟨hq, hs⟩).mono ?_; clear hq hs; rintro e w2 ⟨⟨Y, hY, rfl⟩, hq, hs⟩; have hand := bits_and_u64_nat Y m1 hY (by omega); obtain ⟨V, hV⟩ : ∃ V, Y &&& m1 = V := ⟨_, rfl⟩; have hV1 : V ≤ m1 := (by rw [← hV]; exact Nat.and_le_right); rw [hV] at hand; clear hV)
    obtain ⟨O, hO⟩ : ∃ O, O = if L ≤ V then V - L else V := ⟨_, rfl⟩
    have hOL : O < L := by rw [hO]; split <;> omega
    replace hO := Lib.hid hO
    go_upto_if 45 with fail
    go_cut [12] from 38 to 48 (fun v W' => v = .int .i64 (O : Int) ∧ W' = w2)
    case first =>
      by_cases hv : L ≤ V
      · have hG2 : decide ((V : Int) ≥ (L : Int)) = true := by simp; omega
        have hO2 : (O : Int) = (V : Int) - (L : Int) := by have := hO.out; rw [if_pos hv] at this; omega
        replace hO2 := Lib.hid hO2
        go_wp2_with fail
        go_meet
        exact ⟨by rw [hO2.out], rfl⟩
      · have hG2 : decide ((V : Int) ≥ (L : Int)) = false := by simp; omega
        have hO2 : O = V := by have := hO.out; rw [if_neg hv] at this; exact this
        replace hO2 := Lib.hid hO2
        go_wp2_with fail
        go_meet
        exact ⟨by rw [hO2.out], rfl⟩
    case rest =>
    obtain ⟨rfl, hwc⟩ := hcut
    subst hwc
    obtain ⟨pp, hpp⟩ : ∃ pp, lo + O = pp := ⟨_, rfl⟩
    have hpp1 : (lo : Int) + (O : Int) = (pp : Int) := by omega
    have hpp2 : lo ≤ pp := by omega
    have hpp3 : pp < hi := by omega
    have wpp : IntKind.i64.wrap (pp : Int) = (pp : Int) := IntWalk.i64_in _ (by omega)
    have hP2 : PermIn lo hi d0 (swp g i pp) := Go.Sort.permIn_trans _ _ _ _ _ hP.out (Go.Sort.swp_permIn g lo hi i pp (by omega) (by omega) hpp2 hpp3 hgs)
    replace hP2 := Lib.hid hP2
    clear hpp hP hO
    by_cases hal : i = pp
    · obtain rfl : i = pp := hal
      obtain ⟨a0, a1⟩ := hq.cell (i) (by omega)
      obtain ⟨p0, n0, q0, h0⟩ := hq.sl g[i]!
      obtain ⟨x, hx⟩ : ∃ x, g[i]! = x := ⟨_, rfl⟩
      obtain ⟨xi, hxi⟩ : ∃ z, (x : Int) = z := ⟨_, rfl⟩
      rw [hx] at a0 a1 h0
      rw [h0] at a0
      rw [hxi] at a1
      have f0 := hq.free ((i) * 2)
      have f1 := hq.free ((i) * 2 + 1)
      have hsw := hq.drew.swap (i := i) (j := i) (by omega) (by omega)
      rw [hx, h0, hxi] at hsw
      replace h0 := Lib.hid h0
      replace hx := Lib.hid hx
      replace hxi := Lib.hid hxi
      replace hsw := Lib.hid hsw
      have i0 : (0 : Int) ≤ (i : Int) := by omega
      have l0 : (i : Int) < (N : Int) := by omega
      have e0 : ((i : Int)).toNat = i := by omega
      clear hq
      go_wp2_with fail
      go_region
      go_wp2
      go_roundg (Z + 2 - (i + 1))
      case measure => omega
      case rel => exact ⟨i + 1, _, by first | rfl | go_num, by omega, by omega, Nat.le_refl _, hsw.out, ((((hs.below (Below.refl _ _).drew).other _ _).other _ _).other _ _).other _ _, hP2⟩
    · have hal1 : i < pp ∨ pp < i := by omega
      obtain ⟨a0, a1⟩ := hq.cell (i) (by omega)
      obtain ⟨b0, b1⟩ := hq.cell (pp) (by omega)
      have mx := hq.memb (i) (by omega)
      have my := hq.memb (pp) (by omega)
      obtain ⟨p0, n0, q0, h0⟩ := hq.sl g[i]!
      obtain ⟨p1, n1, q1, h1⟩ := hq.sl g[pp]!
      obtain ⟨x, hx⟩ : ∃ x, g[i]! = x := ⟨_, rfl⟩
      obtain ⟨y, hy⟩ : ∃ y, g[pp]! = y := ⟨_, rfl⟩
      obtain ⟨xi, hxi⟩ : ∃ z, (x : Int) = z := ⟨_, rfl⟩
      obtain ⟨yi, hyi⟩ : ∃ z, (y : Int) = z := ⟨_, rfl⟩
      rw [hx] at a0 a1 mx h0
      rw [hy] at b0 b1 my h1
      rw [h0] at a0
      rw [h1] at b0
      rw [hxi] at a1
      rw [hyi] at b1
      replace h0 := Lib.hid h0
      replace h1 := Lib.hid h1
      replace hx := Lib.hid hx
      replace hy := Lib.hid hy
      replace hxi := Lib.hid hxi
      replace hyi := Lib.hid hyi
      have i0 : (0 : Int) ≤ (i : Int) := by omega
      have l0 : (i : Int) < (N : Int) := by omega
      have e0 : ((i : Int)).toNat = i := by omega
      have i1 : (0 : Int) ≤ (pp : Int) := by omega
      have l1 : (pp : Int) < (N : Int) := by omega
      have e1 : ((pp : Int)).toNat = pp := by omega
      have f0 := hq.free ((i) * 2)
      have f1 := hq.free ((i) * 2 + 1)
      have f2 := hq.free ((pp) * 2)
      have f3 := hq.free ((pp) * 2 + 1)
      have hsw := hq.drew.swap (i := i) (j := pp) (by omega) (by omega)
      rw [hx.out, hy.out, h0.out, h1.out, hxi.out, hyi.out] at hsw
      replace hsw := Lib.hid hsw
      clear hq
      go_wp2_with fail
      go_region
      go_wp2
      go_roundg (Z + 2 - (i + 1))
      case measure => omega
      case rel => exact ⟨i + 1, _, by first | rfl | go_num, by omega, by omega, Nat.le_refl _, hsw.out, ((((hs.below (Below.refl _ _).drew).other _ _).other _ _).other _ _).other _ _, hP2⟩
  · have hG : decide ((i : Int) ≤ (Z : Int) + 1) = false := by simp; omega
    go_wp2_with fail
    go_end0
    exact ⟨rfl, g, hq, hP.out⟩
end Go.Proofs.YtdapnemcdgjeeaaGreatDoor.Pdq
