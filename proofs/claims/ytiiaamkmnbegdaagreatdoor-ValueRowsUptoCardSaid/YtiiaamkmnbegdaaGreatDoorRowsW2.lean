/- Walks: PrintRow of the reference. -/
import Derived.Test.YtiiaamkmnbegdaaGreatDoorRowsW1
import Derived.Test.YtiiaamkmnbegdaaGreatDoorLib
namespace Go.Proofs.YtiiaamkmnbegdaaGreatDoor
set_option maxRecDepth 100000
set_option linter.unusedVariables false
set_option linter.unusedSimpArgs false
open Go.RowKit

theorem rrow_bad (p : Option Addr) (N c : Nat) (vs : List Val.V) (w : World) (hA : ValsAt w p N vs) (hN : N ≤ 1048576) (h : vcheck vs ≠ 0) :
    Calls Tryz.prog 6 #[.slice p N c] w fun e w' => e = .returned (.tuple #[.string ⟨#[]⟩, .int .i64 (vcheck vs : Int)]) ∧ Below w.heap.size w w' := by
  have b1 : ((vcheck vs : Int) != 0) = true := by simp; omega
  clear h
  go_enter Tryz.func6, Tryz.ntmps6
  go_wp2_with (go_at_call 13; refine (rcheck_any p N c vs _ hA hN).mono ?_; rintro e w1 ⟨rfl, hb1⟩)
  go_ret2
  exact ⟨rfl, hb1⟩

theorem vcheck_len {vs : List Val.V} (h : vcheck vs = 0) : vs.length ≤ 16 := by
  unfold vcheck at h
  split at h
  · split at h
    · cases h
    · omega
  · cases h

set_option maxHeartbeats 1000000 in
theorem rrow_good (p : Option Addr) (N c : Nat) (vs : List Val.V) (w : World) (hA : ValsAt w p N vs) (hN : N ≤ 1048576) (h : vcheck vs = 0) (hI : ∀ v ∈ vs, v.text.length ≤ 1048576 ∧ -9223372036854775808 ≤ v.int ∧ v.int ≤ 9223372036854775807) (hL : Lits w) :
    Calls Tryz.prog 6 #[.slice p N c] w fun e w' => e = .returned (.tuple #[.string (bs (Lib.join (Val.litsOf vs) [44])), .int .i64 0]) ∧ Below w.heap.size w w' := by
  have hlen := hA.1
  have h16 := vcheck_len h
  replace hI := Lib.hid hI
  replace hlen := Lib.hid hlen
  have h' : (vcheck vs : Int) = 0 := by omega
  replace h' := Lib.hid h'
  clear h
  go_enter Tryz.func6, Tryz.ntmps6
  go_wp2_with (go_at_call 13; refine (rcheck_any p N c vs _ hA hN).mono ?_; rintro e w1 ⟨rfl, hb1⟩; rw [h'.out])
  go_loopw [5, 6] (fun so iv wr => ∃ (i : Nat) (S : ByteArray), so = .string S ∧ iv = .int .i64 (i : Int) ∧ i ≤ N ∧ Hid (S = bs (Lib.join (Val.litsOf (vs.take i)) [44])) ∧ Below w.heap.size w wr) (fun _ iv _ => N - (intOf iv).toNat)
  case atStart => exact ⟨0, ⟨#[]⟩, rfl, by go_num, by omega, Lib.hid rfl, hb1⟩
  case round =>
    obtain ⟨i, S, rfl, rfl, hi, hS, hB⟩ := hrel
    have hLr := hL.below hB
    by_cases hlt : i < N
    · obtain ⟨v, hv⟩ : ∃ v, vs[i]? = some v := ⟨_, List.getElem?_eq_getElem (by rw [hlen.out]; exact hlt)⟩
      have hvi := hI.out v (List.mem_of_getElem? hv)
      rcases (hA.below hB).2 with h0 | ⟨b, off, rfl, hbl, hcell⟩
      · rw [h0] at hv; simp at hv
      · obtain ⟨c0, c1, c2⟩ := hcell i v hv
        have hsn := Val.litsOf_snoc hv
        have hyl := Val.print_short v hvi.2.1 hvi.2.2
        have hjl := Val.joinB_len (Val.litsOf (vs.take i)) 1000 44 (by
          intro x hx
          obtain ⟨u, hu, rfl⟩ := List.mem_map.1 hx
          have hu' := hI.out u (List.mem_of_mem_take hu)
          exact Val.print_short u hu'.2.1 hu'.2.2)
        have hSl : S.size ≤ 20000 := by
          have e1 : S.size = (Lib.join (Val.litsOf (vs.take i)) [44]).length := by rw [hS.out, bs_size]
          have e2 : (Val.litsOf (vs.take i)).length ≤ 16 := by rw [Val.litsOf, List.length_map, List.length_take]; omega
          have : (Val.litsOf (vs.take i)).length * 1001 ≤ 16 * 1001 := Nat.mul_le_mul_right _ e2
          omega
        obtain ⟨kd, n, tx⟩ := v
        obtain ⟨t, rfl⟩ : ∃ t : ByteArray, tx = t.data.toList := ⟨bs tx, rfl⟩
        rw [bs_of] at c2
        simp only at c0 c1 c2 hvi
        have hts : t.size ≤ 1048576 := hvi.1
        have hn0 := hvi.2.1
        have hn1 := hvi.2.2
        obtain ⟨⟨y, E⟩, hpr⟩ : ∃ q, Val.print ⟨kd, n, t.data.toList⟩ = q := ⟨_, rfl⟩
        rw [hpr] at hsn hyl
        have hY : (bs y).size ≤ 1000 := by rw [bs_size]; exact hyl
        obtain ⟨Y, hYe⟩ : ∃ Y, bs y = Y := ⟨_, rfl⟩
        rw [hYe] at hY
        have z1 : ¬ 9223372036854775807 < S.size + 1 := by omega
        have z2 : ¬ 9223372036854775807 < S.size + 1 + Y.size := by omega
        have z3 : ¬ 9223372036854775807 < S.size + Y.size := by omega
        have b1 : w.heap.size ≤ wr.heap.size := hB.size
        have hlB : decide ((i : Int) < (N : Int)) = true := by simp; omega
        replace hpr := Lib.hid hpr
        clear hcell hvi hjl hyl
        by_cases h0 : i = 0
        · have hn : S ++ Y = bs (Lib.join (Val.litsOf (vs.take (i + 1))) [44]) := by
            rw [hsn, hS.out, ← hYe, h0]
            simp [Val.litsOf, Lib.join_one, Lib.join_nil, bs_app]
          have hgB : decide ((i : Int) > 0) = false := by simp; omega
          have hg : ¬ 0 < i := by omega
          replace hn := Lib.hid hn
          replace hYe := Lib.hid hYe
          clear hv hsn h0
          go_wp2_with (go_at_call 14; refine (rprint_is kd n t _ hpr hts hn0 hn1 hLr).mono ?_; rintro e w2 ⟨rfl, hb2⟩; rw [hYe.out])
          go_roundw
          case rel => exact ⟨i + 1, _, rfl, by go_num, by omega, hn, hB.trans (hb2.mono b1)⟩
          case measure => simp [intOf]; omega
        · have hn : S ++ ⟨#[44]⟩ ++ Y = bs (Lib.join (Val.litsOf (vs.take (i + 1))) [44]) := by
            have hne : Val.litsOf (vs.take i) ≠ [] := by
              intro hh
              have := congrArg List.length hh
              rw [Val.litsOf, List.length_map, List.length_take] at this
              have e := hlen.out
              simp only [List.length_nil] at this
              omega
            rw [hsn, Val.join_snoc _ _ _ hne, hS.out, ← hYe, bs_one, bs_app, bs_app]
          have hgB : decide ((i : Int) > 0) = true := by simp; omega
          have hg : 0 < i := by omega
          replace hn := Lib.hid hn
          replace hYe := Lib.hid hYe
          clear hv hsn h0
          go_wp2_with (go_at_call 14; refine (rprint_is kd n t _ hpr hts hn0 hn1 hLr).mono ?_; rintro e w2 ⟨rfl, hb2⟩; rw [hYe.out])
          go_roundw
          case rel => exact ⟨i + 1, _, rfl, by go_num, by omega, hn, hB.trans (hb2.mono b1)⟩
          case measure => simp [intOf]; omega
    · have hiN : i = N := by omega
      subst hiN
      have hlB : decide ((i : Int) < (i : Int)) = false := by simp
      have hall : S = bs (Lib.join (Val.litsOf vs) [44]) := by
        have := hS.out
        rwa [List.take_of_length_le (by rw [hlen.out]; omega)] at this
      replace hall := Lib.hid hall
      clear hS
      go_wp2
      go_ret2
      exact ⟨by rw [← hall.out]; rfl, hB⟩

end Go.Proofs.YtiiaamkmnbegdaaGreatDoor
