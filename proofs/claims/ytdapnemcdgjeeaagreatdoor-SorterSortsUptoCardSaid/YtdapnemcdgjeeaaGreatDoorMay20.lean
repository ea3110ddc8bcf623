/- Rows that may (layer 20's may). -/
import Derived.Test.YtdapnemcdgjeeaaGreatDoorSame
import Derived.Test.YtdapnemcdgjeeaaGreatDoorRwsA
import Derived.Test.YtdapnemcdgjeeaaGreatDoorVCopy
import Derived.Deep.RegionHeld3
set_option maxRecDepth 100000
set_option linter.unusedVariables false
set_option linter.unusedSimpArgs false
namespace Go.Proofs.YtdapnemcdgjeeaaGreatDoor
open Go.RowKit
open Go.Proofs.YtdapnemcdgjeeaaGreatDoor.Ord (atV firstV standV mayRow MRow)

/-- whether all values of all rows may -/
def mayRows (rows : List (List Val.V)) : Bool := rows.all fun r => r.all Val.may
theorem mayRows_all {rows : List (List Val.V)} (h : mayRows rows = true) : ∀ r ∈ rows, mayRow r := fun r hr v hv => by
  have := List.all_eq_true.1 h r hr
  exact List.all_eq_true.1 this v hv
set_option maxHeartbeats 1000000 in
theorem mayRows_is (p : Option Addr) (N c : Nat) (rows : List (List Val.V)) (w : World) (hR : RowsAt w p N rows) (hB : RowsB rows) (b : Bool) (hb : Hid (mayRows rows = b)) :
    Calls Tryz.prog 9 #[.slice p N c] w fun e w' => e = .returned (.bool b) ∧ Below w.heap.size w w' := by
  have hlen := hR.1
  have hN : N ≤ 8388608 := by rw [← hlen]; exact hB.1
  replace hlen := Lib.hid hlen
  replace hB := Lib.hid hB
  go_enter Tryz.func9, Tryz.ntmps9
  go_wp2
  go_loopw [3] (fun iv wr => ∃ i : Nat, iv = .int .i64 (i : Int) ∧ i ≤ N ∧ Hid (mayRows (rows.take i) = true) ∧ Below w.heap.size w wr) (fun iv _ => N - (intOf iv).toNat)
  case atStart => exact ⟨0, by go_num, by omega, Lib.hid (by simp [mayRows]), Below.refl _ _⟩
  case round =>
    obtain ⟨i, rfl, hi, hall, hB1⟩ := hrel
    by_cases hlt : i < N
    · have hlB : decide ((i : Int) < (N : Int)) = true := by simp; omega
      obtain ⟨s, b1, off, p1, c1, hs, rfl, hbl, k0, hs1, hv1⟩ := (hR.below hB1).at hlt
      have hmem := List.mem_of_getElem? hs
      have hsl := (hB.out.2 s hmem).1
      have hti : rows.take (i + 1) = rows.take i ++ [s] := by rw [List.take_add_one, hs]; rfl
      have i0 : (0 : Int) ≤ (i : Int) := by omega
      have i1 : (i : Int) < (N : Int) := by omega
      clear hs
      cases hm : s.all Val.may with
      | false =>
        have hc : vcheck s = 2 := by rw [vcheck, if_neg (by rw [hm]; decide)]
        have hbt : mayRows rows = false := by
          cases hx : mayRows rows with
          | false => rfl
          | true => have := List.all_eq_true.1 hx s hmem; rw [hm] at this; cases this
        rw [hb.out] at hbt
        subst hbt
        replace hm := Lib.hid hm
        replace hc := Lib.hid hc
        clear hti hmem
        have k2 := rcheck_any p1 s.length c1 s wr hv1 hsl
        rw [hc.out] at k2
        go_wp2_with (go_at_call 22; refine k2.mono ?_; rintro e w1 ⟨rfl, hb1⟩)
        go_ret
        exact ⟨rfl, hB1.trans (hb1.mono hB1.size)⟩
      | true =>
        have hc : vcheck s = 0 ∨ vcheck s = 3 := by
          rw [vcheck, if_pos hm]
          split
          · exact .inr rfl
          · exact .inl rfl
        have hall2 : mayRows (rows.take (i + 1)) = true := by
          have := hall.out
          unfold mayRows at this ⊢
          rw [hti, List.all_append, this, List.all_cons, hm]
          rfl
        replace hm := Lib.hid hm
        replace hall2 := Lib.hid hall2
        clear hti hmem hall
        have k2 := rcheck_any p1 s.length c1 s wr hv1 hsl
        rcases hc with hc | hc
        all_goals (
          rw [hc] at k2
          replace hc := Lib.hid hc
          go_wp2_with (go_at_call 22; refine k2.mono ?_; rintro e w1 ⟨rfl, hb1⟩)
          go_roundw
          case rel => exact ⟨i + 1, by go_num, by omega, hall2, hB1.trans (hb1.mono hB1.size)⟩
          case measure => simp [intOf]; omega)
    · have hlB : decide ((i : Int) < (N : Int)) = false := by simp; omega
      have hall2 := hall.out
      rw [List.take_of_length_le (by rw [hlen.out]; omega), hb.out] at hall2
      subst hall2
      clear hall
      go_wp2
      go_ret
      exact ⟨rfl, hB1⟩
end Go.Proofs.YtdapnemcdgjeeaaGreatDoor
