/- Walks: the law CalcLogic. -/
import Derived.Test.YthdpgekjbkpomaaGreatDoorCalcLG
import Derived.Test.YthdpgekjbkpomaaGreatDoorCalcLG2
import Derived.Test.YthdpgekjbkpomaaGreatDoorCalcLG3
set_option maxRecDepth 100000
set_option linter.unusedVariables false
set_option linter.unusedSimpArgs false
namespace Go.Proofs.YthdpgekjbkpomaaGreatDoor
open Go.RowKit

theorem nott_is_may {v : Val.V} (h : Val.may v = true) : Val.may (Val.nott v) = true := by rw [Val.nott_may h]; exact Val.may_three _
theorem two_is_may {op : Int} {a b : Val.V} {c : Int} (h : 13 ≤ op ∧ op ≤ 22) (ha : Val.may a = true) (hb : Val.may b = true) : Val.may (Val.two op a b c) = true := by
  obtain ⟨k, n, e, _⟩ := two_form (op := op) (c := c) h ha hb
  rw [Val.two_makes (by omega) ha hb, Val.makes, if_neg (by omega), if_neg (by omega)]
  have hl : ∀ s x y, Val.may (Val.logic s x y) = true := by
    intro s x y
    unfold Val.logic
    split
    · exact Val.may_three _
    · split
      · decide
      · exact Val.may_three _
  split
  · exact hl _ _ _
  · split
    · exact hl _ _ _
    · split
      · decide
      · exact Val.may_bool _
theorem calc_logic (ka na : Int) (ta : ByteArray) (kb nb : Int) (tb : ByteArray) (c : Int) (w : World) (ha : Val.inr na) (hb : Val.inr nb) (hL : Lits w) :
    Calls Tryz.prog 7 #[.agg #[.int .i64 ka, .int .i64 na, .string ta], .agg #[.int .i64 kb, .int .i64 nb, .string tb], .int .i64 c] w fun e w' => e = .returned (.bool true) ∧ Below w.heap.size w w' := by
  cases hm1 : Val.may ⟨ka, na, ta.data.toList⟩ with
  | false => exact calc_logic_bad1 ka na ta kb nb tb c w hL hm1
  | true =>
  cases hm2 : Val.may ⟨kb, nb, tb.data.toList⟩ with
  | false => exact calc_logic_bad2 ka na ta kb nb tb c w hL hm1 hm2
  | true =>
    obtain ⟨k1, n1, e1, i1⟩ := two_form (op := 21) (c := c) (by decide) hm1 hm2
    obtain ⟨k2, n2, e2, i2⟩ := two_form (op := 22) (c := c) (by decide) hm1 hm2
    obtain ⟨k3, n3, e3, i3⟩ := nott_form hm1
    have m3 : Val.may ⟨k3, n3, []⟩ = true := by rw [← e3]; exact nott_is_may hm1
    obtain ⟨k4, n4, e4, i4⟩ := nott_form m3
    obtain ⟨k5, n5, e5, i5⟩ := nott_form hm2
    have m1 : Val.may ⟨k1, n1, []⟩ = true := by rw [← e1]; exact two_is_may (by decide) hm1 hm2
    obtain ⟨k6, n6, e6, i6⟩ := nott_form m1
    obtain ⟨k7, n7, e7, i7⟩ := two_form (op := 14) (c := c) (by decide) hm1 hm2
    obtain ⟨k8, n8, e8, i8⟩ := two_form (op := 13) (c := c) (by decide) hm1 hm2
    obtain ⟨k9, n9, e9, i9⟩ := two_form (op := 18) (c := c) (by decide) hm1 hm2
    obtain ⟨k10, n10, e10, i10⟩ := two_form (op := 15) (c := c) (by decide) hm1 hm2
    obtain ⟨k11, n11, e11, i11⟩ := two_form (op := 17) (c := c) (by decide) hm1 hm2
    obtain ⟨k12, n12, e12, i12⟩ := two_form (op := 16) (c := c) (by decide) hm1 hm2
    obtain ⟨k13, n13, e13, i13⟩ := two_form (op := 20) (c := c) (by decide) hm1 hm2
    obtain ⟨k14, n14, e14, i14⟩ := two_form (op := 19) (c := c) (by decide) hm1 hm2
    have hn3 := Val.not_thrice hm1
    rw [e3, e4] at hn3
    have hdm := Val.de_morgan (c := c) hm1 hm2
    rw [e1, e3, e5, e6] at hdm
    have hneq := Val.ne_eq (c := c) hm1 hm2
    rw [e7, e8] at hneq
    have hgelt := Val.ge_lt (c := c) hm1 hm2
    rw [e9, e10] at hgelt
    have hgtle := Val.gt_le (c := c) hm1 hm2
    rw [e11, e12] at hgtle
    have hisnis := Val.isnot_is (c := c) hm1 hm2
    rw [e13, e14] at hisnis
    have hgt2 := Val.lt_gt (c := c) hm1 hm2
    rw [e10] at hgt2
    exact calc_logic_at ka na ta kb nb tb c w hL ha hb hm1 hm2 k1 n1 k2 n2 k3 n3 k4 n4 k5 n5 k6 n6 k7 n7 k8 n8 k9 n9 k10 n10 k11 n11 k12 n12 k13 n13 k14 n14 i1 i2 i3 i4 i5 i6 i7 i8 i9 i10 i11 i12 i13 i14
      (Lib.hid e1) (Lib.hid ((Val.and_comm' hm2 hm1).trans e1)) (Lib.hid e2) (Lib.hid ((Val.or_comm' hm2 hm1).trans e2)) (Lib.hid e3) (Lib.hid e4) (Lib.hid hn3) (Lib.hid e5) (Lib.hid e6) (Lib.hid hdm.symm)
      (Lib.hid e7) (Lib.hid e8) (Lib.hid hneq.symm) (Lib.hid e9) (Lib.hid e10) (Lib.hid hgelt.symm) (Lib.hid e11) (Lib.hid e12) (Lib.hid hgtle.symm) (Lib.hid e13) (Lib.hid e14) (Lib.hid hisnis.symm) (Lib.hid hgt2.symm) (Lib.hid ((Val.in_eq hm1 hm2).trans e8))

end Go.Proofs.YthdpgekjbkpomaaGreatDoor
