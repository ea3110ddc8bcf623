/- Walks: the law CalcBack. -/
import Derived.Test.YthdpgekjbkpomaaGreatDoorCalcLKz
import Derived.Test.YthdpgekjbkpomaaGreatDoorCalcLKo
import Derived.Test.YthdpgekjbkpomaaGreatDoorCalcLKe
import Derived.Test.YthdpgekjbkpomaaGreatDoorCalcLKn
set_option maxRecDepth 100000
set_option linter.unusedVariables false
set_option linter.unusedSimpArgs false
namespace Go.Proofs.YthdpgekjbkpomaaGreatDoor
open Go.RowKit

theorem two_val (op x y : Int) (h : 7 ≤ op ∧ op ≤ 11) : Val.two op ⟨1, x, (⟨#[]⟩ : ByteArray).data.toList⟩ ⟨1, y, (⟨#[]⟩ : ByteArray).data.toList⟩ 0 = Val.arith op x y := Val.two_arith h
theorem fit_val {n : Int} (h : Val.inr n) : Val.fit n = ⟨1, n, (⟨#[]⟩ : ByteArray).data.toList⟩ := Val.fit_in h
theorem fit_zero {n : Int} (h : ¬ Val.inr n) : Val.fit n = ⟨0, 0, (⟨#[]⟩ : ByteArray).data.toList⟩ := Val.fit_out h
theorem back_sum_val {x y : Int} (hx : Val.inr x) (h : Val.inr (x + y)) : Val.two 8 ⟨1, x + y, (⟨#[]⟩ : ByteArray).data.toList⟩ ⟨1, y, (⟨#[]⟩ : ByteArray).data.toList⟩ 0 = ⟨1, x, (⟨#[]⟩ : ByteArray).data.toList⟩ := by
  rw [two_val 8 _ _ (by decide), Val.arith, if_neg (by decide), if_pos rfl, Int.add_sub_cancel]
  exact fit_val hx
theorem calc_back (x y : Int) (w : World) (hx : Val.inr x) (hy : Val.inr y) (hL : Lits w) :
    Calls Tryz.prog 10 #[.int .i64 x, .int .i64 y] w fun e w' => e = .returned (.bool true) ∧ Below w.heap.size w w' := by
  have i0 : Val.inr 0 := ⟨by decide, by decide⟩
  have e7 : Val.two 7 ⟨1, x, (⟨#[]⟩ : ByteArray).data.toList⟩ ⟨1, y, (⟨#[]⟩ : ByteArray).data.toList⟩ 0 = Val.fit (x + y) := by rw [two_val 7 _ _ (by decide), Val.arith, if_pos rfl]
  have e10 : Val.two 10 ⟨1, x, (⟨#[]⟩ : ByteArray).data.toList⟩ ⟨1, y, (⟨#[]⟩ : ByteArray).data.toList⟩ 0 = if y = 0 then Val.zero else Val.fit (Int.tdiv x y) := Val.two_div
  have e11 : Val.two 11 ⟨1, x, (⟨#[]⟩ : ByteArray).data.toList⟩ ⟨1, y, (⟨#[]⟩ : ByteArray).data.toList⟩ 0 = if y = 0 then Val.zero else ⟨1, Int.tmod x y, []⟩ := Val.two_rem
  by_cases h0 : y = 0
  · rw [if_pos h0] at e10 e11
    have hs : Val.inr (x + y) := by rw [h0, Int.add_zero]; exact hx
    rw [fit_val hs] at e7
    exact calc_back_zero x y w hL hx hy _ 0 0 h0 hs i0 i0 (Lib.hid e7) (Lib.hid e10) (Lib.hid e11) (Lib.hid (back_sum_val hx hs))
  · rw [if_neg h0] at e10 e11
    have ir : Val.inr (Int.tmod x y) := Val.tmod_in hy h0
    by_cases ho : x = -9223372036854775808 ∧ y = -1
    · have hn : ¬ Val.inr (x + y) := by rw [ho.1, ho.2]; rintro ⟨h, _⟩; omega
      have hn2 : ¬ Val.inr (Int.tdiv x y) := by rw [ho.1, ho.2]; rintro ⟨_, h⟩; exact absurd h (by decide)
      rw [fit_zero hn] at e7
      rw [fit_zero hn2] at e10
      exact calc_back_over x y w hL hx hy 0 0 _ h0 ho.1 ho.2 i0 i0 ir (Lib.hid e7) (Lib.hid e10) (Lib.hid e11)
    · have iq : Val.inr (Int.tdiv x y) := Val.tdiv_in hx ho
      rw [fit_val iq] at e10
      have hdm := Int.tmod_add_mul_tdiv x y
      have e9 : Val.two 9 ⟨1, Int.tdiv x y, (⟨#[]⟩ : ByteArray).data.toList⟩ ⟨1, y, (⟨#[]⟩ : ByteArray).data.toList⟩ 0 = Val.fit (Int.tdiv x y * y) := by rw [two_val 9 _ _ (by decide), Val.arith, if_neg (by decide), if_neg (by decide), if_pos rfl]
      have hk : (Val.two 10 (Val.mk x) (Val.mk y) 0).kind = 1 := by
        have : Val.two 10 (Val.mk x) (Val.mk y) 0 = ⟨1, Int.tdiv x y, []⟩ := e10
        rw [this]
      have hbk := Val.back_div (c := 0) hx hy hk
      have q10 : Val.two 10 (Val.mk x) (Val.mk y) 0 = Val.mk (Int.tdiv x y) := e10
      have q11 : Val.two 11 (Val.mk x) (Val.mk y) 0 = Val.mk (Int.tmod x y) := e11
      rw [q10, q11] at hbk
      have q9 : Val.two 9 (Val.mk (Int.tdiv x y)) (Val.mk y) 0 = Val.fit (Int.tdiv x y * y) := e9
      have im : Val.inr (Int.tdiv x y * y) := by
        refine Classical.byContradiction fun hno => ?_
        rw [q9, Val.fit_out hno] at hbk
        have h1 : Val.two 7 Val.zero (Val.mk (Int.tmod x y)) 0 = Val.zero := by
          rw [Val.two_makes (by decide) (by decide) (by simp [Val.may, Val.mk]), Val.makes, if_pos (by decide), if_pos (.inl (by decide))]
        rw [h1] at hbk
        exact absurd (congrArg Val.V.kind hbk) (by simp [Val.zero, Val.mk])
      rw [fit_val im] at e9
      rw [q9, Val.fit_in im] at hbk
      by_cases hs : Val.inr (x + y)
      · rw [fit_val hs] at e7
        exact calc_back_one x y w hL hx hy _ _ _ _ h0 ho hs iq ir im (Lib.hid e7) (Lib.hid e10) (Lib.hid e11) (Lib.hid (back_sum_val hx hs)) (Lib.hid e9) (Lib.hid hbk)
      · rw [fit_zero hs] at e7
        exact calc_back_non x y w hL hx hy _ _ _ _ h0 ho i0 iq ir im (Lib.hid e7) (Lib.hid e10) (Lib.hid e11) (Lib.hid e9) (Lib.hid hbk)

end Go.Proofs.YthdpgekjbkpomaaGreatDoor
