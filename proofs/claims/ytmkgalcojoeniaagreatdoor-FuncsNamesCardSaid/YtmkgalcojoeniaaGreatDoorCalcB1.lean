/- Walks: sums, products, quotients of integers; what 'both' makes of them. -/
import Derived.Test.YtmkgalcojoeniaaGreatDoorCalcR2
set_option maxRecDepth 100000
set_option linter.unusedVariables false
set_option linter.unusedSimpArgs false
namespace Go.Proofs.YtmkgalcojoeniaaGreatDoor
open Go.RowKit



/-- what an arithmetic of two integers answers: its number, whether it is one -/
def DoP (q : Int × Bool) (w : World) (e : Ending) (w' : World) : Prop := e = .returned (.tuple #[.int .i64 q.1, .bool q.2]) ∧ w = w'
def doV (q : Int × Bool) : Val.V := if q.2 = true then ⟨1, q.1, []⟩ else Val.zero
def qadd (x y : Int) : Int × Bool := (wrap64 (x + y), decide (Val.inr (x + y)))
def qsub (x y : Int) : Int × Bool := (wrap64 (x - y), decide (Val.inr (x - y)))
def qmul (x y : Int) : Int × Bool := (wrap64 (x * y), decide (Val.inr (x * y)))
def qdiv (x y : Int) : Int × Bool := if y = 0 ∨ x = -9223372036854775808 ∧ y = -1 then (0, false) else (Int.tdiv x y, true)
def qrem (x y : Int) : Int × Bool := if y = 0 then (0, false) else (Int.tmod x y, true)
theorem fit_ok {n r : Int} (hr : Val.inr n → r = n) : Val.fit n = if decide (Val.inr n) = true then ⟨1, r, []⟩ else Val.zero := by
  by_cases h : Val.inr n
  · rw [Val.fit_in h, if_pos (by simpa using h), hr h]
  · rw [Val.fit_out h, if_neg (by simpa using h)]
theorem doV_add (x y : Int) : doV (qadd x y) = Val.fit (x + y) := (fit_ok (fun h => Val.wrap_in h)).symm
theorem doV_sub (x y : Int) : doV (qsub x y) = Val.fit (x - y) := (fit_ok (fun h => Val.wrap_in h)).symm
theorem doV_mul (x y : Int) : doV (qmul x y) = Val.fit (x * y) := (fit_ok (fun h => Val.wrap_in h)).symm
theorem doV_div {x y : Int} (hx : Val.inr x) : doV (qdiv x y) = if y = 0 then Val.zero else Val.fit (Int.tdiv x y) := by
  by_cases h0 : y = 0
  · have e : qdiv x y = (0, false) := by rw [qdiv, if_pos (.inl h0)]
    rw [e, if_pos h0]; rfl
  · rw [if_neg h0]
    by_cases hm : x = -9223372036854775808 ∧ y = -1
    · have e : qdiv x y = (0, false) := by rw [qdiv, if_pos (.inr hm)]
      rw [e, hm.1, hm.2]; decide
    · have e : qdiv x y = (Int.tdiv x y, true) := by rw [qdiv, if_neg (fun h => h.elim h0 hm)]
      rw [e, Val.fit_in (Val.tdiv_in hx hm)]; rfl
theorem doV_rem (x y : Int) : doV (qrem x y) = if y = 0 then Val.zero else ⟨1, Int.tmod x y, []⟩ := by
  by_cases h0 : y = 0
  · have e : qrem x y = (0, false) := by rw [qrem, if_pos h0]
    rw [e, if_pos h0]; rfl
  · have e : qrem x y = (Int.tmod x y, true) := by rw [qrem, if_neg h0]
    rw [e, if_neg h0]; rfl
theorem dec_inr (n : Int) : (decide (-9223372036854775808 ≤ n) && decide (n ≤ 9223372036854775807)) = decide (Val.inr n) := by
  rw [Bool.eq_iff_iff]; simp
theorem csub_any (x y : Int) (w : World) (hx : Val.inr x) (hy : Val.inr y) : Calls Tryz.prog 198 #[.int .i64 x, .int .i64 y] w (DoP (qsub x y) w) := by
  have h := Val.sub_in hx hy
  unfold qsub
  obtain ⟨b, hb⟩ : ∃ b, decide (Val.inr (x - y)) = b := ⟨_, rfl⟩
  rw [hb] at h ⊢
  clear hb hx hy
  go_enter Tryz.func198, Tryz.ntmps198
  go_wp2
  go_ret2
  exact ⟨rfl, rfl⟩

end Go.Proofs.YtmkgalcojoeniaaGreatDoor
