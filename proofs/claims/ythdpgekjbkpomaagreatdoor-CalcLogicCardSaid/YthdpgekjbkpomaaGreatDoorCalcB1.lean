/- Walks: sums, products, quotients of integers; what 'both' makes of them. -/
import Derived.Test.YthdpgekjbkpomaaGreatDoorCalcR2
set_option maxRecDepth 100000
set_option linter.unusedVariables false
set_option linter.unusedSimpArgs false
namespace Go.Proofs.YthdpgekjbkpomaaGreatDoor
open Go.RowKit

/-- what an arithmetic of two integers answers: its number, whether it is one -/
def DoP (q : Int × Bool) (w : World) (e : Ending) (w' : World) : Prop := e = .returned (.tuple #[.int .i64 q.1, .bool q.2]) ∧ w = w'
def doV (q : Int × Bool) : Val.V := if q.2 = true then ⟨1, q.1, []⟩ else Val.zero
def qadd (x y : Int) : Int × Bool := (wrap64 (x + y), decide (Val.inr (x + y)))
def qsub (x y : Int) : Int × Bool := (wrap64 (x - y), decide (Val.inr (x - y)))
def qmul (x y : Int) : Int × Bool := (wrap64 (x * y), decide (Val.inr (x * y)))
def qdiv (x y : Int) : Int × Bool := if y = 0 ∨ x = -9223372036854775808 ∧ y = -1 then (0, false) else (Int.tdiv x y, true)
def qrem (x y : Int) : Int × Bool := if y = 0 then (0, false) else (Int.tmod x y, true)
theorem fit_ok {n r : Int} (hr : Val.inr n → r = n) : Val.fit n = if decide (Val.inr n) = true then ⟨1, r, []⟩ else Val.zero := by
  by_cases h : Val.inr n
  · rw [Val.fit_in h, if_pos (by simpa using h), hr h]
  · rw [Val.fit_out h, if_neg (by simpa using h)]
theorem doV_add (x y : Int) : doV (qadd x y) = Val.fit (x + y) := (fit_ok (fun h => Val.wrap_in h)).symm
theorem doV_sub (x y : Int) : doV (qsub x y) = Val.fit (x - y) := (fit_ok (fun h => Val.wrap_in h)).symm
theorem doV_mul (x y : Int) : doV (qmul x y) = Val.fit (x * y) := (fit_ok (fun h => Val.wrap_in h)).symm
theorem doV_div {x y : Int} (hx : Val.inr x) : doV (qdiv x y) = if y = 0 then Val.zero else Val.fit (Int.tdiv x y) := by
  by_cases h0 : y = 0
  · have e : qdiv x y = (0, false) := by rw [qdiv, if_pos (.inl h0)]
    rw [e, if_pos h0]; rfl
  · rw [if_neg h0]
    by_cases hm : x = -9223372036854775808 ∧ y = -1
    · have e : qdiv x y = (0, false) := by rw [qdiv, if_pos (.inr hm)]
      rw [e, hm.1, hm.2]; decide
    · have e : qdiv x y = (Int.tdiv x y, true) := by rw [qdiv, if_neg (fun h => h.elim h0 hm)]
      rw [e, Val.fit_in (Val.tdiv_in hx hm)]; rfl
theorem doV_rem (x y : Int) : doV (qrem x y) = if y = 0 then Val.zero else ⟨1, Int.tmod x y, []⟩ := by
  by_cases h0 : y = 0
  · have e : qrem x y = (0, false) := by rw [qrem, if_pos h0]
    rw [e, if_pos h0]; rfl
  · have e : qrem x y = (Int.tmod x y, true) := by rw [qrem, if_neg h0]
    rw [e, if_neg h0]; rfl
theorem dec_inr (n : Int) : (decide (-9223372036854775808 ≤ n) && decide (n ≤ 9223372036854775807)) = decide (Val.inr n) := by
  rw [Bool.eq_iff_iff]; simp
theorem cadd_any (x y : Int) (w : World) (hx : Val.inr x) (hy : Val.inr y) : Calls Tryz.prog 81 #[.int .i64 x, .int .i64 y] w (DoP (qadd x y) w) := by
  have h := Val.add_in hx hy
  unfold qadd
  obtain ⟨b, hb⟩ : ∃ b, decide (Val.inr (x + y)) = b := ⟨_, rfl⟩
  rw [hb] at h ⊢
  clear hb hx hy
  go_enter Tryz.func81, Tryz.ntmps81
  go_wp2
  go_ret2
  exact ⟨rfl, rfl⟩
theorem csub_any (x y : Int) (w : World) (hx : Val.inr x) (hy : Val.inr y) : Calls Tryz.prog 80 #[.int .i64 x, .int .i64 y] w (DoP (qsub x y) w) := by
  have h := Val.sub_in hx hy
  unfold qsub
  obtain ⟨b, hb⟩ : ∃ b, decide (Val.inr (x - y)) = b := ⟨_, rfl⟩
  rw [hb] at h ⊢
  clear hb hx hy
  go_enter Tryz.func80, Tryz.ntmps80
  go_wp2
  go_ret2
  exact ⟨rfl, rfl⟩
theorem u64w (n : Int) : IntKind.u64.wrap n = n % 18446744073709551616 := by simp [IntKind.wrap, IntKind.bits, IntKind.signed]
theorem csize_any (x : Int) (w : World) (hx : Val.inr x) : Calls Tryz.prog 121 #[.int .i64 x] w fun e w' => e = .returned (.int .u64 (x.natAbs : Int)) ∧ w = w' := by
  have h1 := hx.1
  have h2 := hx.2
  clear hx
  by_cases h0 : x < 0
  · have b : decide (x < 0) = true := decide_eq_true h0
    go_enter Tryz.func121, Tryz.ntmps121
    go_wp2
    go_ret
    refine ⟨ret_int ?_, rfl⟩
    first | omega | (rw [u64w, u64w]; omega)
  · have b : decide (x < 0) = false := decide_eq_false h0
    go_enter Tryz.func121, Tryz.ntmps121
    go_wp2
    go_ret
    refine ⟨ret_int ?_, rfl⟩
    first | omega | (rw [u64w]; omega)
theorem cdiv_any (x y : Int) (w : World) (hx : Val.inr x) (hy : Val.inr y) : Calls Tryz.prog 83 #[.int .i64 x, .int .i64 y] w (DoP (qdiv x y) w) := by
  by_cases h0 : y = 0
  · have b0 : (y == 0) = true := by simp [h0]
    rw [qdiv, if_pos (.inl h0)]
    clear h0 hx hy
    go_enter Tryz.func83, Tryz.ntmps83
    go_wp2
    go_ret2
    exact ⟨rfl, rfl⟩
  · have b0 : (y == 0) = false := by simp [h0]
    by_cases hm : x = -9223372036854775808 ∧ y = -1
    · have b1 : (x == -9223372036854775808) = true := by simp [hm.1]
      have b2 : (y == -1) = true := by simp [hm.2]
      rw [qdiv, if_pos (.inr hm)]
      clear h0 hx hy hm
      go_enter Tryz.func83, Tryz.ntmps83
      go_wp2
      go_ret2
      exact ⟨rfl, rfl⟩
    · have hd := Val.tdiv_in (y := y) hx hm
      rw [qdiv, if_neg (fun h => h.elim h0 hm)]
      have d1 := hd.1
      have d2 := hd.2
      have hcase : (x == -9223372036854775808) = false ∨ ((x == -9223372036854775808) = true ∧ (y == -1) = false) := by
        by_cases h : x = -9223372036854775808
        · right; exact ⟨by simp [h], by simp; exact fun h' => hm ⟨h, h'⟩⟩
        · left; simp [h]
      have hw : IntKind.i64.wrap (Int.tdiv x y) = Int.tdiv x y := IntWalk.i64_in _ hd
      clear hx hy hm hd
      rcases hcase with b1 | ⟨b1, b2⟩
      all_goals (
        go_enter Tryz.func83, Tryz.ntmps83
        go_wp2
        go_ret2
        exact ⟨rfl, rfl⟩)
theorem crem_any (x y : Int) (w : World) (hx : Val.inr x) (hy : Val.inr y) : Calls Tryz.prog 84 #[.int .i64 x, .int .i64 y] w (DoP (qrem x y) w) := by
  by_cases h0 : y = 0
  · have b0 : (y == 0) = true := by simp [h0]
    rw [qrem, if_pos h0]
    clear h0 hx hy
    go_enter Tryz.func84, Tryz.ntmps84
    go_wp2
    go_ret2
    exact ⟨rfl, rfl⟩
  · have b0 : (y == 0) = false := by simp [h0]
    rw [qrem, if_neg h0]
    by_cases h1 : y = -1
    · have b1 : (y == -1) = true := by simp [h1]
      have hf : Int.tmod x y = 0 := by rw [h1]; exact Val.tmod_mone x
      rw [hf]
      clear h0 hx hy h1 hf
      go_enter Tryz.func84, Tryz.ntmps84
      go_wp2
      go_ret2
      exact ⟨rfl, rfl⟩
    · have b1 : (y == -1) = false := by simp [h1]
      have hd := Val.tmod_in (x := x) hy h0
      have d1 := hd.1
      have d2 := hd.2
      have hw : IntKind.i64.wrap (Int.tmod x y) = Int.tmod x y := IntWalk.i64_in _ hd
      clear hx hy h1 hd
      go_enter Tryz.func84, Tryz.ntmps84
      go_wp2
      go_ret2
      exact ⟨rfl, rfl⟩

theorem cmul_same (x y : Int) (w : World) (hx : Val.inr x) (hy : Val.inr y) (h : decide (x < 0) = decide (y < 0)) : Calls Tryz.prog 82 #[.int .i64 x, .int .i64 y] w (DoP (qmul x y) w) := by
  have ho := Val.mul_same h
  obtain ⟨b, hb⟩ : ∃ b, decide (Val.inr (x * y)) = b := ⟨_, rfl⟩
  unfold qmul
  rw [hb] at ho ⊢
  have q : ((decide (x < 0)) == (decide (y < 0))) = true := by revert h; cases decide (x < 0) <;> cases decide (y < 0) <;> decide
  have l1 : x.natAbs < 18446744073709551616 := by unfold Val.inr at hx; omega
  have l2 : y.natAbs < 18446744073709551616 := by unfold Val.inr at hy; omega
  obtain ⟨hi, hhi⟩ : ∃ hi : Nat, x.natAbs * y.natAbs / 18446744073709551616 = hi := ⟨_, rfl⟩
  obtain ⟨lo, hlo⟩ : ∃ lo : Nat, x.natAbs * y.natAbs % 18446744073709551616 = lo := ⟨_, rfl⟩
  rw [hhi, hlo] at ho
  have e1 : ((hi : Int) == 0) = decide (hi = 0) := by rw [Bool.eq_iff_iff]; simp
  have e2 : decide ((lo : Int) ≤ 9223372036854775807) = decide (lo ≤ 9223372036854775807) := by rw [decide_eq_decide]; omega
  have hr : ∀ w', Calls Tryz.prog 120 #[.int .u64 (x.natAbs : Int), .int .u64 (y.natAbs : Int)] w' fun e w'' => e = .returned (.tuple #[.int .u64 (hi : Int), .int .u64 (lo : Int)]) ∧ w' = w'' := fun w' => (Tryz.bits_Mul64 x.natAbs y.natAbs l1 l2 w').mono fun _ _ ⟨g1, g2⟩ => ⟨by rw [g1, ← hhi, ← hlo], g2.symm⟩
  replace hhi := Lib.hid hhi
  replace hlo := Lib.hid hlo
  have hxh := Lib.hid hx
  have hyh := Lib.hid hy
  clear hb l1 l2 h hx hy
  by_cases h1 : hi = 0
  · rw [decide_eq_true h1] at e1 ho
    rw [Bool.true_and] at ho
    rw [ho] at e2
    clear ho h1
    go_enter Tryz.func82, Tryz.ntmps82
    go_wp2_with (first
      | (go_at_call 121; refine (csize_any _ _ (by first | exact hxh.out | exact hyh.out)).mono ?_; rintro e w1 ⟨rfl, rfl⟩)
      | (go_at_call 120; refine (hr _).mono ?_; rintro e w1 ⟨rfl, rfl⟩))
    go_ret2
    exact ⟨rfl, rfl⟩
  · rw [decide_eq_false h1] at e1 ho
    rw [Bool.false_and] at ho
    subst ho
    clear e2 h1
    go_enter Tryz.func82, Tryz.ntmps82
    go_wp2_with (first
      | (go_at_call 121; refine (csize_any _ _ (by first | exact hxh.out | exact hyh.out)).mono ?_; rintro e w1 ⟨rfl, rfl⟩)
      | (go_at_call 120; refine (hr _).mono ?_; rintro e w1 ⟨rfl, rfl⟩))
    go_ret2
    exact ⟨rfl, rfl⟩
theorem cmul_other (x y : Int) (w : World) (hx : Val.inr x) (hy : Val.inr y) (h : decide (x < 0) ≠ decide (y < 0)) : Calls Tryz.prog 82 #[.int .i64 x, .int .i64 y] w (DoP (qmul x y) w) := by
  have ho := Val.mul_other h
  obtain ⟨b, hb⟩ : ∃ b, decide (Val.inr (x * y)) = b := ⟨_, rfl⟩
  unfold qmul
  rw [hb] at ho ⊢
  have q : ((decide (x < 0)) == (decide (y < 0))) = false := by revert h; cases decide (x < 0) <;> cases decide (y < 0) <;> decide
  have l1 : x.natAbs < 18446744073709551616 := by unfold Val.inr at hx; omega
  have l2 : y.natAbs < 18446744073709551616 := by unfold Val.inr at hy; omega
  obtain ⟨hi, hhi⟩ : ∃ hi : Nat, x.natAbs * y.natAbs / 18446744073709551616 = hi := ⟨_, rfl⟩
  obtain ⟨lo, hlo⟩ : ∃ lo : Nat, x.natAbs * y.natAbs % 18446744073709551616 = lo := ⟨_, rfl⟩
  rw [hhi, hlo] at ho
  have e1 : ((hi : Int) == 0) = decide (hi = 0) := by rw [Bool.eq_iff_iff]; simp
  have e2 : decide ((lo : Int) ≤ 9223372036854775808) = decide (lo ≤ 9223372036854775808) := by rw [decide_eq_decide]; omega
  have hr : ∀ w', Calls Tryz.prog 120 #[.int .u64 (x.natAbs : Int), .int .u64 (y.natAbs : Int)] w' fun e w'' => e = .returned (.tuple #[.int .u64 (hi : Int), .int .u64 (lo : Int)]) ∧ w' = w'' := fun w' => (Tryz.bits_Mul64 x.natAbs y.natAbs l1 l2 w').mono fun _ _ ⟨g1, g2⟩ => ⟨by rw [g1, ← hhi, ← hlo], g2.symm⟩
  replace hhi := Lib.hid hhi
  replace hlo := Lib.hid hlo
  have hxh := Lib.hid hx
  have hyh := Lib.hid hy
  clear hb l1 l2 h hx hy
  by_cases h1 : hi = 0
  · rw [decide_eq_true h1] at e1 ho
    rw [Bool.true_and] at ho
    rw [ho] at e2
    clear ho h1
    go_enter Tryz.func82, Tryz.ntmps82
    go_wp2_with (first
      | (go_at_call 121; refine (csize_any _ _ (by first | exact hxh.out | exact hyh.out)).mono ?_; rintro e w1 ⟨rfl, rfl⟩)
      | (go_at_call 120; refine (hr _).mono ?_; rintro e w1 ⟨rfl, rfl⟩))
    go_ret2
    exact ⟨rfl, rfl⟩
  · rw [decide_eq_false h1] at e1 ho
    rw [Bool.false_and] at ho
    subst ho
    clear e2 h1
    go_enter Tryz.func82, Tryz.ntmps82
    go_wp2_with (first
      | (go_at_call 121; refine (csize_any _ _ (by first | exact hxh.out | exact hyh.out)).mono ?_; rintro e w1 ⟨rfl, rfl⟩)
      | (go_at_call 120; refine (hr _).mono ?_; rintro e w1 ⟨rfl, rfl⟩))
    go_ret2
    exact ⟨rfl, rfl⟩
theorem cmul_any (x y : Int) (w : World) (hx : Val.inr x) (hy : Val.inr y) : Calls Tryz.prog 82 #[.int .i64 x, .int .i64 y] w (DoP (qmul x y) w) := by
  by_cases h : decide (x < 0) = decide (y < 0)
  · exact cmul_same x y w hx hy h
  · exact cmul_other x y w hx hy h

end Go.Proofs.YthdpgekjbkpomaaGreatDoor
