/- Walks: is a value one of a list: of package calc. -/
import Derived.Test.YthdpgekjbkpomaaGreatDoorVals
import Derived.Test.YthdpgekjbkpomaaGreatDoorCalcB3
import Derived.Test.YthdpgekjbkpomaaGreatDoorCalcM
set_option maxRecDepth 100000
set_option linter.unusedVariables false
set_option linter.unusedSimpArgs false
namespace Go.Proofs.YthdpgekjbkpomaaGreatDoor
open Go.RowKit

theorem take_snoc {vs : List Val.V} {k : Nat} {v : Val.V} (hk : vs[k]? = some v) : vs.take (k + 1) = vs.take k ++ [v] := by rw [List.take_add_one, hk]; rfl

set_option maxHeartbeats 1000000 in
theorem cin_bad (kx nx : Int) (tx : ByteArray) (p : Option Addr) (N c : Nat) (cc : Int) (w : World) (hm : Val.may ⟨kx, nx, tx.data.toList⟩ = false) :
    Calls Tryz.prog 22 #[.agg #[.int .i64 kx, .int .i64 nx, .string tx], .slice p N c, .int .i64 cc] w (VRet 0 0 ⟨#[]⟩ w) := by
  have hS := start2 w (.int .i64 kx) (.int .i64 nx) (.string tx) (.int .i64 0) (.int .i64 0) (.string ⟨#[]⟩) 24 24
  replace hm := Lib.hid hm
  go_enter Tryz.func22, Tryz.ntmps22
  go_wp2_with (first
    | (go_at_call 37; refine (may_is _ _ _ _ hm).mono ?_; rintro e w1 ⟨rfl, hb1⟩; have hS1 := keep2 hS hb1)
    | (go_at_call 38; refine (cnull_any _).mono ?_; rintro e w2 ⟨rfl, hb2⟩; have hS2 := keep2 hS1 hb2; obtain ⟨cb0, cb1, cb2, cb3, cb4, cb5, cb6, cb7, cb8, cb9, cb10, cb11, hz2, hB2⟩ := id hS2))
  exact bodyPost_ret (v := .agg #[.int .i64 0, .int .i64 0, .string ⟨#[]⟩]) (by simp only [results, Tryz.results22]; go_simp) rfl ⟨rfl, below_setg hB2 (by omega)⟩

set_option maxHeartbeats 8000000 in
theorem cin_may (kx nx : Int) (tx : ByteArray) (p : Option Addr) (N c : Nat) (vs : List Val.V) (cc : Int) (w : World) (hA : ValsAt w p N vs) (hN : N ≤ 1048576) (hm : Val.may ⟨kx, nx, tx.data.toList⟩ = true) (k2 n2 : Int) (hv : Hid (Val.isIn ⟨kx, nx, tx.data.toList⟩ vs cc = ⟨k2, n2, []⟩)) :
    Calls Tryz.prog 22 #[.agg #[.int .i64 kx, .int .i64 nx, .string tx], .slice p N c, .int .i64 cc] w (VRet k2 n2 ⟨#[]⟩ w) := by
  have hS := start2 w (.int .i64 kx) (.int .i64 nx) (.string tx) (.int .i64 0) (.int .i64 0) (.string ⟨#[]⟩) 24 24
  have hlen := hA.1
  replace hlen := Lib.hid hlen
  have htx := may_len hm
  have hmx := Lib.hid hm
  replace hm := Lib.hid hm
  go_enter Tryz.func22, Tryz.ntmps22
  go_wp2_with (go_at_call 37; refine (may_is _ _ _ _ hm).mono ?_; rintro e w1 ⟨rfl, hb1⟩; have hS1 := keep2 hS hb1)
  clear hS hm
  go_loopw [7, 8, 17] (fun sm un iv wr => ∃ k : Nat, iv = .int .i64 (k : Int) ∧ k ≤ N ∧ sm = .bool (Val.someIs ⟨kx, nx, tx.data.toList⟩ (vs.take k) cc) ∧ un = .bool (Val.someNull (vs.take k)) ∧ Hid ((vs.take k).all Val.may = true) ∧ Hid (wr.cell? ⟨w.heap.size, 0, none⟩ = some (.int .i64 kx) ∧ wr.cell? ⟨w.heap.size, 1, none⟩ = some (.int .i64 nx) ∧ wr.cell? ⟨w.heap.size, 2, none⟩ = some (.string tx) ∧ wr.frozen? ⟨w.heap.size, 0, none⟩ = false ∧ wr.frozen? ⟨w.heap.size, 1, none⟩ = false ∧ wr.frozen? ⟨w.heap.size, 2, none⟩ = false ∧ wr.cell? ⟨w.heap.size + 1, 0, none⟩ = some (.int .i64 0) ∧ wr.cell? ⟨w.heap.size + 1, 1, none⟩ = some (.int .i64 0) ∧ wr.cell? ⟨w.heap.size + 1, 2, none⟩ = some (.string ⟨#[]⟩) ∧ wr.frozen? ⟨w.heap.size + 1, 0, none⟩ = false ∧ wr.frozen? ⟨w.heap.size + 1, 1, none⟩ = false ∧ wr.frozen? ⟨w.heap.size + 1, 2, none⟩ = false ∧ w.heap.size + 1 < wr.heap.size ∧ Below w.heap.size w wr)) (fun _ _ iv _ => N - (intOf iv).toNat)
  case atStart => exact ⟨0, by go_num, by omega, rfl, rfl, Lib.hid (by simp), Lib.hid hS1⟩
  case round =>
    obtain ⟨k, rfl, hk, rfl, rfl, hall, hSr⟩ := hrel
    obtain ⟨ca0, ca1, ca2, ca3, ca4, ca5, ca6, ca7, ca8, ca9, ca10, ca11, hz, hB⟩ := id hSr.out
    by_cases hlt : k < N
    · obtain ⟨v, hvk⟩ : ∃ v, vs[k]? = some v := ⟨_, List.getElem?_eq_getElem (by rw [hlen.out]; exact hlt)⟩
      rcases (hA.below hB).2 with h0 | ⟨b, off, rfl, hbl, hcell⟩
      · rw [h0] at hvk; simp at hvk
      · obtain ⟨d0, d1, d2⟩ := hcell k v hvk
        have hsn := take_snoc hvk
        obtain ⟨kd, n, tv⟩ := v
        obtain ⟨t, rfl⟩ : ∃ t : ByteArray, tv = t.data.toList := ⟨bs tv, rfl⟩
        rw [bs_of] at d2
        simp only at d0 d1 d2
        have hlB : decide ((k : Int) < (N : Int)) = true := by simp; omega
        clear hcell
        have hS2 := keep2 hSr.out (below_new wr (.cells #[.int .i64 kd, .int .i64 n, .string t] 24))
        cases hmv : Val.may ⟨kd, n, t.data.toList⟩ with
        | false =>
          have hno := all_not hvk hmv
          have hv' := (Val.isIn_no (x := ⟨kx, nx, tx.data.toList⟩) (c := cc) (.inr hno)).symm.trans hv.out
          obtain ⟨rfl, rfl⟩ := mk_zero' hv'
          replace hmv := Lib.hid hmv
          clear hvk hsn hv hv' hno
          go_wp2_with (first
            | (go_at_call 37; refine (may_is _ _ _ _ hmv).mono ?_; rintro e w2 ⟨rfl, hb2⟩; have hS3 := keep2 hS2 hb2)
            | (go_at_call 38; refine (cnull_any _).mono ?_; rintro e w3 ⟨rfl, hb3⟩; have hS4 := keep2 hS3 hb3; obtain ⟨cb0, cb1, cb2, cb3, cb4, cb5, cb6, cb7, cb8, cb9, cb10, cb11, hz4, hB4⟩ := id hS4))
          exact bodyPost_ret (v := .agg #[.int .i64 0, .int .i64 0, .string ⟨#[]⟩]) (by simp only [results, Tryz.results22]; go_simp) rfl ⟨rfl, below_setg hB4 (by omega)⟩
        | true =>
          have htv := may_len hmv
          have hnext : ((vs.take (k + 1)).all Val.may) = true := all_take hall.out hvk hmv
          obtain ⟨b1, hb1'⟩ : ∃ b, Val.someIs ⟨kx, nx, tx.data.toList⟩ (vs.take k) cc = b := ⟨_, rfl⟩
          obtain ⟨b2, hb2'⟩ : ∃ b, Val.someNull (vs.take k) = b := ⟨_, rfl⟩
          obtain ⟨r, hr⟩ : ∃ r, Val.cmp ⟨kx, nx, tx.data.toList⟩ ⟨kd, n, t.data.toList⟩ cc = r := ⟨_, rfl⟩
          have e1 : Val.someIs ⟨kx, nx, tx.data.toList⟩ (vs.take (k + 1)) cc = (b1 || (decide (kd ≠ 0) && decide (r = 0))) := by rw [hsn, Val.someIs_snoc, hb1', hr]
          have e2 : Val.someNull (vs.take (k + 1)) = (b2 || decide (kd = 0)) := by rw [hsn, Val.someNull_snoc, hb2']
          rw [hb1', hb2']
          replace hmv := Lib.hid hmv
          replace hnext := Lib.hid hnext
          replace hr := Lib.hid hr
          replace e1 := Lib.hid e1
          replace e2 := Lib.hid e2
          clear hvk hsn hv hb1' hb2'
          by_cases hk0 : kd = 0
          · have q0 : (kd == 0) = true := by simp [hk0]
            have q1 : (kd != 0) = false := by simp [hk0]
            replace hk0 := Lib.hid hk0
            cases b1 <;> cases b2
            all_goals (
              go_wp2_with (go_at_call 37; refine (may_is _ _ _ _ hmv).mono ?_; rintro e w2 ⟨rfl, hb2⟩; have hS3 := keep2 hS2 hb2; obtain ⟨x0, x1, x2, x3, x4, x5⟩ := cells3 hb2 (by simp) (heap_new wr (.cells #[.int .i64 kd, .int .i64 n, .string t] 24)))
              go_roundw
              case rel => exact ⟨k + 1, by go_num, by omega, by rw [e1.out]; simp [hk0.out], by rw [e2.out]; simp [hk0.out], hnext, Lib.hid hS3⟩
              case measure => simp [intOf]; omega)
          · have q0 : (kd == 0) = false := by simp [hk0]
            have q1 : (kd != 0) = true := by simp [hk0]
            replace hk0 := Lib.hid hk0
            cases b1 <;> cases b2
            all_goals (
              go_wp2_with (first
                | (go_at_call 37; refine (may_is _ _ _ _ hmv).mono ?_; rintro e w2 ⟨rfl, hb2⟩; have hS3 := keep2 hS2 hb2; obtain ⟨cc0, cc1, cc2, cc3, cc4, cc5, cc6, cc7, cc8, cc9, cc10, cc11, hz3, hB3⟩ := id hS3; obtain ⟨x0, x1, x2, x3, x4, x5⟩ := cells3 hb2 (by simp) (heap_new wr (.cells #[.int .i64 kd, .int .i64 n, .string t] 24)); have hS9 := hS3)
                | (go_at_call 62; refine (vcmp_is _ _ _ _ _ _ _ _ (by omega) (by omega) _ hr).mono ?_; rintro e w3 ⟨rfl, hb3⟩; have hS9 := keep2 hS3 hb3))
              go_roundw
              case rel => exact ⟨k + 1, by go_num, by omega, by rw [e1.out]; first | (simp [hk0.out]; done) | (congr 1; rw [Bool.eq_iff_iff]; simp [hk0.out]), by rw [e2.out]; simp [hk0.out], hnext, Lib.hid hS9⟩
              case measure => simp [intOf]; omega)
    · have hkN : k = N := by omega
      have htk : vs.take k = vs := List.take_of_length_le (by rw [hlen.out]; omega)
      have hl := hall.out
      rw [htk] at hl
      have hv' := (Val.isIn_yes (c := cc) hmx.out hl).symm.trans hv.out
      rw [Val.inF] at hv'
      have hlB : decide ((k : Int) < (N : Int)) = false := by simp; omega
      rw [htk]
      clear hv
      by_cases hN0 : N = 0
      · have hnil : vs = [] := List.eq_nil_of_length_eq_zero (by rw [hlen.out]; exact hN0)
        rw [if_pos hnil] at hv'
        simp only [Val.pbool, Val.V.mk.injEq, and_true] at hv'
        obtain ⟨rfl, rfl⟩ := hv'
        have q : ((N : Int) == 0) = true := by simp; omega
        clear htk hl hnil
        go_wp2_with (go_at_call 63; refine (ctruth_any _ _).mono ?_; rintro e w3 ⟨rfl, hb3⟩; have hS4 := keep2 hSr.out hb3; obtain ⟨cb0, cb1, cb2, cb3, cb4, cb5, cb6, cb7, cb8, cb9, cb10, cb11, hz4, hB4⟩ := id hS4)
        exact bodyPost_ret (v := .agg #[.int .i64 1, .int .i64 0, .string ⟨#[]⟩]) (by simp only [results, Tryz.results22]; go_simp) rfl ⟨rfl, below_setg hB4 (by omega)⟩
      · have hnil : vs ≠ [] := by intro h; have := hlen.out; rw [h] at this; simp at this; omega
        rw [if_neg hnil] at hv'
        have q : ((N : Int) == 0) = false := by simp; omega
        by_cases hx0 : kx = 0
        · rw [if_pos hx0] at hv'
          obtain ⟨rfl, rfl⟩ := mk_zero' hv'
          have q1 : (kx == 0) = true := by simp [hx0]
          clear hx0
          clear htk hl hnil hv'
          go_wp2_with (go_at_call 38; refine (cnull_any _).mono ?_; rintro e w3 ⟨rfl, hb3⟩; have hS4 := keep2 hSr.out hb3; obtain ⟨cb0, cb1, cb2, cb3, cb4, cb5, cb6, cb7, cb8, cb9, cb10, cb11, hz4, hB4⟩ := id hS4)
          exact bodyPost_ret (v := .agg #[.int .i64 0, .int .i64 0, .string ⟨#[]⟩]) (by simp only [results, Tryz.results22]; go_simp) rfl ⟨rfl, below_setg hB4 (by omega)⟩
        · rw [if_neg hx0] at hv'
          have q1 : (kx == 0) = false := by simp [hx0]
          clear hx0
          cases hs1 : Val.someIs ⟨kx, nx, tx.data.toList⟩ vs cc with
          | true =>
            rw [if_pos hs1] at hv'
            simp only [Val.pbool, Val.V.mk.injEq, and_true] at hv'
            obtain ⟨rfl, rfl⟩ := hv'
            clear htk hl hnil
            go_wp2_with (go_at_call 63; refine (ctruth_any _ _).mono ?_; rintro e w3 ⟨rfl, hb3⟩; have hS4 := keep2 hSr.out hb3; obtain ⟨cb0, cb1, cb2, cb3, cb4, cb5, cb6, cb7, cb8, cb9, cb10, cb11, hz4, hB4⟩ := id hS4)
            exact bodyPost_ret (v := .agg #[.int .i64 1, .int .i64 1, .string ⟨#[]⟩]) (by simp only [results, Tryz.results22]; go_simp) rfl ⟨rfl, below_setg hB4 (by omega)⟩
          | false =>
            rw [if_neg (by rw [hs1]; decide)] at hv'
            cases hs2 : Val.someNull vs with
            | true =>
              rw [if_pos hs2] at hv'
              obtain ⟨rfl, rfl⟩ := mk_zero' hv'
              clear htk hl hnil hv'
              go_wp2_with (go_at_call 54; refine (cthree_any _ _ _).mono ?_; rintro e w3 ⟨rfl, hb3⟩; have hS4 := keep2 hSr.out hb3; obtain ⟨cb0, cb1, cb2, cb3, cb4, cb5, cb6, cb7, cb8, cb9, cb10, cb11, hz4, hB4⟩ := id hS4)
              exact bodyPost_ret (v := .agg #[.int .i64 0, .int .i64 0, .string ⟨#[]⟩]) (by simp only [results, Tryz.results22]; go_simp) rfl ⟨rfl, below_setg hB4 (by omega)⟩
            | false =>
              rw [if_neg (by rw [hs2]; decide)] at hv'
              simp only [Val.pbool, Val.V.mk.injEq, and_true] at hv'
              obtain ⟨rfl, rfl⟩ := hv'
              clear htk hl hnil
              go_wp2_with (go_at_call 54; refine (cthree_any _ _ _).mono ?_; rintro e w3 ⟨rfl, hb3⟩; have hS4 := keep2 hSr.out hb3; obtain ⟨cb0, cb1, cb2, cb3, cb4, cb5, cb6, cb7, cb8, cb9, cb10, cb11, hz4, hB4⟩ := id hS4)
              exact bodyPost_ret (v := .agg #[.int .i64 1, .int .i64 0, .string ⟨#[]⟩]) (by simp only [results, Tryz.results22]; go_simp) rfl ⟨rfl, below_setg hB4 (by omega)⟩

/-- WHAT In ANSWERS -/
theorem cin_is (kx nx : Int) (tx : ByteArray) (p : Option Addr) (N c : Nat) (vs : List Val.V) (cc : Int) (w : World) (hA : ValsAt w p N vs) (hN : N ≤ 1048576) (k2 n2 : Int) (hv : Hid (Val.isIn ⟨kx, nx, tx.data.toList⟩ vs cc = ⟨k2, n2, []⟩)) :
    Calls Tryz.prog 22 #[.agg #[.int .i64 kx, .int .i64 nx, .string tx], .slice p N c, .int .i64 cc] w (VRet k2 n2 ⟨#[]⟩ w) := by
  cases hm : Val.may ⟨kx, nx, tx.data.toList⟩ with
  | false =>
    have hv' := (Val.isIn_no (l := vs) (c := cc) (.inl hm)).symm.trans hv.out
    obtain ⟨rfl, rfl⟩ := mk_zero' hv'
    exact cin_bad kx nx tx p N c cc w hm
  | true => exact cin_may kx nx tx p N c vs cc w hA hN hm k2 n2 hv

end Go.Proofs.YthdpgekjbkpomaaGreatDoor
