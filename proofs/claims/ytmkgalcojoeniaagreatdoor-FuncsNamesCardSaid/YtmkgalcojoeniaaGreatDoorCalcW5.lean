/- Walks: Show, Truth of package calc. -/
import Derived.Test.YtmkgalcojoeniaaGreatDoorCalcW4
set_option maxRecDepth 100000
set_option linter.unusedVariables false
set_option linter.unusedSimpArgs false
namespace Go.Proofs.YtmkgalcojoeniaaGreatDoor
open Go.RowKit

theorem itoa_size {n : Int} (h0 : -9223372036854775808 ≤ n) (h1 : n ≤ 9223372036854775807) : (bs (Lib.itoa n)).size ≤ 400 := by
  have := Val.itoa_len n h0 h1
  rw [bs_size]; omega
theorem bytes_inj' {a b : ByteArray} (h : a.data.toList = b.data.toList) : a = b := by rw [← bs_of a, ← bs_of b, h]

set_option maxHeartbeats 1000000 in
theorem cshow_is (k n : Int) (t : ByteArray) (w : World) (h0 : -9223372036854775808 ≤ n) (h1 : n ≤ 9223372036854775807) (hL : Lits w) (k' : Int) (t' : ByteArray) (hv : Hid (Val.pshow ⟨k, n, t.data.toList⟩ = ⟨k', 0, t'.data.toList⟩)) : Calls Tryz.prog 104 #[.agg #[.int .i64 k, .int .i64 n, .string t]] w (VRet k' 0 t' w) := by
  have hS := start2 w (.int .i64 k) (.int .i64 n) (.string t) (.int .i64 0) (.int .i64 0) (.string ⟨#[]⟩) 25 25
  have hL0 : Lits ((w.alloc (.cells #[.int .i64 k, .int .i64 n, .string t] 25)).alloc (.cells #[.int .i64 0, .int .i64 0, .string ⟨#[]⟩] 25)) := (hL.alloc _).alloc _
  cases hm : Val.may ⟨k, n, t.data.toList⟩ with
  | false =>
    have hv' := (Val.pshow_not (.inl hm)).symm.trans hv.out
    simp only [Val.zero, Val.V.mk.injEq, true_and] at hv'
    obtain ⟨rfl, ht⟩ := hv'
    have ht' := text_nil ht.symm
    subst ht'
    replace hm := Lib.hid hm
    clear hv ht
    go_enter Tryz.func104, Tryz.ntmps104
    go_wp2_with (first
      | (go_at_call 18; refine (may_is _ _ _ _ hm).mono ?_; rintro e w1 ⟨rfl, hb⟩; have hS1 := keep2 hS hb; obtain ⟨ca0, ca1, ca2, ca3, ca4, ca5, ca6, ca7, ca8, ca9, ca10, ca11, hz, hB⟩ := id hS1)
      | (go_at_call 146; refine (cnull_any _).mono ?_; rintro e w2 ⟨rfl, hb2⟩; have hS2 := keep2 hS1 hb2; obtain ⟨cb0, cb1, cb2, cb3, cb4, cb5, cb6, cb7, cb8, cb9, cb10, cb11, hz2, hB2⟩ := id hS2))
    refine bodyPost_ret (v := .agg #[.int .i64 0, .int .i64 0, .string ⟨#[]⟩]) (by simp only [results, Tryz.results104]; go_simp) rfl ⟨rfl, below_setg hB2 (by omega)⟩
  | true =>
    have hml := may_len hm
    by_cases k0 : k = 0
    · have hv' := (Val.pshow_not (.inr k0)).symm.trans hv.out
      simp only [Val.zero, Val.V.mk.injEq, true_and] at hv'
      obtain ⟨rfl, ht⟩ := hv'
      have ht' := text_nil ht.symm
      subst ht'
      have b0 : (k == 0) = true := by simp [k0]
      replace hm := Lib.hid hm
      clear hv k0 ht
      go_enter Tryz.func104, Tryz.ntmps104
      go_wp2_with (first
        | (go_at_call 18; refine (may_is _ _ _ _ hm).mono ?_; rintro e w1 ⟨rfl, hb⟩; have hS1 := keep2 hS hb; obtain ⟨ca0, ca1, ca2, ca3, ca4, ca5, ca6, ca7, ca8, ca9, ca10, ca11, hz, hB⟩ := id hS1)
        | (go_at_call 146; refine (cnull_any _).mono ?_; rintro e w2 ⟨rfl, hb2⟩; have hS2 := keep2 hS1 hb2; obtain ⟨cb0, cb1, cb2, cb3, cb4, cb5, cb6, cb7, cb8, cb9, cb10, cb11, hz2, hB2⟩ := id hS2))
      refine bodyPost_ret (v := .agg #[.int .i64 0, .int .i64 0, .string ⟨#[]⟩]) (by simp only [results, Tryz.results104]; go_simp) rfl ⟨rfl, below_setg hB2 (by omega)⟩
    · have b0 : (k == 0) = false := by simp [k0]
      by_cases k1 : k = 1
      · have hv' := (Val.pshow_int hm k1).symm.trans hv.out
        simp only [Val.V.mk.injEq, true_and] at hv'
        obtain ⟨rfl, ht⟩ := hv'
        have ht' : bs (Lib.itoa n) = t' := bytes_inj' ht
        have hts := itoa_size h0 h1
        rw [ht'] at hts
        have b1 : (k == 1) = true := by simp [k1]
        replace hm := Lib.hid hm
        replace ht' := Lib.hid ht'
        clear hv k0 k1 ht
        go_enter Tryz.func104, Tryz.ntmps104
        go_wp2_with (first
          | (go_at_call 18; refine (may_is _ _ _ _ hm).mono ?_; rintro e w1 ⟨rfl, hb⟩; have hS1 := keep2 hS hb; obtain ⟨ca0, ca1, ca2, ca3, ca4, ca5, ca6, ca7, ca8, ca9, ca10, ca11, hz, hB⟩ := id hS1; have hL1 := hL0.below hb)
          | (go_at_call 100; refine (format_any n _ h0 h1 hL1).mono ?_; rintro e w2 ⟨rfl, hb2⟩; rw [ht'.out]; have hS2 := keep2 hS1 hb2)
          | (go_at_call 147; refine (ctext_ok _ _ hts).mono ?_; rintro e w3 ⟨rfl, hb3⟩; have hS3 := keep2 hS2 hb3; obtain ⟨cb0, cb1, cb2, cb3, cb4, cb5, cb6, cb7, cb8, cb9, cb10, cb11, hz3, hB3⟩ := id hS3))
        refine bodyPost_ret (v := .agg #[.int .i64 2, .int .i64 0, .string t']) (by simp only [results, Tryz.results104]; go_simp) rfl ⟨rfl, below_setg hB3 (by omega)⟩
      · have hv' := (Val.pshow_text hm k0 k1).symm.trans hv.out
        simp only [Val.V.mk.injEq, true_and] at hv'
        obtain ⟨rfl, ht⟩ := hv'
        have ht' := bytes_inj' ht
        subst ht'
        have b1 : (k == 1) = false := by simp [k1]
        replace hm := Lib.hid hm
        clear hv k0 k1 ht
        go_enter Tryz.func104, Tryz.ntmps104
        go_wp2_with (first
          | (go_at_call 18; refine (may_is _ _ _ _ hm).mono ?_; rintro e w1 ⟨rfl, hb⟩; have hS1 := keep2 hS hb; obtain ⟨ca0, ca1, ca2, ca3, ca4, ca5, ca6, ca7, ca8, ca9, ca10, ca11, hz, hB⟩ := id hS1; have hL1 := hL0.below hb)
          | (go_at_call 147; refine (ctext_ok _ _ hml).mono ?_; rintro e w3 ⟨rfl, hb3⟩; have hS3 := keep2 hS1 hb3; obtain ⟨cb0, cb1, cb2, cb3, cb4, cb5, cb6, cb7, cb8, cb9, cb10, cb11, hz3, hB3⟩ := id hS3))
        refine bodyPost_ret (v := .agg #[.int .i64 2, .int .i64 0, .string t]) (by simp only [results, Tryz.results104]; go_simp) rfl ⟨rfl, below_setg hB3 (by omega)⟩

/-- a number's kind and worth, by what it says of truth -/
theorem tru_num {v : Val.V} {r : Int} (hf : Val.fits v) (hr : Val.tru v = r) : ∃ k' n', Val.num v = ⟨k', n', []⟩ ∧ (n' != 0) = decide (r = 1) ∧ (k' == 1) = decide (0 ≤ r) ∧ (k' == 0) = decide (r = -1) ∧ (n' ≠ 0 ↔ r = 1) := by
  unfold Val.tru at hr
  rcases Val.num_cases hf with h | ⟨n, h, _, _⟩
  · refine ⟨0, 0, h, ?_⟩
    rw [h] at hr
    simp [Val.zero] at hr
    subst hr; decide
  · refine ⟨1, n, h, ?_⟩
    rw [h] at hr
    by_cases h0 : n = 0
    · subst h0
      simp at hr
      subst hr; decide
    · simp [h0] at hr
      subst hr
      simp [h0]

set_option maxHeartbeats 1000000 in
theorem ctru_is (k n : Int) (t : ByteArray) (w : World) (h0 : -9223372036854775808 ≤ n) (h1 : n ≤ 9223372036854775807) (hL : Lits w) (r : Int) (is kn : Bool) (hr : Hid (Val.tru ⟨k, n, t.data.toList⟩ = r)) (hi : Hid (decide (r = 1) = is)) (hk : Hid (decide (0 ≤ r) = kn)) :
    Calls Tryz.prog 79 #[.agg #[.int .i64 k, .int .i64 n, .string t]] w fun e w' => e = .returned (.tuple #[.bool is, .bool kn]) ∧ Below w.heap.size w w' := by
  have hS := start1 w (.int .i64 k) (.int .i64 n) (.string t) 25
  have hL0 : Lits (w.alloc (.cells #[.int .i64 k, .int .i64 n, .string t] 25)) := hL.alloc _
  obtain ⟨k', n', hv, e1, e2, _, _⟩ := tru_num (v := ⟨k, n, t.data.toList⟩) ⟨h0, h1⟩ hr.out
  rw [hi.out] at e1
  rw [hk.out] at e2
  replace hv := Lib.hid hv
  clear hr hi hk
  go_enter Tryz.func79, Tryz.ntmps79
  go_wp2_with (go_at_call 127; refine (cnum_is _ _ _ _ hL0 _ _ hv).mono ?_; rintro e w1 ⟨rfl, hb⟩; have hS1 := keep1 hS hb; obtain ⟨ca0, ca1, ca2, ca3, ca4, ca5, hz, hB⟩ := id hS1)
  go_quiet (fail)
  go_wp2
  go_ret2
  refine ⟨rfl, ?_⟩
  exact below_drewN (hB.trans ((below_new w1 _).mono hB.size)) _

end Go.Proofs.YtmkgalcojoeniaaGreatDoor
