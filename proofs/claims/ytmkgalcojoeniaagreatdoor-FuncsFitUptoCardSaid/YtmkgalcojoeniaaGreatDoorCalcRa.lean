/- Walks: Text, Three, Number of the reference of layer 3. Walks: Num, Show, Truth of the reference of layer 3. -/
import Derived.Test.YtmkgalcojoeniaaGreatDoorCalcWs
import Derived.Test.YtmkgalcojoeniaaGreatDoorNumA
set_option maxRecDepth 100000
set_option linter.unusedVariables false
set_option linter.unusedSimpArgs false
namespace Go.Proofs.YtmkgalcojoeniaaGreatDoor
open Go.RowKit

theorem rtext_ok (s : ByteArray) (w : World) (h : s.size ≤ 400) : Calls Tryz.prog 61 #[.string s] w (VRet 2 0 s w) := by
  have b : decide ((s.size : Int) > 400) = false := decide_eq_false (by omega)
  go_enter Tryz.func61, Tryz.ntmps61
  go_wp2
  refine bodyPost_ret (v := .agg #[.int .i64 2, .int .i64 0, .string s]) (by simp only [results, Tryz.results61]; go_simp) rfl ⟨rfl, ?_⟩
  first | exact below_new _ _ | exact below_setg (below_new _ _) (Nat.le_refl _)
end Go.Proofs.YtmkgalcojoeniaaGreatDoor

namespace Go.Proofs.YtmkgalcojoeniaaGreatDoor
open Go.RowKit

set_option maxHeartbeats 1000000 in
theorem rshow_is (k n : Int) (t : ByteArray) (w : World) (h0 : -9223372036854775808 ≤ n) (h1 : n ≤ 9223372036854775807) (hL : Lits w) (k' : Int) (t' : ByteArray) (hv : Hid (Val.pshow ⟨k, n, t.data.toList⟩ = ⟨k', 0, t'.data.toList⟩)) : Calls Tryz.prog 48 #[.agg #[.int .i64 k, .int .i64 n, .string t]] w (VRet k' 0 t' w) := by
  have hS := start2 w (.int .i64 k) (.int .i64 n) (.string t) (.int .i64 0) (.int .i64 0) (.string ⟨#[]⟩) 25 25
  have hL0 : Lits ((w.alloc (.cells #[.int .i64 k, .int .i64 n, .string t] 25)).alloc (.cells #[.int .i64 0, .int .i64 0, .string ⟨#[]⟩] 25)) := (hL.alloc _).alloc _
  cases hm : Val.may ⟨k, n, t.data.toList⟩ with
  | false =>
    have hv' := (Val.pshow_not (.inl hm)).symm.trans hv.out
    simp only [Val.zero, Val.V.mk.injEq, true_and] at hv'
    obtain ⟨rfl, ht⟩ := hv'
    have ht' := text_nil ht.symm
    subst ht'
    replace hm := Lib.hid hm
    clear hv ht
    go_enter Tryz.func48, Tryz.ntmps48
    go_wp2_with (first
      | (go_at_call 57; refine (rmay_is _ _ _ _ hm).mono ?_; rintro e w1 ⟨rfl, hb⟩; have hS1 := keep2 hS hb; obtain ⟨ca0, ca1, ca2, ca3, ca4, ca5, ca6, ca7, ca8, ca9, ca10, ca11, hz, hB⟩ := id hS1)
      | (go_at_call 108; refine (rnull_any _).mono ?_; rintro e w2 ⟨rfl, hb2⟩; have hS2 := keep2 hS1 hb2; obtain ⟨cb0, cb1, cb2, cb3, cb4, cb5, cb6, cb7, cb8, cb9, cb10, cb11, hz2, hB2⟩ := id hS2))
    refine bodyPost_ret (v := .agg #[.int .i64 0, .int .i64 0, .string ⟨#[]⟩]) (by simp only [results, Tryz.results48]; go_simp) rfl ⟨rfl, below_setg hB2 (by omega)⟩
  | true =>
    have hml := may_len hm
    by_cases k0 : k = 0
    · have hv' := (Val.pshow_not (.inr k0)).symm.trans hv.out
      simp only [Val.zero, Val.V.mk.injEq, true_and] at hv'
      obtain ⟨rfl, ht⟩ := hv'
      have ht' := text_nil ht.symm
      subst ht'
      have b0 : (k == 0) = true := by simp [k0]
      replace hm := Lib.hid hm
      clear hv k0 ht
      go_enter Tryz.func48, Tryz.ntmps48
      go_wp2_with (first
        | (go_at_call 57; refine (rmay_is _ _ _ _ hm).mono ?_; rintro e w1 ⟨rfl, hb⟩; have hS1 := keep2 hS hb; obtain ⟨ca0, ca1, ca2, ca3, ca4, ca5, ca6, ca7, ca8, ca9, ca10, ca11, hz, hB⟩ := id hS1)
        | (go_at_call 108; refine (rnull_any _).mono ?_; rintro e w2 ⟨rfl, hb2⟩; have hS2 := keep2 hS1 hb2; obtain ⟨cb0, cb1, cb2, cb3, cb4, cb5, cb6, cb7, cb8, cb9, cb10, cb11, hz2, hB2⟩ := id hS2))
      refine bodyPost_ret (v := .agg #[.int .i64 0, .int .i64 0, .string ⟨#[]⟩]) (by simp only [results, Tryz.results48]; go_simp) rfl ⟨rfl, below_setg hB2 (by omega)⟩
    · have b0 : (k == 0) = false := by simp [k0]
      by_cases k1 : k = 1
      · have hv' := (Val.pshow_int hm k1).symm.trans hv.out
        simp only [Val.V.mk.injEq, true_and] at hv'
        obtain ⟨rfl, ht⟩ := hv'
        have ht' : bs (Lib.itoa n) = t' := bytes_inj' ht
        have hts := itoa_size h0 h1
        rw [ht'] at hts
        have b1 : (k == 1) = true := by simp [k1]
        replace hm := Lib.hid hm
        replace ht' := Lib.hid ht'
        clear hv k0 k1 ht
        go_enter Tryz.func48, Tryz.ntmps48
        go_wp2_with (first
          | (go_at_call 57; refine (rmay_is _ _ _ _ hm).mono ?_; rintro e w1 ⟨rfl, hb⟩; have hS1 := keep2 hS hb; obtain ⟨ca0, ca1, ca2, ca3, ca4, ca5, ca6, ca7, ca8, ca9, ca10, ca11, hz, hB⟩ := id hS1; have hL1 := hL0.below hb)
          | (go_at_call 100; refine (format_any n _ h0 h1 hL1).mono ?_; rintro e w2 ⟨rfl, hb2⟩; rw [ht'.out]; have hS2 := keep2 hS1 hb2)
          | (go_at_call 61; refine (rtext_ok _ _ hts).mono ?_; rintro e w3 ⟨rfl, hb3⟩; have hS3 := keep2 hS2 hb3; obtain ⟨cb0, cb1, cb2, cb3, cb4, cb5, cb6, cb7, cb8, cb9, cb10, cb11, hz3, hB3⟩ := id hS3))
        refine bodyPost_ret (v := .agg #[.int .i64 2, .int .i64 0, .string t']) (by simp only [results, Tryz.results48]; go_simp) rfl ⟨rfl, below_setg hB3 (by omega)⟩
      · have hv' := (Val.pshow_text hm k0 k1).symm.trans hv.out
        simp only [Val.V.mk.injEq, true_and] at hv'
        obtain ⟨rfl, ht⟩ := hv'
        have ht' := bytes_inj' ht
        subst ht'
        have b1 : (k == 1) = false := by simp [k1]
        replace hm := Lib.hid hm
        clear hv k0 k1 ht
        go_enter Tryz.func48, Tryz.ntmps48
        go_wp2_with (first
          | (go_at_call 57; refine (rmay_is _ _ _ _ hm).mono ?_; rintro e w1 ⟨rfl, hb⟩; have hS1 := keep2 hS hb; obtain ⟨ca0, ca1, ca2, ca3, ca4, ca5, ca6, ca7, ca8, ca9, ca10, ca11, hz, hB⟩ := id hS1; have hL1 := hL0.below hb)
          | (go_at_call 61; refine (rtext_ok _ _ hml).mono ?_; rintro e w3 ⟨rfl, hb3⟩; have hS3 := keep2 hS1 hb3; obtain ⟨cb0, cb1, cb2, cb3, cb4, cb5, cb6, cb7, cb8, cb9, cb10, cb11, hz3, hB3⟩ := id hS3))
        refine bodyPost_ret (v := .agg #[.int .i64 2, .int .i64 0, .string t]) (by simp only [results, Tryz.results48]; go_simp) rfl ⟨rfl, below_setg hB3 (by omega)⟩

end Go.Proofs.YtmkgalcojoeniaaGreatDoor

