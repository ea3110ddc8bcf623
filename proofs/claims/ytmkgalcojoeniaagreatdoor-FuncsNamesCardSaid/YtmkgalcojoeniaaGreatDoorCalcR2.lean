/- Walks: Num, Show, Truth of the reference of layer 3. -/
import Derived.Test.YtmkgalcojoeniaaGreatDoorCalcR1
set_option maxRecDepth 100000
set_option linter.unusedVariables false
set_option linter.unusedSimpArgs false
namespace Go.Proofs.YtmkgalcojoeniaaGreatDoor
open Go.RowKit

theorem ltrim_step (u : ByteArray) (h : 0 < u.size) (hb : Val.isBlank u[0] = true) : Val.ltrim u.data.toList = Val.ltrim (u.extract 1 u.size).data.toList := by
  have hd := dropc u 0 h
  rw [List.drop_zero] at hd
  rw [extract_drop]
  conv => lhs; rw [hd]
  exact Val.ltrim_blank _ hb
theorem ltrim_end (u : ByteArray) (h : 0 < u.size) (hb : Val.isBlank u[0] = false) : Val.ltrim u.data.toList = u.data.toList := by
  have hd := dropc u 0 h
  rw [List.drop_zero] at hd
  rw [hd, Val.ltrim_other _ hb]
theorem ltrim_empty (u : ByteArray) (h : ¬ 0 < u.size) : Val.ltrim u.data.toList = u.data.toList := by
  have : u.data.toList = [] := List.eq_nil_of_length_eq_zero (by have : u.data.toList.length = u.size := rfl; omega)
  rw [this]; rfl
set_option maxHeartbeats 1000000 in
theorem rnum03_is (k n : Int) (t : ByteArray) (w : World) (hL : Lits w) (k' n' : Int) (hv : Hid (Val.num ⟨k, n, t.data.toList⟩ = ⟨k', n', []⟩)) : Calls Tryz.prog 63 #[.agg #[.int .i64 k, .int .i64 n, .string t]] w (VRet k' n' ⟨#[]⟩ w) := by
  have hS := start2 w (.int .i64 k) (.int .i64 n) (.string t) (.int .i64 0) (.int .i64 0) (.string ⟨#[]⟩) 25 25
  have hL0 : Lits ((w.alloc (.cells #[.int .i64 k, .int .i64 n, .string t] 25)).alloc (.cells #[.int .i64 0, .int .i64 0, .string ⟨#[]⟩] 25)) := (hL.alloc _).alloc _
  cases hm : Val.may ⟨k, n, t.data.toList⟩ with
  | false =>
    have hv' := (Val.num_not (.inl hm)).symm.trans hv.out
    simp only [Val.zero, Val.V.mk.injEq, and_true] at hv'
    obtain ⟨rfl, rfl⟩ := hv'
    replace hm := Lib.hid hm
    clear hv
    go_enter Tryz.func63, Tryz.ntmps63
    go_wp2_with (first
      | (go_at_call 57; refine (rmay_is _ _ _ _ hm).mono ?_; rintro e w1 ⟨rfl, hb⟩; have hS1 := keep2 hS hb; obtain ⟨ca0, ca1, ca2, ca3, ca4, ca5, ca6, ca7, ca8, ca9, ca10, ca11, hz, hB⟩ := id hS1)
      | (go_at_call 108; refine (rnull_any _).mono ?_; rintro e w2 ⟨rfl, hb2⟩; have hS2 := keep2 hS1 hb2; obtain ⟨cb0, cb1, cb2, cb3, cb4, cb5, cb6, cb7, cb8, cb9, cb10, cb11, hz2, hB2⟩ := id hS2))
    refine bodyPost_ret (v := .agg #[.int .i64 0, .int .i64 0, .string ⟨#[]⟩]) (by simp only [results, Tryz.results63]; go_simp) rfl ⟨rfl, below_setg hB2 (by omega)⟩
  | true =>
    have hml := may_len hm
    have hmi := Val.may_iff.1 hm
    simp only at hmi
    by_cases k0 : k = 0
    · have hv' := (Val.num_not (.inr k0)).symm.trans hv.out
      simp only [Val.zero, Val.V.mk.injEq, and_true] at hv'
      obtain ⟨rfl, rfl⟩ := hv'
      have b0 : (k == 0) = true := by simp [k0]
      replace hm := Lib.hid hm
      clear hv k0 hmi
      go_enter Tryz.func63, Tryz.ntmps63
      go_wp2_with (first
        | (go_at_call 57; refine (rmay_is _ _ _ _ hm).mono ?_; rintro e w1 ⟨rfl, hb⟩; have hS1 := keep2 hS hb; obtain ⟨ca0, ca1, ca2, ca3, ca4, ca5, ca6, ca7, ca8, ca9, ca10, ca11, hz, hB⟩ := id hS1)
        | (go_at_call 108; refine (rnull_any _).mono ?_; rintro e w2 ⟨rfl, hb2⟩; have hS2 := keep2 hS1 hb2; obtain ⟨cb0, cb1, cb2, cb3, cb4, cb5, cb6, cb7, cb8, cb9, cb10, cb11, hz2, hB2⟩ := id hS2))
      refine bodyPost_ret (v := .agg #[.int .i64 0, .int .i64 0, .string ⟨#[]⟩]) (by simp only [results, Tryz.results63]; go_simp) rfl ⟨rfl, below_setg hB2 (by omega)⟩
    · have b0 : (k == 0) = false := by simp [k0]
      by_cases k1 : k = 1
      · have hv' := (Val.num_int hm k1).symm.trans hv.out
        simp only [Val.V.mk.injEq] at hv'
        obtain ⟨rfl, rfl, ht⟩ := hv'
        have ht' := text_nil ht
        subst ht'
        have b1 : (k == 1) = true := by simp [k1]
        replace hm := Lib.hid hm
        clear hv k0 hmi k1 ht
        go_enter Tryz.func63, Tryz.ntmps63
        go_wp2_with (go_at_call 57; refine (rmay_is _ _ _ _ hm).mono ?_; rintro e w1 ⟨rfl, hb⟩; have hS1 := keep2 hS hb; obtain ⟨ca0, ca1, ca2, ca3, ca4, ca5, ca6, ca7, ca8, ca9, ca10, ca11, hz, hB⟩ := id hS1)
        refine bodyPost_ret (v := .agg #[.int .i64 k, .int .i64 n, .string ⟨#[]⟩]) (by simp only [results, Tryz.results63]; go_simp) rfl ⟨rfl, below_setg hB (by omega)⟩
      · have b1 : (k == 1) = false := by simp [k1]
        obtain ⟨u, hu⟩ : ∃ u, bs (Val.ltrim t.data.toList) = u := ⟨_, rfl⟩
        have hud : u.data.toList = Val.ltrim t.data.toList := by rw [← hu]; rfl
        have hul : u.size ≤ 400 := by
          have h1 : (Val.ltrim t.data.toList).length ≤ t.data.toList.length := (List.dropWhile_sublist _).length_le
          have h2 : t.data.toList.length = t.size := rfl
          have h3 : u.data.toList.length = u.size := rfl
          rw [hud] at h3; omega
        obtain ⟨m, hmm⟩ : ∃ m, Val.lead u.data.toList = m := ⟨_, rfl⟩
        have hmle : m ≤ u.size := by rw [← hmm]; exact Val.lead_le _
        by_cases m0 : m = 0
        · have hv' := (Val.num_none hm k0 k1 (by rw [← hud, hmm]; exact m0)).symm.trans hv.out
          simp only [Val.V.mk.injEq, and_true] at hv'
          obtain ⟨rfl, rfl⟩ := hv'
          subst m0
          replace hm := Lib.hid hm
          replace hu := Lib.hid hu
          replace hmm := Lib.hid hmm
          clear hv k0 hmi k1 hud
          go_enter Tryz.func63, Tryz.ntmps63
          go_wp2_with (go_at_call 57; refine (rmay_is _ _ _ _ hm).mono ?_; rintro e w1 ⟨rfl, hb⟩; have hS1 := keep2 hS hb; obtain ⟨ca0, ca1, ca2, ca3, ca4, ca5, ca6, ca7, ca8, ca9, ca10, ca11, hz, hB⟩ := id hS1)
          go_loop [3] (fun v => ∃ x : ByteArray, v = .string x ∧ x.size ≤ 400 ∧ Hid (bs (Val.ltrim x.data.toList) = u)) (fun v => Lib.strSize v)
          case atStart => exact ⟨t, rfl, hml, hu⟩
          case round =>
            obtain ⟨x, rfl, hxs, hq⟩ := hrel
            by_cases hx0 : 0 < x.size
            · have c0 : decide ((x.size : Int) > 0) = true := decide_eq_true (by omega)
              have i2 : (1 : Int) ≤ (x.size : Int) := by omega
              cases hbl : Val.isBlank x[0] with
              | true =>
                have hn := hq.out
                rw [ltrim_step x hx0 hbl] at hn
                replace hn := Lib.hid hn
                have hbk := Lib.hid hbl
                clear hq hbl
                go_wp2_with (go_at_call 120; refine (rblank_any _ _ _ hbk).mono ?_; rintro e w2 ⟨rfl, rfl⟩)
                go_round
                case rel => exact ⟨x.extract 1 x.size, by first | rfl | (simp; done), by rw [ByteArray.size_extract]; omega, hn⟩
                case measure => simp [Lib.strSize]; omega
              | false =>
                have hn := hq.out
                rw [ltrim_end x hx0 hbl, bs_of] at hn
                have hbk := Lib.hid hbl
                clear hq hbl hu
                subst hn
                go_wp2_with (first
                  | (go_at_call 120; refine (rblank_any _ _ _ hbk).mono ?_; rintro e w2 ⟨rfl, rfl⟩)
                  | (go_at_call 121; refine (rlead_is _ _ (by omega) _ hmm).mono ?_; rintro e w3 ⟨rfl, rfl⟩)
                  | (go_at_call 20; refine (rint_any _ _).mono ?_; rintro e w3 ⟨rfl, hb3⟩; have hS3 := keep2 hS1 hb3; obtain ⟨cb0, cb1, cb2, cb3, cb4, cb5, cb6, cb7, cb8, cb9, cb10, cb11, hz3, hB3⟩ := id hS3))
                refine bodyPost_ret (v := .agg #[.int .i64 1, .int .i64 0, .string ⟨#[]⟩]) (by simp only [results, Tryz.results63]; go_simp) rfl ⟨rfl, below_setg hB3 (by omega)⟩
            · have c0 : decide ((x.size : Int) > 0) = false := decide_eq_false (by omega)
              have hn := hq.out
              rw [ltrim_empty x hx0, bs_of] at hn
              clear hq hu
              subst hn
              go_wp2_with (first
                | (go_at_call 121; refine (rlead_is _ _ (by omega) _ hmm).mono ?_; rintro e w3 ⟨rfl, rfl⟩)
                | (go_at_call 20; refine (rint_any _ _).mono ?_; rintro e w3 ⟨rfl, hb3⟩; have hS3 := keep2 hS1 hb3; obtain ⟨cb0, cb1, cb2, cb3, cb4, cb5, cb6, cb7, cb8, cb9, cb10, cb11, hz3, hB3⟩ := id hS3))
              refine bodyPost_ret (v := .agg #[.int .i64 1, .int .i64 0, .string ⟨#[]⟩]) (by simp only [results, Tryz.results63]; go_simp) rfl ⟨rfl, below_setg hB3 (by omega)⟩
        · have hv' := (Val.num_text hm k0 k1 (by rw [← hud, hmm]; exact m0)).symm.trans hv.out
          rw [← hud, hmm, ← extract_take] at hv'
          have b2 : ((m : Int) == 0) = false := by simp; omega
          have hgg : Val.signed (u.extract 0 m).data.toList := by rw [extract_take, ← hmm]; exact Val.lead_signed (by rw [hmm]; exact m0)
          have hel : (u.extract 0 m).size ≤ 400 := by
            have h1 := extract_take u m
            have h2 : (u.extract 0 m).data.toList.length = (u.extract 0 m).size := rfl
            rw [h1, List.length_take] at h2
            have h3 : u.data.toList.length = u.size := rfl
            omega
          replace hm := Lib.hid hm
          replace hu := Lib.hid hu
          replace hmm := Lib.hid hmm
          replace hv' := Lib.hid hv'
          replace hel := Lib.hid hel
          replace hgg := Lib.hid hgg
          clear hv k0 hmi k1 hud m0
          go_enter Tryz.func63, Tryz.ntmps63
          go_wp2_with (go_at_call 57; refine (rmay_is _ _ _ _ hm).mono ?_; rintro e w1 ⟨rfl, hb⟩; have hS1 := keep2 hS hb; obtain ⟨ca0, ca1, ca2, ca3, ca4, ca5, ca6, ca7, ca8, ca9, ca10, ca11, hz, hB⟩ := id hS1)
          go_loop [3] (fun v => ∃ x : ByteArray, v = .string x ∧ x.size ≤ 400 ∧ Hid (bs (Val.ltrim x.data.toList) = u)) (fun v => Lib.strSize v)
          case atStart => exact ⟨t, rfl, hml, hu⟩
          case round =>
            obtain ⟨x, rfl, hxs, hq⟩ := hrel
            by_cases hx0 : 0 < x.size
            · have c0 : decide ((x.size : Int) > 0) = true := decide_eq_true (by omega)
              have i2 : (1 : Int) ≤ (x.size : Int) := by omega
              cases hbl : Val.isBlank x[0] with
              | true =>
                have hn := hq.out
                rw [ltrim_step x hx0 hbl] at hn
                replace hn := Lib.hid hn
                have hbk := Lib.hid hbl
                clear hq hbl
                go_wp2_with (go_at_call 120; refine (rblank_any _ _ _ hbk).mono ?_; rintro e w2 ⟨rfl, rfl⟩)
                go_round
                case rel => exact ⟨x.extract 1 x.size, by first | rfl | (simp; done), by rw [ByteArray.size_extract]; omega, hn⟩
                case measure => simp [Lib.strSize]; omega
              | false =>
                have hn := hq.out
                rw [ltrim_end x hx0 hbl, bs_of] at hn
                have hbk := Lib.hid hbl
                clear hq hbl hu
                subst hn
                go_wp2_with (first
                  | (go_at_call 120; refine (rblank_any _ _ _ hbk).mono ?_; rintro e w2 ⟨rfl, rfl⟩)
                  | (go_at_call 121; refine (rlead_is _ _ (by omega) _ hmm).mono ?_; rintro e w3 ⟨rfl, rfl⟩)
                  | (go_at_call 122; refine (rnumber_is _ _ hel.out hgg.out _ _ hv').mono ?_; rintro e w3 ⟨rfl, hb3⟩; have hS3 := keep2 hS1 hb3; obtain ⟨cb0, cb1, cb2, cb3, cb4, cb5, cb6, cb7, cb8, cb9, cb10, cb11, hz3, hB3⟩ := id hS3))
                refine bodyPost_ret (v := .agg #[.int .i64 k', .int .i64 n', .string ⟨#[]⟩]) (by simp only [results, Tryz.results63]; go_simp) rfl ⟨rfl, below_setg hB3 (by omega)⟩
            · have c0 : decide ((x.size : Int) > 0) = false := decide_eq_false (by omega)
              have hn := hq.out
              rw [ltrim_empty x hx0, bs_of] at hn
              clear hq hu
              subst hn
              go_wp2_with (first
                | (go_at_call 121; refine (rlead_is _ _ (by omega) _ hmm).mono ?_; rintro e w3 ⟨rfl, rfl⟩)
                | (go_at_call 122; refine (rnumber_is _ _ hel.out hgg.out _ _ hv').mono ?_; rintro e w3 ⟨rfl, hb3⟩; have hS3 := keep2 hS1 hb3; obtain ⟨cb0, cb1, cb2, cb3, cb4, cb5, cb6, cb7, cb8, cb9, cb10, cb11, hz3, hB3⟩ := id hS3))
              refine bodyPost_ret (v := .agg #[.int .i64 k', .int .i64 n', .string ⟨#[]⟩]) (by simp only [results, Tryz.results63]; go_simp) rfl ⟨rfl, below_setg hB3 (by omega)⟩

set_option maxHeartbeats 1000000 in
theorem rshow_is (k n : Int) (t : ByteArray) (w : World) (h0 : -9223372036854775808 ≤ n) (h1 : n ≤ 9223372036854775807) (hL : Lits w) (k' : Int) (t' : ByteArray) (hv : Hid (Val.pshow ⟨k, n, t.data.toList⟩ = ⟨k', 0, t'.data.toList⟩)) : Calls Tryz.prog 48 #[.agg #[.int .i64 k, .int .i64 n, .string t]] w (VRet k' 0 t' w) := by
  have hS := start2 w (.int .i64 k) (.int .i64 n) (.string t) (.int .i64 0) (.int .i64 0) (.string ⟨#[]⟩) 25 25
  have hL0 : Lits ((w.alloc (.cells #[.int .i64 k, .int .i64 n, .string t] 25)).alloc (.cells #[.int .i64 0, .int .i64 0, .string ⟨#[]⟩] 25)) := (hL.alloc _).alloc _
  cases hm : Val.may ⟨k, n, t.data.toList⟩ with
  | false =>
    have hv' := (Val.pshow_not (.inl hm)).symm.trans hv.out
    simp only [Val.zero, Val.V.mk.injEq, true_and] at hv'
    obtain ⟨rfl, ht⟩ := hv'
    have ht' := text_nil ht.symm
    subst ht'
    replace hm := Lib.hid hm
    clear hv ht
    go_enter Tryz.func48, Tryz.ntmps48
    go_wp2_with (first
      | (go_at_call 57; refine (rmay_is _ _ _ _ hm).mono ?_; rintro e w1 ⟨rfl, hb⟩; have hS1 := keep2 hS hb; obtain ⟨ca0, ca1, ca2, ca3, ca4, ca5, ca6, ca7, ca8, ca9, ca10, ca11, hz, hB⟩ := id hS1)
      | (go_at_call 108; refine (rnull_any _).mono ?_; rintro e w2 ⟨rfl, hb2⟩; have hS2 := keep2 hS1 hb2; obtain ⟨cb0, cb1, cb2, cb3, cb4, cb5, cb6, cb7, cb8, cb9, cb10, cb11, hz2, hB2⟩ := id hS2))
    refine bodyPost_ret (v := .agg #[.int .i64 0, .int .i64 0, .string ⟨#[]⟩]) (by simp only [results, Tryz.results48]; go_simp) rfl ⟨rfl, below_setg hB2 (by omega)⟩
  | true =>
    have hml := may_len hm
    by_cases k0 : k = 0
    · have hv' := (Val.pshow_not (.inr k0)).symm.trans hv.out
      simp only [Val.zero, Val.V.mk.injEq, true_and] at hv'
      obtain ⟨rfl, ht⟩ := hv'
      have ht' := text_nil ht.symm
      subst ht'
      have b0 : (k == 0) = true := by simp [k0]
      replace hm := Lib.hid hm
      clear hv k0 ht
      go_enter Tryz.func48, Tryz.ntmps48
      go_wp2_with (first
        | (go_at_call 57; refine (rmay_is _ _ _ _ hm).mono ?_; rintro e w1 ⟨rfl, hb⟩; have hS1 := keep2 hS hb; obtain ⟨ca0, ca1, ca2, ca3, ca4, ca5, ca6, ca7, ca8, ca9, ca10, ca11, hz, hB⟩ := id hS1)
        | (go_at_call 108; refine (rnull_any _).mono ?_; rintro e w2 ⟨rfl, hb2⟩; have hS2 := keep2 hS1 hb2; obtain ⟨cb0, cb1, cb2, cb3, cb4, cb5, cb6, cb7, cb8, cb9, cb10, cb11, hz2, hB2⟩ := id hS2))
      refine bodyPost_ret (v := .agg #[.int .i64 0, .int .i64 0, .string ⟨#[]⟩]) (by simp only [results, Tryz.results48]; go_simp) rfl ⟨rfl, below_setg hB2 (by omega)⟩
    · have b0 : (k == 0) = false := by simp [k0]
      by_cases k1 : k = 1
      · have hv' := (Val.pshow_int hm k1).symm.trans hv.out
        simp only [Val.V.mk.injEq, true_and] at hv'
        obtain ⟨rfl, ht⟩ := hv'
        have ht' : bs (Lib.itoa n) = t' := bytes_inj' ht
        have hts := itoa_size h0 h1
        rw [ht'] at hts
        have b1 : (k == 1) = true := by simp [k1]
        replace hm := Lib.hid hm
        replace ht' := Lib.hid ht'
        clear hv k0 k1 ht
        go_enter Tryz.func48, Tryz.ntmps48
        go_wp2_with (first
          | (go_at_call 57; refine (rmay_is _ _ _ _ hm).mono ?_; rintro e w1 ⟨rfl, hb⟩; have hS1 := keep2 hS hb; obtain ⟨ca0, ca1, ca2, ca3, ca4, ca5, ca6, ca7, ca8, ca9, ca10, ca11, hz, hB⟩ := id hS1; have hL1 := hL0.below hb)
          | (go_at_call 100; refine (format_any n _ h0 h1 hL1).mono ?_; rintro e w2 ⟨rfl, hb2⟩; rw [ht'.out]; have hS2 := keep2 hS1 hb2)
          | (go_at_call 61; refine (rtext_ok _ _ hts).mono ?_; rintro e w3 ⟨rfl, hb3⟩; have hS3 := keep2 hS2 hb3; obtain ⟨cb0, cb1, cb2, cb3, cb4, cb5, cb6, cb7, cb8, cb9, cb10, cb11, hz3, hB3⟩ := id hS3))
        refine bodyPost_ret (v := .agg #[.int .i64 2, .int .i64 0, .string t']) (by simp only [results, Tryz.results48]; go_simp) rfl ⟨rfl, below_setg hB3 (by omega)⟩
      · have hv' := (Val.pshow_text hm k0 k1).symm.trans hv.out
        simp only [Val.V.mk.injEq, true_and] at hv'
        obtain ⟨rfl, ht⟩ := hv'
        have ht' := bytes_inj' ht
        subst ht'
        have b1 : (k == 1) = false := by simp [k1]
        replace hm := Lib.hid hm
        clear hv k0 k1 ht
        go_enter Tryz.func48, Tryz.ntmps48
        go_wp2_with (first
          | (go_at_call 57; refine (rmay_is _ _ _ _ hm).mono ?_; rintro e w1 ⟨rfl, hb⟩; have hS1 := keep2 hS hb; obtain ⟨ca0, ca1, ca2, ca3, ca4, ca5, ca6, ca7, ca8, ca9, ca10, ca11, hz, hB⟩ := id hS1; have hL1 := hL0.below hb)
          | (go_at_call 61; refine (rtext_ok _ _ hml).mono ?_; rintro e w3 ⟨rfl, hb3⟩; have hS3 := keep2 hS1 hb3; obtain ⟨cb0, cb1, cb2, cb3, cb4, cb5, cb6, cb7, cb8, cb9, cb10, cb11, hz3, hB3⟩ := id hS3))
        refine bodyPost_ret (v := .agg #[.int .i64 2, .int .i64 0, .string t]) (by simp only [results, Tryz.results48]; go_simp) rfl ⟨rfl, below_setg hB3 (by omega)⟩

set_option maxHeartbeats 1000000 in
theorem rtru_is (k n : Int) (t : ByteArray) (w : World) (h0 : -9223372036854775808 ≤ n) (h1 : n ≤ 9223372036854775807) (hL : Lits w) (r : Int) (hr : Hid (Val.tru ⟨k, n, t.data.toList⟩ = r)) :
    Calls Tryz.prog 58 #[.agg #[.int .i64 k, .int .i64 n, .string t]] w fun e w' => e = .returned (.int .i64 r) ∧ Below w.heap.size w w' := by
  have hS := start1 w (.int .i64 k) (.int .i64 n) (.string t) 25
  have hL0 : Lits (w.alloc (.cells #[.int .i64 k, .int .i64 n, .string t] 25)) := hL.alloc _
  have hrc := Val.tru_cases ⟨k, n, t.data.toList⟩
  rw [hr.out] at hrc
  obtain ⟨k', n', hv, e1, _, e3, _⟩ := tru_num (v := ⟨k, n, t.data.toList⟩) ⟨h0, h1⟩ hr.out
  replace hv := Lib.hid hv
  clear hr
  rcases hrc with rfl | rfl | rfl
  all_goals (
    simp only [Int.reduceEq, Int.reduceNeg, decide_true, decide_false] at e1 e3
    go_enter Tryz.func58, Tryz.ntmps58
    go_wp2_with (go_at_call 63; refine (rnum03_is _ _ _ _ hL0 _ _ hv).mono ?_; rintro e w1 ⟨rfl, hb⟩; have hS1 := keep1 hS hb; obtain ⟨ca0, ca1, ca2, ca3, ca4, ca5, hz, hB⟩ := id hS1)
    go_ret
    exact ⟨rfl, hB.trans ((below_new w1 _).mono hB.size)⟩)

end Go.Proofs.YtmkgalcojoeniaaGreatDoor
