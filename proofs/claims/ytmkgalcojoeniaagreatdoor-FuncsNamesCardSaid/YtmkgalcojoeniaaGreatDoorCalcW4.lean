/- Walks: Num, Show, Truth of package calc. -/
import Derived.Test.YtmkgalcojoeniaaGreatDoorCalcW3
import Derived.Test.YtmkgalcojoeniaaGreatDoorPlain
set_option maxRecDepth 100000
set_option linter.unusedVariables false
set_option linter.unusedSimpArgs false
namespace Go.Proofs.YtmkgalcojoeniaaGreatDoor
open Go.RowKit

theorem may_len {k n : Int} {t : ByteArray} (h : Val.may ⟨k, n, t.data.toList⟩ = true) : t.size ≤ 400 := by
  have h1 := Val.may_iff.1 h
  have hl : t.data.toList.length = t.size := rfl
  simp only at h1
  rcases h1 with ⟨_, _, h⟩ | ⟨_, h⟩ | ⟨_, _, h⟩
  · rw [h] at hl; simp at hl; omega
  · rw [h] at hl; simp at hl; omega
  · omega
theorem text_nil {t : ByteArray} (h : t.data.toList = []) : t = ⟨#[]⟩ := by rw [← bs_of t, h]; rfl
theorem trimL_is (t u : ByteArray) (w : World) (hu : Hid (bs (Val.ltrim t.data.toList) = u)) :
    Calls Tryz.prog 159 #[.string t, .string ⟨#[32, 9, 10, 13]⟩] w fun e w' => e = .returned (.string u) ∧ Below w.heap.size w w' :=
  (Any.strings_TrimLeft_laid Tryz.lays161 (by kernel_rfl) t ⟨#[32, 9, 10, 13]⟩ w (by decide) (ascii_of_all (by decide))).mono fun _ _ ⟨h1, h2⟩ => ⟨by rw [h1, ← hu.out]; rfl, h2⟩
theorem extract_take (u : ByteArray) (m : Nat) : (u.extract 0 m).data.toList = u.data.toList.take m := by
  rw [Lib.extract_data]; simp

set_option maxHeartbeats 1000000 in
theorem cnum_is (k n : Int) (t : ByteArray) (w : World) (hL : Lits w) (k' n' : Int) (hv : Hid (Val.num ⟨k, n, t.data.toList⟩ = ⟨k', n', []⟩)) : Calls Tryz.prog 127 #[.agg #[.int .i64 k, .int .i64 n, .string t]] w (VRet k' n' ⟨#[]⟩ w) := by
  have hS := start2 w (.int .i64 k) (.int .i64 n) (.string t) (.int .i64 0) (.int .i64 0) (.string ⟨#[]⟩) 25 25
  have hL0 : Lits ((w.alloc (.cells #[.int .i64 k, .int .i64 n, .string t] 25)).alloc (.cells #[.int .i64 0, .int .i64 0, .string ⟨#[]⟩] 25)) := (hL.alloc _).alloc _
  cases hm : Val.may ⟨k, n, t.data.toList⟩ with
  | false =>
    have hv' := (Val.num_not (.inl hm)).symm.trans hv.out
    simp only [Val.zero, Val.V.mk.injEq, and_true] at hv'
    obtain ⟨rfl, rfl⟩ := hv'
    replace hm := Lib.hid hm
    clear hv
    go_enter Tryz.func127, Tryz.ntmps127
    go_wp2_with (first
      | (go_at_call 18; refine (may_is _ _ _ _ hm).mono ?_; rintro e w1 ⟨rfl, hb⟩; have hS1 := keep2 hS hb; obtain ⟨ca0, ca1, ca2, ca3, ca4, ca5, ca6, ca7, ca8, ca9, ca10, ca11, hz, hB⟩ := id hS1)
      | (go_at_call 146; refine (cnull_any _).mono ?_; rintro e w2 ⟨rfl, hb2⟩; have hS2 := keep2 hS1 hb2; obtain ⟨cb0, cb1, cb2, cb3, cb4, cb5, cb6, cb7, cb8, cb9, cb10, cb11, hz2, hB2⟩ := id hS2))
    refine bodyPost_ret (v := .agg #[.int .i64 0, .int .i64 0, .string ⟨#[]⟩]) (by simp only [results, Tryz.results127]; go_simp) rfl ⟨rfl, below_setg hB2 (by omega)⟩
  | true =>
    have hml := may_len hm
    have hmi := Val.may_iff.1 hm
    simp only at hmi
    by_cases k0 : k = 0
    · have hv' := (Val.num_not (.inr k0)).symm.trans hv.out
      simp only [Val.zero, Val.V.mk.injEq, and_true] at hv'
      obtain ⟨rfl, rfl⟩ := hv'
      have b0 : (k == 0) = true := by simp [k0]
      replace hm := Lib.hid hm
      clear hv k0 hmi
      go_enter Tryz.func127, Tryz.ntmps127
      go_wp2_with (first
        | (go_at_call 18; refine (may_is _ _ _ _ hm).mono ?_; rintro e w1 ⟨rfl, hb⟩; have hS1 := keep2 hS hb; obtain ⟨ca0, ca1, ca2, ca3, ca4, ca5, ca6, ca7, ca8, ca9, ca10, ca11, hz, hB⟩ := id hS1)
        | (go_at_call 146; refine (cnull_any _).mono ?_; rintro e w2 ⟨rfl, hb2⟩; have hS2 := keep2 hS1 hb2; obtain ⟨cb0, cb1, cb2, cb3, cb4, cb5, cb6, cb7, cb8, cb9, cb10, cb11, hz2, hB2⟩ := id hS2))
      refine bodyPost_ret (v := .agg #[.int .i64 0, .int .i64 0, .string ⟨#[]⟩]) (by simp only [results, Tryz.results127]; go_simp) rfl ⟨rfl, below_setg hB2 (by omega)⟩
    · have b0 : (k == 0) = false := by simp [k0]
      by_cases k1 : k = 1
      · have hv' := (Val.num_int hm k1).symm.trans hv.out
        simp only [Val.V.mk.injEq] at hv'
        obtain ⟨rfl, rfl, ht⟩ := hv'
        have ht' := text_nil ht
        subst ht'
        have b1 : (k == 1) = true := by simp [k1]
        replace hm := Lib.hid hm
        clear hv k0 hmi k1 ht
        go_enter Tryz.func127, Tryz.ntmps127
        go_wp2_with (go_at_call 18; refine (may_is _ _ _ _ hm).mono ?_; rintro e w1 ⟨rfl, hb⟩; have hS1 := keep2 hS hb; obtain ⟨ca0, ca1, ca2, ca3, ca4, ca5, ca6, ca7, ca8, ca9, ca10, ca11, hz, hB⟩ := id hS1)
        refine bodyPost_ret (v := .agg #[.int .i64 k, .int .i64 n, .string ⟨#[]⟩]) (by simp only [results, Tryz.results127]; go_simp) rfl ⟨rfl, below_setg hB (by omega)⟩
      · have b1 : (k == 1) = false := by simp [k1]
        obtain ⟨u, hu⟩ : ∃ u, bs (Val.ltrim t.data.toList) = u := ⟨_, rfl⟩
        have hud : u.data.toList = Val.ltrim t.data.toList := by rw [← hu]; rfl
        have hul : u.size ≤ 400 := by
          have h1 : (Val.ltrim t.data.toList).length ≤ t.data.toList.length := (List.dropWhile_sublist _).length_le
          have h2 : t.data.toList.length = t.size := rfl
          have h3 : u.data.toList.length = u.size := rfl
          rw [hud] at h3; omega
        obtain ⟨m, hmm⟩ : ∃ m, Val.lead u.data.toList = m := ⟨_, rfl⟩
        have hmle : m ≤ u.size := by rw [← hmm]; exact Val.lead_le _
        by_cases m0 : m = 0
        · have hv' := (Val.num_none hm k0 k1 (by rw [← hud, hmm]; exact m0)).symm.trans hv.out
          simp only [Val.V.mk.injEq, and_true] at hv'
          obtain ⟨rfl, rfl⟩ := hv'
          subst m0
          replace hm := Lib.hid hm
          replace hu := Lib.hid hu
          replace hmm := Lib.hid hmm
          clear hv k0 hmi k1 hud
          go_enter Tryz.func127, Tryz.ntmps127
          go_wp2_with (first
            | (go_at_call 18; refine (may_is _ _ _ _ hm).mono ?_; rintro e w1 ⟨rfl, hb⟩; have hS1 := keep2 hS hb; obtain ⟨ca0, ca1, ca2, ca3, ca4, ca5, ca6, ca7, ca8, ca9, ca10, ca11, hz, hB⟩ := id hS1)
            | (go_at_call 159; refine (trimL_is _ _ _ hu).mono ?_; rintro e w2 ⟨rfl, hb2⟩; have hS2 := keep2 hS1 hb2)
            | (go_at_call 160; refine (cdigits_is u _ (by omega) _ hmm).mono ?_; rintro e w3 ⟨rfl, rfl⟩)
            | (go_at_call 81; refine (vint_any _ _).mono ?_; rintro e w3 ⟨rfl, hb3⟩; have hS3 := keep2 hS2 hb3; obtain ⟨cb0, cb1, cb2, cb3, cb4, cb5, cb6, cb7, cb8, cb9, cb10, cb11, hz3, hB3⟩ := id hS3))
          refine bodyPost_ret (v := .agg #[.int .i64 1, .int .i64 0, .string ⟨#[]⟩]) (by simp only [results, Tryz.results127]; go_simp) rfl ⟨rfl, below_setg hB3 (by omega)⟩
        · have hv' := (Val.num_text hm k0 k1 (by rw [← hud, hmm]; exact m0)).symm.trans hv.out
          rw [← hud, hmm, ← extract_take] at hv'
          have b2 : ((m : Int) == 0) = false := by simp; omega
          have hel : (u.extract 0 m).size ≤ 1048576 := by
            have h1 := extract_take u m
            have h2 : (u.extract 0 m).data.toList.length = (u.extract 0 m).size := rfl
            rw [h1, List.length_take] at h2
            have h3 : u.data.toList.length = u.size := rfl
            omega
          replace hm := Lib.hid hm
          replace hu := Lib.hid hu
          replace hmm := Lib.hid hmm
          replace hv' := Lib.hid hv'
          replace hel := Lib.hid hel
          clear hv k0 hmi k1 hud m0
          go_enter Tryz.func127, Tryz.ntmps127
          go_wp2_with (first
            | (go_at_call 18; refine (may_is _ _ _ _ hm).mono ?_; rintro e w1 ⟨rfl, hb⟩; have hS1 := keep2 hS hb; obtain ⟨ca0, ca1, ca2, ca3, ca4, ca5, ca6, ca7, ca8, ca9, ca10, ca11, hz, hB⟩ := id hS1; have hL1 := hL0.below hb)
            | (go_at_call 159; refine (trimL_is _ _ _ hu).mono ?_; rintro e w2 ⟨rfl, hb2⟩; have hS2 := keep2 hS1 hb2; have hL2 := hL1.below hb2)
            | (go_at_call 160; refine (cdigits_is u _ (by omega) _ hmm).mono ?_; rintro e w3 ⟨rfl, rfl⟩)
            | (go_at_call 161; refine (cnumber_is _ _ hel.out hL2 _ _ hv').mono ?_; rintro e w3 ⟨rfl, hb3⟩; have hS3 := keep2 hS2 hb3; obtain ⟨cb0, cb1, cb2, cb3, cb4, cb5, cb6, cb7, cb8, cb9, cb10, cb11, hz3, hB3⟩ := id hS3))
          refine bodyPost_ret (v := .agg #[.int .i64 k', .int .i64 n', .string ⟨#[]⟩]) (by simp only [results, Tryz.results127]; go_simp) rfl ⟨rfl, below_setg hB3 (by omega)⟩

end Go.Proofs.YtmkgalcojoeniaaGreatDoor
