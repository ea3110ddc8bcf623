/- Walks: Text, Three, Number of the reference of layer 3. Walks: Num, Show, Truth of the reference of layer 3. -/
import Derived.Test.YtmkgalcojoeniaaGreatDoorCalcWs
import Derived.Test.YtmkgalcojoeniaaGreatDoorNumA
set_option maxRecDepth 100000
set_option linter.unusedVariables false
set_option linter.unusedSimpArgs false
namespace Go.Proofs.YtmkgalcojoeniaaGreatDoor
open Go.RowKit

theorem rtext_ok (s : ByteArray) (w : World) (h : s.size ≤ 400) : Calls Tryz.prog 61 #[.string s] w (VRet 2 0 s w) := by
  have b : decide ((s.size : Int) > 400) = false := decide_eq_false (by omega)
  go_enter Tryz.func61, Tryz.ntmps61
  go_wp2
  refine bodyPost_ret (v := .agg #[.int .i64 2, .int .i64 0, .string s]) (by simp only [results, Tryz.results61]; go_simp) rfl ⟨rfl, ?_⟩
  first | exact below_new _ _ | exact below_setg (below_new _ _) (Nat.le_refl _)
theorem rtext_long (s : ByteArray) (w : World) (h : 400 < s.size) : Calls Tryz.prog 61 #[.string s] w (VRet 0 0 ⟨#[]⟩ w) := by
  have hS := start1 w (.int .i64 0) (.int .i64 0) (.string ⟨#[]⟩) 25
  have b : decide ((s.size : Int) > 400) = true := decide_eq_true (by omega)
  go_enter Tryz.func61, Tryz.ntmps61
  go_wp2_with (go_at_call 108; refine (rnull_any _).mono ?_; rintro e w1 ⟨rfl, hb⟩; have hS1 := keep1 hS hb; obtain ⟨ca0, ca1, ca2, ca3, ca4, ca5, hz, hB⟩ := id hS1)
  refine bodyPost_ret (v := .agg #[.int .i64 0, .int .i64 0, .string ⟨#[]⟩]) (by simp only [results, Tryz.results61]; go_simp) rfl ⟨rfl, below_setg hB (Nat.le_refl _)⟩
theorem extract_drop (u : ByteArray) : (u.extract 1 u.size).data.toList = u.data.toList.drop 1 := by
  rw [Lib.extract_data]
  have : u.data.toList.length = u.size := rfl
  exact List.take_of_length_le (by rw [List.length_drop]; omega)
/-- the number's text: what the reference makes of it -/
theorem numr_is (s : ByteArray) (w : World) (hs : s.size ≤ 1000) (R : Option Int) (hR : Hid (Val.number s.data.toList = R)) : Calls Tryz.prog 158 #[.string s] w (NumP R w) := by
  have := rnum_any s w hs
  rwa [hR.out] at this
theorem strip_step (u : ByteArray) (h : 1 < u.size) (h48 : (u[0]).toNat = 48) : Val.strip0 u.data.toList = Val.strip0 (u.extract 1 u.size).data.toList := by
  have hl : u.data.toList.length = u.size := rfl
  have hd := dropc u 0 (by omega)
  have hd1 := dropc u 1 h
  rw [List.drop_zero] at hd
  rw [extract_drop, hd1]
  conv => lhs; rw [hd, hd1]
  exact Val.strip0_step _ h48
theorem strip_other (u : ByteArray) (h : 0 < u.size) (h48 : (u[0]).toNat ≠ 48) : Val.strip0 u.data.toList = u.data.toList := by
  have hd := dropc u 0 h
  rw [List.drop_zero] at hd
  rw [hd, Val.strip0_other _ h48]

set_option maxHeartbeats 1000000 in
theorem rnumber_minusz_none (s : ByteArray) (w : World) (hs : s.size ≤ 400) (h0 : 0 < s.size) (xF : ByteArray) (hxF : Hid (bs (Val.strip0 (s.extract 1 s.size).data.toList) = xF)) (hsz : Hid (xF.size ≤ 1000)) (h1 : (s[0]).toNat = 45) (hx : xF = ⟨#[48]⟩) (hR : Hid (Val.number xF.data.toList = none)) :
    Calls Tryz.prog 122 #[.string s] w (VRet 0 0 ⟨#[]⟩ w) := by
  have hS := start1 w (.int .i64 0) (.int .i64 0) (.string ⟨#[]⟩) 25
  have b0 : decide ((s.size : Int) > 0) = true := decide_eq_true (by omega)
  have b1 : (((s[0]).toNat : Int) == 45) = true := by simp; omega
  have hd : Hid (Val.isDigit s[0] = false) := Lib.hid (by simp [Val.isDigit]; omega)
  have i1 : (1 : Int) ≤ (s.size : Int) := by omega
  have q1 : (xF.toList == [48]) = true := by rw [hx, Lib.toList_data]; rfl
  have q2 : (xF.toList != [48]) = false := by rw [hx, Lib.toList_data]; rfl
  have zz : ¬ 9223372036854775807 < 1 + xF.size := by
    have h1 := Val.strip0_len (s.extract 1 s.size).data.toList
    have h2 : (bs (Val.strip0 (s.extract 1 s.size).data.toList)).size = xF.size := by rw [hxF.out]
    rw [bs_size] at h2
    have h3 : (s.extract 1 s.size).data.toList.length = (s.extract 1 s.size).size := rfl
    have h4 : (s.extract 1 s.size).size = s.size - 1 := by rw [ByteArray.size_extract]; omega
    omega
  clear h1 hx
  go_enter Tryz.func122, Tryz.ntmps122
  go_wp2_with (go_at_call 157; refine (rdig_any _ _ _ hd).mono ?_; rintro e w1 ⟨rfl, rfl⟩)
  go_loop [0] (fun v => ∃ x : ByteArray, v = .string x ∧ x.size ≤ 400 ∧ Hid (bs (Val.strip0 x.data.toList) = xF)) (fun v => Lib.strSize v)
  case atStart => exact ⟨(s.extract 1 s.size), by first | rfl | (simp; done), by first | exact hs | (rw [ByteArray.size_extract]; omega), hxF⟩
  case round =>
    obtain ⟨x, rfl, hxs, hq⟩ := hrel
    by_cases hx1 : 1 < x.size
    · have c0 : decide ((x.size : Int) > 1) = true := decide_eq_true (by omega)
      have i2 : (1 : Int) ≤ (x.size : Int) := by omega
      have i3 : 0 < x.size := by omega
      by_cases h48 : (x[0]).toNat = 48
      · have c1 : (((x[0]).toNat : Int) == 48) = true := by simp; omega
        have hn := hq.out
        rw [strip_step x hx1 h48] at hn
        replace hn := Lib.hid hn
        clear hq h48 hR
        go_wp2
        go_round
        case rel => exact ⟨x.extract 1 x.size, by first | rfl | (simp; done), by rw [ByteArray.size_extract]; omega, hn⟩
        case measure => simp [Lib.strSize]; omega
      · have c1 : (((x[0]).toNat : Int) == 48) = false := by simp; omega
        have hn := hq.out
        rw [strip_other x (by omega) h48, bs_of] at hn
        clear hq h48 hxF
        subst hn
        go_wp2_with (first
          | (go_at_call 158; refine (numr_is _ _ hsz.out _ hR).mono ?_; rintro e w2 ⟨rfl, rfl⟩)
          | (go_at_call 20; refine (rint_any _ _).mono ?_; rintro e w3 ⟨rfl, hb3⟩; have hS3 := keep1 hS hb3; obtain ⟨cb0, cb1, cb2, cb3, cb4, cb5, hz3, hB3⟩ := id hS3)
          | (go_at_call 108; refine (rnull_any _).mono ?_; rintro e w3 ⟨rfl, hb3⟩; have hS3 := keep1 hS hb3; obtain ⟨cb0, cb1, cb2, cb3, cb4, cb5, hz3, hB3⟩ := id hS3))
        refine bodyPost_ret (v := .agg #[.int .i64 0, .int .i64 0, .string ⟨#[]⟩]) (by simp only [results, Tryz.results122]; go_simp) rfl ⟨rfl, below_setg hB3 (Nat.le_refl _)⟩
    · have c0 : decide ((x.size : Int) > 1) = false := decide_eq_false (by omega)
      have hn := hq.out
      rw [Val.strip0_short (by have : x.data.toList.length = x.size := rfl; omega), bs_of] at hn
      clear hq hxF
      subst hn
      go_wp2_with (first
        | (go_at_call 158; refine (numr_is _ _ hsz.out _ hR).mono ?_; rintro e w2 ⟨rfl, rfl⟩)
        | (go_at_call 20; refine (rint_any _ _).mono ?_; rintro e w3 ⟨rfl, hb3⟩; have hS3 := keep1 hS hb3; obtain ⟨cb0, cb1, cb2, cb3, cb4, cb5, hz3, hB3⟩ := id hS3)
        | (go_at_call 108; refine (rnull_any _).mono ?_; rintro e w3 ⟨rfl, hb3⟩; have hS3 := keep1 hS hb3; obtain ⟨cb0, cb1, cb2, cb3, cb4, cb5, hz3, hB3⟩ := id hS3))
      refine bodyPost_ret (v := .agg #[.int .i64 0, .int .i64 0, .string ⟨#[]⟩]) (by simp only [results, Tryz.results122]; go_simp) rfl ⟨rfl, below_setg hB3 (Nat.le_refl _)⟩
set_option maxHeartbeats 1000000 in
theorem rnumber_minusz_some (s : ByteArray) (w : World) (hs : s.size ≤ 400) (h0 : 0 < s.size) (xF : ByteArray) (hxF : Hid (bs (Val.strip0 (s.extract 1 s.size).data.toList) = xF)) (hsz : Hid (xF.size ≤ 1000)) (h1 : (s[0]).toNat = 45) (hx : xF = ⟨#[48]⟩) (m : Int) (hR : Hid (Val.number xF.data.toList = some m)) :
    Calls Tryz.prog 122 #[.string s] w (VRet 1 m ⟨#[]⟩ w) := by
  have hS := start1 w (.int .i64 0) (.int .i64 0) (.string ⟨#[]⟩) 25
  have b0 : decide ((s.size : Int) > 0) = true := decide_eq_true (by omega)
  have b1 : (((s[0]).toNat : Int) == 45) = true := by simp; omega
  have hd : Hid (Val.isDigit s[0] = false) := Lib.hid (by simp [Val.isDigit]; omega)
  have i1 : (1 : Int) ≤ (s.size : Int) := by omega
  have q1 : (xF.toList == [48]) = true := by rw [hx, Lib.toList_data]; rfl
  have q2 : (xF.toList != [48]) = false := by rw [hx, Lib.toList_data]; rfl
  have zz : ¬ 9223372036854775807 < 1 + xF.size := by
    have h1 := Val.strip0_len (s.extract 1 s.size).data.toList
    have h2 : (bs (Val.strip0 (s.extract 1 s.size).data.toList)).size = xF.size := by rw [hxF.out]
    rw [bs_size] at h2
    have h3 : (s.extract 1 s.size).data.toList.length = (s.extract 1 s.size).size := rfl
    have h4 : (s.extract 1 s.size).size = s.size - 1 := by rw [ByteArray.size_extract]; omega
    omega
  clear h1 hx
  go_enter Tryz.func122, Tryz.ntmps122
  go_wp2_with (go_at_call 157; refine (rdig_any _ _ _ hd).mono ?_; rintro e w1 ⟨rfl, rfl⟩)
  go_loop [0] (fun v => ∃ x : ByteArray, v = .string x ∧ x.size ≤ 400 ∧ Hid (bs (Val.strip0 x.data.toList) = xF)) (fun v => Lib.strSize v)
  case atStart => exact ⟨(s.extract 1 s.size), by first | rfl | (simp; done), by first | exact hs | (rw [ByteArray.size_extract]; omega), hxF⟩
  case round =>
    obtain ⟨x, rfl, hxs, hq⟩ := hrel
    by_cases hx1 : 1 < x.size
    · have c0 : decide ((x.size : Int) > 1) = true := decide_eq_true (by omega)
      have i2 : (1 : Int) ≤ (x.size : Int) := by omega
      have i3 : 0 < x.size := by omega
      by_cases h48 : (x[0]).toNat = 48
      · have c1 : (((x[0]).toNat : Int) == 48) = true := by simp; omega
        have hn := hq.out
        rw [strip_step x hx1 h48] at hn
        replace hn := Lib.hid hn
        clear hq h48 hR
        go_wp2
        go_round
        case rel => exact ⟨x.extract 1 x.size, by first | rfl | (simp; done), by rw [ByteArray.size_extract]; omega, hn⟩
        case measure => simp [Lib.strSize]; omega
      · have c1 : (((x[0]).toNat : Int) == 48) = false := by simp; omega
        have hn := hq.out
        rw [strip_other x (by omega) h48, bs_of] at hn
        clear hq h48 hxF
        subst hn
        go_wp2_with (first
          | (go_at_call 158; refine (numr_is _ _ hsz.out _ hR).mono ?_; rintro e w2 ⟨rfl, rfl⟩)
          | (go_at_call 20; refine (rint_any _ _).mono ?_; rintro e w3 ⟨rfl, hb3⟩; have hS3 := keep1 hS hb3; obtain ⟨cb0, cb1, cb2, cb3, cb4, cb5, hz3, hB3⟩ := id hS3)
          | (go_at_call 108; refine (rnull_any _).mono ?_; rintro e w3 ⟨rfl, hb3⟩; have hS3 := keep1 hS hb3; obtain ⟨cb0, cb1, cb2, cb3, cb4, cb5, hz3, hB3⟩ := id hS3))
        refine bodyPost_ret (v := .agg #[.int .i64 1, .int .i64 m, .string ⟨#[]⟩]) (by simp only [results, Tryz.results122]; go_simp) rfl ⟨rfl, below_setg hB3 (Nat.le_refl _)⟩
    · have c0 : decide ((x.size : Int) > 1) = false := decide_eq_false (by omega)
      have hn := hq.out
      rw [Val.strip0_short (by have : x.data.toList.length = x.size := rfl; omega), bs_of] at hn
      clear hq hxF
      subst hn
      go_wp2_with (first
        | (go_at_call 158; refine (numr_is _ _ hsz.out _ hR).mono ?_; rintro e w2 ⟨rfl, rfl⟩)
        | (go_at_call 20; refine (rint_any _ _).mono ?_; rintro e w3 ⟨rfl, hb3⟩; have hS3 := keep1 hS hb3; obtain ⟨cb0, cb1, cb2, cb3, cb4, cb5, hz3, hB3⟩ := id hS3)
        | (go_at_call 108; refine (rnull_any _).mono ?_; rintro e w3 ⟨rfl, hb3⟩; have hS3 := keep1 hS hb3; obtain ⟨cb0, cb1, cb2, cb3, cb4, cb5, hz3, hB3⟩ := id hS3))
      refine bodyPost_ret (v := .agg #[.int .i64 1, .int .i64 m, .string ⟨#[]⟩]) (by simp only [results, Tryz.results122]; go_simp) rfl ⟨rfl, below_setg hB3 (Nat.le_refl _)⟩
set_option maxHeartbeats 1000000 in
theorem rnumber_minus_none (s : ByteArray) (w : World) (hs : s.size ≤ 400) (h0 : 0 < s.size) (xF : ByteArray) (hxF : Hid (bs (Val.strip0 (s.extract 1 s.size).data.toList) = xF)) (hsz : Hid ((⟨#[45]⟩ ++ xF).size ≤ 1000)) (h1 : (s[0]).toNat = 45) (hx : xF ≠ ⟨#[48]⟩) (hR : Hid (Val.number (⟨#[45]⟩ ++ xF).data.toList = none)) :
    Calls Tryz.prog 122 #[.string s] w (VRet 0 0 ⟨#[]⟩ w) := by
  have hS := start1 w (.int .i64 0) (.int .i64 0) (.string ⟨#[]⟩) 25
  have b0 : decide ((s.size : Int) > 0) = true := decide_eq_true (by omega)
  have b1 : (((s[0]).toNat : Int) == 45) = true := by simp; omega
  have hd : Hid (Val.isDigit s[0] = false) := Lib.hid (by simp [Val.isDigit]; omega)
  have i1 : (1 : Int) ≤ (s.size : Int) := by omega
  have q1 : (xF.toList == [48]) = false := by
    rw [Lib.toList_data]
    simp only [beq_eq_false_iff_ne]
    intro h; exact hx (by rw [← bs_of xF, h]; rfl)
  have q2 : (xF.toList != [48]) = true := by
    simp only [bne, q1]; rfl
  have zz : ¬ 9223372036854775807 < 1 + xF.size := by
    have h1 := Val.strip0_len (s.extract 1 s.size).data.toList
    have h2 : (bs (Val.strip0 (s.extract 1 s.size).data.toList)).size = xF.size := by rw [hxF.out]
    rw [bs_size] at h2
    have h3 : (s.extract 1 s.size).data.toList.length = (s.extract 1 s.size).size := rfl
    have h4 : (s.extract 1 s.size).size = s.size - 1 := by rw [ByteArray.size_extract]; omega
    omega
  clear h1 hx
  go_enter Tryz.func122, Tryz.ntmps122
  go_wp2_with (go_at_call 157; refine (rdig_any _ _ _ hd).mono ?_; rintro e w1 ⟨rfl, rfl⟩)
  go_loop [0] (fun v => ∃ x : ByteArray, v = .string x ∧ x.size ≤ 400 ∧ Hid (bs (Val.strip0 x.data.toList) = xF)) (fun v => Lib.strSize v)
  case atStart => exact ⟨(s.extract 1 s.size), by first | rfl | (simp; done), by first | exact hs | (rw [ByteArray.size_extract]; omega), hxF⟩
  case round =>
    obtain ⟨x, rfl, hxs, hq⟩ := hrel
    by_cases hx1 : 1 < x.size
    · have c0 : decide ((x.size : Int) > 1) = true := decide_eq_true (by omega)
      have i2 : (1 : Int) ≤ (x.size : Int) := by omega
      have i3 : 0 < x.size := by omega
      by_cases h48 : (x[0]).toNat = 48
      · have c1 : (((x[0]).toNat : Int) == 48) = true := by simp; omega
        have hn := hq.out
        rw [strip_step x hx1 h48] at hn
        replace hn := Lib.hid hn
        clear hq h48 hR
        go_wp2
        go_round
        case rel => exact ⟨x.extract 1 x.size, by first | rfl | (simp; done), by rw [ByteArray.size_extract]; omega, hn⟩
        case measure => simp [Lib.strSize]; omega
      · have c1 : (((x[0]).toNat : Int) == 48) = false := by simp; omega
        have hn := hq.out
        rw [strip_other x (by omega) h48, bs_of] at hn
        clear hq h48 hxF
        subst hn
        go_wp2_with (first
          | (go_at_call 158; refine (numr_is _ _ hsz.out _ hR).mono ?_; rintro e w2 ⟨rfl, rfl⟩)
          | (go_at_call 20; refine (rint_any _ _).mono ?_; rintro e w3 ⟨rfl, hb3⟩; have hS3 := keep1 hS hb3; obtain ⟨cb0, cb1, cb2, cb3, cb4, cb5, hz3, hB3⟩ := id hS3)
          | (go_at_call 108; refine (rnull_any _).mono ?_; rintro e w3 ⟨rfl, hb3⟩; have hS3 := keep1 hS hb3; obtain ⟨cb0, cb1, cb2, cb3, cb4, cb5, hz3, hB3⟩ := id hS3))
        refine bodyPost_ret (v := .agg #[.int .i64 0, .int .i64 0, .string ⟨#[]⟩]) (by simp only [results, Tryz.results122]; go_simp) rfl ⟨rfl, below_setg hB3 (Nat.le_refl _)⟩
    · have c0 : decide ((x.size : Int) > 1) = false := decide_eq_false (by omega)
      have hn := hq.out
      rw [Val.strip0_short (by have : x.data.toList.length = x.size := rfl; omega), bs_of] at hn
      clear hq hxF
      subst hn
      go_wp2_with (first
        | (go_at_call 158; refine (numr_is _ _ hsz.out _ hR).mono ?_; rintro e w2 ⟨rfl, rfl⟩)
        | (go_at_call 20; refine (rint_any _ _).mono ?_; rintro e w3 ⟨rfl, hb3⟩; have hS3 := keep1 hS hb3; obtain ⟨cb0, cb1, cb2, cb3, cb4, cb5, hz3, hB3⟩ := id hS3)
        | (go_at_call 108; refine (rnull_any _).mono ?_; rintro e w3 ⟨rfl, hb3⟩; have hS3 := keep1 hS hb3; obtain ⟨cb0, cb1, cb2, cb3, cb4, cb5, hz3, hB3⟩ := id hS3))
      refine bodyPost_ret (v := .agg #[.int .i64 0, .int .i64 0, .string ⟨#[]⟩]) (by simp only [results, Tryz.results122]; go_simp) rfl ⟨rfl, below_setg hB3 (Nat.le_refl _)⟩
set_option maxHeartbeats 1000000 in
theorem rnumber_minus_some (s : ByteArray) (w : World) (hs : s.size ≤ 400) (h0 : 0 < s.size) (xF : ByteArray) (hxF : Hid (bs (Val.strip0 (s.extract 1 s.size).data.toList) = xF)) (hsz : Hid ((⟨#[45]⟩ ++ xF).size ≤ 1000)) (h1 : (s[0]).toNat = 45) (hx : xF ≠ ⟨#[48]⟩) (m : Int) (hR : Hid (Val.number (⟨#[45]⟩ ++ xF).data.toList = some m)) :
    Calls Tryz.prog 122 #[.string s] w (VRet 1 m ⟨#[]⟩ w) := by
  have hS := start1 w (.int .i64 0) (.int .i64 0) (.string ⟨#[]⟩) 25
  have b0 : decide ((s.size : Int) > 0) = true := decide_eq_true (by omega)
  have b1 : (((s[0]).toNat : Int) == 45) = true := by simp; omega
  have hd : Hid (Val.isDigit s[0] = false) := Lib.hid (by simp [Val.isDigit]; omega)
  have i1 : (1 : Int) ≤ (s.size : Int) := by omega
  have q1 : (xF.toList == [48]) = false := by
    rw [Lib.toList_data]
    simp only [beq_eq_false_iff_ne]
    intro h; exact hx (by rw [← bs_of xF, h]; rfl)
  have q2 : (xF.toList != [48]) = true := by
    simp only [bne, q1]; rfl
  have zz : ¬ 9223372036854775807 < 1 + xF.size := by
    have h1 := Val.strip0_len (s.extract 1 s.size).data.toList
    have h2 : (bs (Val.strip0 (s.extract 1 s.size).data.toList)).size = xF.size := by rw [hxF.out]
    rw [bs_size] at h2
    have h3 : (s.extract 1 s.size).data.toList.length = (s.extract 1 s.size).size := rfl
    have h4 : (s.extract 1 s.size).size = s.size - 1 := by rw [ByteArray.size_extract]; omega
    omega
  clear h1 hx
  go_enter Tryz.func122, Tryz.ntmps122
  go_wp2_with (go_at_call 157; refine (rdig_any _ _ _ hd).mono ?_; rintro e w1 ⟨rfl, rfl⟩)
  go_loop [0] (fun v => ∃ x : ByteArray, v = .string x ∧ x.size ≤ 400 ∧ Hid (bs (Val.strip0 x.data.toList) = xF)) (fun v => Lib.strSize v)
  case atStart => exact ⟨(s.extract 1 s.size), by first | rfl | (simp; done), by first | exact hs | (rw [ByteArray.size_extract]; omega), hxF⟩
  case round =>
    obtain ⟨x, rfl, hxs, hq⟩ := hrel
    by_cases hx1 : 1 < x.size
    · have c0 : decide ((x.size : Int) > 1) = true := decide_eq_true (by omega)
      have i2 : (1 : Int) ≤ (x.size : Int) := by omega
      have i3 : 0 < x.size := by omega
      by_cases h48 : (x[0]).toNat = 48
      · have c1 : (((x[0]).toNat : Int) == 48) = true := by simp; omega
        have hn := hq.out
        rw [strip_step x hx1 h48] at hn
        replace hn := Lib.hid hn
        clear hq h48 hR
        go_wp2
        go_round
        case rel => exact ⟨x.extract 1 x.size, by first | rfl | (simp; done), by rw [ByteArray.size_extract]; omega, hn⟩
        case measure => simp [Lib.strSize]; omega
      · have c1 : (((x[0]).toNat : Int) == 48) = false := by simp; omega
        have hn := hq.out
        rw [strip_other x (by omega) h48, bs_of] at hn
        clear hq h48 hxF
        subst hn
        go_wp2_with (first
          | (go_at_call 158; refine (numr_is _ _ hsz.out _ hR).mono ?_; rintro e w2 ⟨rfl, rfl⟩)
          | (go_at_call 20; refine (rint_any _ _).mono ?_; rintro e w3 ⟨rfl, hb3⟩; have hS3 := keep1 hS hb3; obtain ⟨cb0, cb1, cb2, cb3, cb4, cb5, hz3, hB3⟩ := id hS3)
          | (go_at_call 108; refine (rnull_any _).mono ?_; rintro e w3 ⟨rfl, hb3⟩; have hS3 := keep1 hS hb3; obtain ⟨cb0, cb1, cb2, cb3, cb4, cb5, hz3, hB3⟩ := id hS3))
        refine bodyPost_ret (v := .agg #[.int .i64 1, .int .i64 m, .string ⟨#[]⟩]) (by simp only [results, Tryz.results122]; go_simp) rfl ⟨rfl, below_setg hB3 (Nat.le_refl _)⟩
    · have c0 : decide ((x.size : Int) > 1) = false := decide_eq_false (by omega)
      have hn := hq.out
      rw [Val.strip0_short (by have : x.data.toList.length = x.size := rfl; omega), bs_of] at hn
      clear hq hxF
      subst hn
      go_wp2_with (first
        | (go_at_call 158; refine (numr_is _ _ hsz.out _ hR).mono ?_; rintro e w2 ⟨rfl, rfl⟩)
        | (go_at_call 20; refine (rint_any _ _).mono ?_; rintro e w3 ⟨rfl, hb3⟩; have hS3 := keep1 hS hb3; obtain ⟨cb0, cb1, cb2, cb3, cb4, cb5, hz3, hB3⟩ := id hS3)
        | (go_at_call 108; refine (rnull_any _).mono ?_; rintro e w3 ⟨rfl, hb3⟩; have hS3 := keep1 hS hb3; obtain ⟨cb0, cb1, cb2, cb3, cb4, cb5, hz3, hB3⟩ := id hS3))
      refine bodyPost_ret (v := .agg #[.int .i64 1, .int .i64 m, .string ⟨#[]⟩]) (by simp only [results, Tryz.results122]; go_simp) rfl ⟨rfl, below_setg hB3 (Nat.le_refl _)⟩
set_option maxHeartbeats 1000000 in
theorem rnumber_plus_none (s : ByteArray) (w : World) (hs : s.size ≤ 400) (h0 : 0 < s.size) (xF : ByteArray) (hxF : Hid (bs (Val.strip0 (s.extract 1 s.size).data.toList) = xF)) (hsz : Hid (xF.size ≤ 1000)) (h1 : (s[0]).toNat = 43) (hR : Hid (Val.number xF.data.toList = none)) :
    Calls Tryz.prog 122 #[.string s] w (VRet 0 0 ⟨#[]⟩ w) := by
  have hS := start1 w (.int .i64 0) (.int .i64 0) (.string ⟨#[]⟩) 25
  have b0 : decide ((s.size : Int) > 0) = true := decide_eq_true (by omega)
  have b1 : (((s[0]).toNat : Int) == 45) = false := by simp; omega
  have hd : Hid (Val.isDigit s[0] = false) := Lib.hid (by simp [Val.isDigit]; omega)
  have i1 : (1 : Int) ≤ (s.size : Int) := by omega
  have zz : ¬ 9223372036854775807 < 1 + xF.size := by
    have h1 := Val.strip0_len (s.extract 1 s.size).data.toList
    have h2 : (bs (Val.strip0 (s.extract 1 s.size).data.toList)).size = xF.size := by rw [hxF.out]
    rw [bs_size] at h2
    have h3 : (s.extract 1 s.size).data.toList.length = (s.extract 1 s.size).size := rfl
    have h4 : (s.extract 1 s.size).size = s.size - 1 := by rw [ByteArray.size_extract]; omega
    omega
  clear h1
  go_enter Tryz.func122, Tryz.ntmps122
  go_wp2_with (go_at_call 157; refine (rdig_any _ _ _ hd).mono ?_; rintro e w1 ⟨rfl, rfl⟩)
  go_loop [0] (fun v => ∃ x : ByteArray, v = .string x ∧ x.size ≤ 400 ∧ Hid (bs (Val.strip0 x.data.toList) = xF)) (fun v => Lib.strSize v)
  case atStart => exact ⟨(s.extract 1 s.size), by first | rfl | (simp; done), by first | exact hs | (rw [ByteArray.size_extract]; omega), hxF⟩
  case round =>
    obtain ⟨x, rfl, hxs, hq⟩ := hrel
    by_cases hx1 : 1 < x.size
    · have c0 : decide ((x.size : Int) > 1) = true := decide_eq_true (by omega)
      have i2 : (1 : Int) ≤ (x.size : Int) := by omega
      have i3 : 0 < x.size := by omega
      by_cases h48 : (x[0]).toNat = 48
      · have c1 : (((x[0]).toNat : Int) == 48) = true := by simp; omega
        have hn := hq.out
        rw [strip_step x hx1 h48] at hn
        replace hn := Lib.hid hn
        clear hq h48 hR
        go_wp2
        go_round
        case rel => exact ⟨x.extract 1 x.size, by first | rfl | (simp; done), by rw [ByteArray.size_extract]; omega, hn⟩
        case measure => simp [Lib.strSize]; omega
      · have c1 : (((x[0]).toNat : Int) == 48) = false := by simp; omega
        have hn := hq.out
        rw [strip_other x (by omega) h48, bs_of] at hn
        clear hq h48 hxF
        subst hn
        go_wp2_with (first
          | (go_at_call 158; refine (numr_is _ _ hsz.out _ hR).mono ?_; rintro e w2 ⟨rfl, rfl⟩)
          | (go_at_call 20; refine (rint_any _ _).mono ?_; rintro e w3 ⟨rfl, hb3⟩; have hS3 := keep1 hS hb3; obtain ⟨cb0, cb1, cb2, cb3, cb4, cb5, hz3, hB3⟩ := id hS3)
          | (go_at_call 108; refine (rnull_any _).mono ?_; rintro e w3 ⟨rfl, hb3⟩; have hS3 := keep1 hS hb3; obtain ⟨cb0, cb1, cb2, cb3, cb4, cb5, hz3, hB3⟩ := id hS3))
        refine bodyPost_ret (v := .agg #[.int .i64 0, .int .i64 0, .string ⟨#[]⟩]) (by simp only [results, Tryz.results122]; go_simp) rfl ⟨rfl, below_setg hB3 (Nat.le_refl _)⟩
    · have c0 : decide ((x.size : Int) > 1) = false := decide_eq_false (by omega)
      have hn := hq.out
      rw [Val.strip0_short (by have : x.data.toList.length = x.size := rfl; omega), bs_of] at hn
      clear hq hxF
      subst hn
      go_wp2_with (first
        | (go_at_call 158; refine (numr_is _ _ hsz.out _ hR).mono ?_; rintro e w2 ⟨rfl, rfl⟩)
        | (go_at_call 20; refine (rint_any _ _).mono ?_; rintro e w3 ⟨rfl, hb3⟩; have hS3 := keep1 hS hb3; obtain ⟨cb0, cb1, cb2, cb3, cb4, cb5, hz3, hB3⟩ := id hS3)
        | (go_at_call 108; refine (rnull_any _).mono ?_; rintro e w3 ⟨rfl, hb3⟩; have hS3 := keep1 hS hb3; obtain ⟨cb0, cb1, cb2, cb3, cb4, cb5, hz3, hB3⟩ := id hS3))
      refine bodyPost_ret (v := .agg #[.int .i64 0, .int .i64 0, .string ⟨#[]⟩]) (by simp only [results, Tryz.results122]; go_simp) rfl ⟨rfl, below_setg hB3 (Nat.le_refl _)⟩
set_option maxHeartbeats 1000000 in
theorem rnumber_plus_some (s : ByteArray) (w : World) (hs : s.size ≤ 400) (h0 : 0 < s.size) (xF : ByteArray) (hxF : Hid (bs (Val.strip0 (s.extract 1 s.size).data.toList) = xF)) (hsz : Hid (xF.size ≤ 1000)) (h1 : (s[0]).toNat = 43) (m : Int) (hR : Hid (Val.number xF.data.toList = some m)) :
    Calls Tryz.prog 122 #[.string s] w (VRet 1 m ⟨#[]⟩ w) := by
  have hS := start1 w (.int .i64 0) (.int .i64 0) (.string ⟨#[]⟩) 25
  have b0 : decide ((s.size : Int) > 0) = true := decide_eq_true (by omega)
  have b1 : (((s[0]).toNat : Int) == 45) = false := by simp; omega
  have hd : Hid (Val.isDigit s[0] = false) := Lib.hid (by simp [Val.isDigit]; omega)
  have i1 : (1 : Int) ≤ (s.size : Int) := by omega
  have zz : ¬ 9223372036854775807 < 1 + xF.size := by
    have h1 := Val.strip0_len (s.extract 1 s.size).data.toList
    have h2 : (bs (Val.strip0 (s.extract 1 s.size).data.toList)).size = xF.size := by rw [hxF.out]
    rw [bs_size] at h2
    have h3 : (s.extract 1 s.size).data.toList.length = (s.extract 1 s.size).size := rfl
    have h4 : (s.extract 1 s.size).size = s.size - 1 := by rw [ByteArray.size_extract]; omega
    omega
  clear h1
  go_enter Tryz.func122, Tryz.ntmps122
  go_wp2_with (go_at_call 157; refine (rdig_any _ _ _ hd).mono ?_; rintro e w1 ⟨rfl, rfl⟩)
  go_loop [0] (fun v => ∃ x : ByteArray, v = .string x ∧ x.size ≤ 400 ∧ Hid (bs (Val.strip0 x.data.toList) = xF)) (fun v => Lib.strSize v)
  case atStart => exact ⟨(s.extract 1 s.size), by first | rfl | (simp; done), by first | exact hs | (rw [ByteArray.size_extract]; omega), hxF⟩
  case round =>
    obtain ⟨x, rfl, hxs, hq⟩ := hrel
    by_cases hx1 : 1 < x.size
    · have c0 : decide ((x.size : Int) > 1) = true := decide_eq_true (by omega)
      have i2 : (1 : Int) ≤ (x.size : Int) := by omega
      have i3 : 0 < x.size := by omega
      by_cases h48 : (x[0]).toNat = 48
      · have c1 : (((x[0]).toNat : Int) == 48) = true := by simp; omega
        have hn := hq.out
        rw [strip_step x hx1 h48] at hn
        replace hn := Lib.hid hn
        clear hq h48 hR
        go_wp2
        go_round
        case rel => exact ⟨x.extract 1 x.size, by first | rfl | (simp; done), by rw [ByteArray.size_extract]; omega, hn⟩
        case measure => simp [Lib.strSize]; omega
      · have c1 : (((x[0]).toNat : Int) == 48) = false := by simp; omega
        have hn := hq.out
        rw [strip_other x (by omega) h48, bs_of] at hn
        clear hq h48 hxF
        subst hn
        go_wp2_with (first
          | (go_at_call 158; refine (numr_is _ _ hsz.out _ hR).mono ?_; rintro e w2 ⟨rfl, rfl⟩)
          | (go_at_call 20; refine (rint_any _ _).mono ?_; rintro e w3 ⟨rfl, hb3⟩; have hS3 := keep1 hS hb3; obtain ⟨cb0, cb1, cb2, cb3, cb4, cb5, hz3, hB3⟩ := id hS3)
          | (go_at_call 108; refine (rnull_any _).mono ?_; rintro e w3 ⟨rfl, hb3⟩; have hS3 := keep1 hS hb3; obtain ⟨cb0, cb1, cb2, cb3, cb4, cb5, hz3, hB3⟩ := id hS3))
        refine bodyPost_ret (v := .agg #[.int .i64 1, .int .i64 m, .string ⟨#[]⟩]) (by simp only [results, Tryz.results122]; go_simp) rfl ⟨rfl, below_setg hB3 (Nat.le_refl _)⟩
    · have c0 : decide ((x.size : Int) > 1) = false := decide_eq_false (by omega)
      have hn := hq.out
      rw [Val.strip0_short (by have : x.data.toList.length = x.size := rfl; omega), bs_of] at hn
      clear hq hxF
      subst hn
      go_wp2_with (first
        | (go_at_call 158; refine (numr_is _ _ hsz.out _ hR).mono ?_; rintro e w2 ⟨rfl, rfl⟩)
        | (go_at_call 20; refine (rint_any _ _).mono ?_; rintro e w3 ⟨rfl, hb3⟩; have hS3 := keep1 hS hb3; obtain ⟨cb0, cb1, cb2, cb3, cb4, cb5, hz3, hB3⟩ := id hS3)
        | (go_at_call 108; refine (rnull_any _).mono ?_; rintro e w3 ⟨rfl, hb3⟩; have hS3 := keep1 hS hb3; obtain ⟨cb0, cb1, cb2, cb3, cb4, cb5, hz3, hB3⟩ := id hS3))
      refine bodyPost_ret (v := .agg #[.int .i64 1, .int .i64 m, .string ⟨#[]⟩]) (by simp only [results, Tryz.results122]; go_simp) rfl ⟨rfl, below_setg hB3 (Nat.le_refl _)⟩
set_option maxHeartbeats 1000000 in
theorem rnumber_digit_none (s : ByteArray) (w : World) (hs : s.size ≤ 400) (h0 : 0 < s.size) (xF : ByteArray) (hxF : Hid (bs (Val.strip0 s.data.toList) = xF)) (hsz : Hid (xF.size ≤ 1000)) (h1 : 48 ≤ (s[0]).toNat ∧ (s[0]).toNat ≤ 57) (hR : Hid (Val.number xF.data.toList = none)) :
    Calls Tryz.prog 122 #[.string s] w (VRet 0 0 ⟨#[]⟩ w) := by
  have hS := start1 w (.int .i64 0) (.int .i64 0) (.string ⟨#[]⟩) 25
  have b0 : decide ((s.size : Int) > 0) = true := decide_eq_true (by omega)
  have b1 : (((s[0]).toNat : Int) == 45) = false := by simp; omega
  have hd : Hid (Val.isDigit s[0] = true) := Lib.hid (by simp [Val.isDigit]; omega)
  have i1 : (1 : Int) ≤ (s.size : Int) := by omega
  have zz : ¬ 9223372036854775807 < 1 + xF.size := by
    have h1 := Val.strip0_len s.data.toList
    have h2 : (bs (Val.strip0 s.data.toList)).size = xF.size := by rw [hxF.out]
    rw [bs_size] at h2
    have h3 : s.data.toList.length = s.size := rfl
    omega
  clear h1
  go_enter Tryz.func122, Tryz.ntmps122
  go_wp2_with (go_at_call 157; refine (rdig_any _ _ _ hd).mono ?_; rintro e w1 ⟨rfl, rfl⟩)
  go_loop [0] (fun v => ∃ x : ByteArray, v = .string x ∧ x.size ≤ 400 ∧ Hid (bs (Val.strip0 x.data.toList) = xF)) (fun v => Lib.strSize v)
  case atStart => exact ⟨s, by first | rfl | (simp; done), by first | exact hs | (rw [ByteArray.size_extract]; omega), hxF⟩
  case round =>
    obtain ⟨x, rfl, hxs, hq⟩ := hrel
    by_cases hx1 : 1 < x.size
    · have c0 : decide ((x.size : Int) > 1) = true := decide_eq_true (by omega)
      have i2 : (1 : Int) ≤ (x.size : Int) := by omega
      have i3 : 0 < x.size := by omega
      by_cases h48 : (x[0]).toNat = 48
      · have c1 : (((x[0]).toNat : Int) == 48) = true := by simp; omega
        have hn := hq.out
        rw [strip_step x hx1 h48] at hn
        replace hn := Lib.hid hn
        clear hq h48 hR
        go_wp2
        go_round
        case rel => exact ⟨x.extract 1 x.size, by first | rfl | (simp; done), by rw [ByteArray.size_extract]; omega, hn⟩
        case measure => simp [Lib.strSize]; omega
      · have c1 : (((x[0]).toNat : Int) == 48) = false := by simp; omega
        have hn := hq.out
        rw [strip_other x (by omega) h48, bs_of] at hn
        clear hq h48 hxF
        subst hn
        go_wp2_with (first
          | (go_at_call 158; refine (numr_is _ _ hsz.out _ hR).mono ?_; rintro e w2 ⟨rfl, rfl⟩)
          | (go_at_call 20; refine (rint_any _ _).mono ?_; rintro e w3 ⟨rfl, hb3⟩; have hS3 := keep1 hS hb3; obtain ⟨cb0, cb1, cb2, cb3, cb4, cb5, hz3, hB3⟩ := id hS3)
          | (go_at_call 108; refine (rnull_any _).mono ?_; rintro e w3 ⟨rfl, hb3⟩; have hS3 := keep1 hS hb3; obtain ⟨cb0, cb1, cb2, cb3, cb4, cb5, hz3, hB3⟩ := id hS3))
        refine bodyPost_ret (v := .agg #[.int .i64 0, .int .i64 0, .string ⟨#[]⟩]) (by simp only [results, Tryz.results122]; go_simp) rfl ⟨rfl, below_setg hB3 (Nat.le_refl _)⟩
    · have c0 : decide ((x.size : Int) > 1) = false := decide_eq_false (by omega)
      have hn := hq.out
      rw [Val.strip0_short (by have : x.data.toList.length = x.size := rfl; omega), bs_of] at hn
      clear hq hxF
      subst hn
      go_wp2_with (first
        | (go_at_call 158; refine (numr_is _ _ hsz.out _ hR).mono ?_; rintro e w2 ⟨rfl, rfl⟩)
        | (go_at_call 20; refine (rint_any _ _).mono ?_; rintro e w3 ⟨rfl, hb3⟩; have hS3 := keep1 hS hb3; obtain ⟨cb0, cb1, cb2, cb3, cb4, cb5, hz3, hB3⟩ := id hS3)
        | (go_at_call 108; refine (rnull_any _).mono ?_; rintro e w3 ⟨rfl, hb3⟩; have hS3 := keep1 hS hb3; obtain ⟨cb0, cb1, cb2, cb3, cb4, cb5, hz3, hB3⟩ := id hS3))
      refine bodyPost_ret (v := .agg #[.int .i64 0, .int .i64 0, .string ⟨#[]⟩]) (by simp only [results, Tryz.results122]; go_simp) rfl ⟨rfl, below_setg hB3 (Nat.le_refl _)⟩
set_option maxHeartbeats 1000000 in
theorem rnumber_digit_some (s : ByteArray) (w : World) (hs : s.size ≤ 400) (h0 : 0 < s.size) (xF : ByteArray) (hxF : Hid (bs (Val.strip0 s.data.toList) = xF)) (hsz : Hid (xF.size ≤ 1000)) (h1 : 48 ≤ (s[0]).toNat ∧ (s[0]).toNat ≤ 57) (m : Int) (hR : Hid (Val.number xF.data.toList = some m)) :
    Calls Tryz.prog 122 #[.string s] w (VRet 1 m ⟨#[]⟩ w) := by
  have hS := start1 w (.int .i64 0) (.int .i64 0) (.string ⟨#[]⟩) 25
  have b0 : decide ((s.size : Int) > 0) = true := decide_eq_true (by omega)
  have b1 : (((s[0]).toNat : Int) == 45) = false := by simp; omega
  have hd : Hid (Val.isDigit s[0] = true) := Lib.hid (by simp [Val.isDigit]; omega)
  have i1 : (1 : Int) ≤ (s.size : Int) := by omega
  have zz : ¬ 9223372036854775807 < 1 + xF.size := by
    have h1 := Val.strip0_len s.data.toList
    have h2 : (bs (Val.strip0 s.data.toList)).size = xF.size := by rw [hxF.out]
    rw [bs_size] at h2
    have h3 : s.data.toList.length = s.size := rfl
    omega
  clear h1
  go_enter Tryz.func122, Tryz.ntmps122
  go_wp2_with (go_at_call 157; refine (rdig_any _ _ _ hd).mono ?_; rintro e w1 ⟨rfl, rfl⟩)
  go_loop [0] (fun v => ∃ x : ByteArray, v = .string x ∧ x.size ≤ 400 ∧ Hid (bs (Val.strip0 x.data.toList) = xF)) (fun v => Lib.strSize v)
  case atStart => exact ⟨s, by first | rfl | (simp; done), by first | exact hs | (rw [ByteArray.size_extract]; omega), hxF⟩
  case round =>
    obtain ⟨x, rfl, hxs, hq⟩ := hrel
    by_cases hx1 : 1 < x.size
    · have c0 : decide ((x.size : Int) > 1) = true := decide_eq_true (by omega)
      have i2 : (1 : Int) ≤ (x.size : Int) := by omega
      have i3 : 0 < x.size := by omega
      by_cases h48 : (x[0]).toNat = 48
      · have c1 : (((x[0]).toNat : Int) == 48) = true := by simp; omega
        have hn := hq.out
        rw [strip_step x hx1 h48] at hn
        replace hn := Lib.hid hn
        clear hq h48 hR
        go_wp2
        go_round
        case rel => exact ⟨x.extract 1 x.size, by first | rfl | (simp; done), by rw [ByteArray.size_extract]; omega, hn⟩
        case measure => simp [Lib.strSize]; omega
      · have c1 : (((x[0]).toNat : Int) == 48) = false := by simp; omega
        have hn := hq.out
        rw [strip_other x (by omega) h48, bs_of] at hn
        clear hq h48 hxF
        subst hn
        go_wp2_with (first
          | (go_at_call 158; refine (numr_is _ _ hsz.out _ hR).mono ?_; rintro e w2 ⟨rfl, rfl⟩)
          | (go_at_call 20; refine (rint_any _ _).mono ?_; rintro e w3 ⟨rfl, hb3⟩; have hS3 := keep1 hS hb3; obtain ⟨cb0, cb1, cb2, cb3, cb4, cb5, hz3, hB3⟩ := id hS3)
          | (go_at_call 108; refine (rnull_any _).mono ?_; rintro e w3 ⟨rfl, hb3⟩; have hS3 := keep1 hS hb3; obtain ⟨cb0, cb1, cb2, cb3, cb4, cb5, hz3, hB3⟩ := id hS3))
        refine bodyPost_ret (v := .agg #[.int .i64 1, .int .i64 m, .string ⟨#[]⟩]) (by simp only [results, Tryz.results122]; go_simp) rfl ⟨rfl, below_setg hB3 (Nat.le_refl _)⟩
    · have c0 : decide ((x.size : Int) > 1) = false := decide_eq_false (by omega)
      have hn := hq.out
      rw [Val.strip0_short (by have : x.data.toList.length = x.size := rfl; omega), bs_of] at hn
      clear hq hxF
      subst hn
      go_wp2_with (first
        | (go_at_call 158; refine (numr_is _ _ hsz.out _ hR).mono ?_; rintro e w2 ⟨rfl, rfl⟩)
        | (go_at_call 20; refine (rint_any _ _).mono ?_; rintro e w3 ⟨rfl, hb3⟩; have hS3 := keep1 hS hb3; obtain ⟨cb0, cb1, cb2, cb3, cb4, cb5, hz3, hB3⟩ := id hS3)
        | (go_at_call 108; refine (rnull_any _).mono ?_; rintro e w3 ⟨rfl, hb3⟩; have hS3 := keep1 hS hb3; obtain ⟨cb0, cb1, cb2, cb3, cb4, cb5, hz3, hB3⟩ := id hS3))
      refine bodyPost_ret (v := .agg #[.int .i64 1, .int .i64 m, .string ⟨#[]⟩]) (by simp only [results, Tryz.results122]; go_simp) rfl ⟨rfl, below_setg hB3 (Nat.le_refl _)⟩

/-- a number's text is read -/
theorem rnumber_is (s : ByteArray) (w : World) (hs : s.size ≤ 400) (hg : Val.signed s.data.toList) (k n : Int) (hv : Hid (Val.pnum s.data.toList = ⟨k, n, []⟩)) : Calls Tryz.prog 122 #[.string s] w (VRet k n ⟨#[]⟩ w) := by
  have hl : s.data.toList.length = s.size := rfl
  have h0 : 0 < s.size := by
    rcases Nat.eq_zero_or_pos s.size with h | h
    · have : s.data.toList = [] := List.eq_nil_of_length_eq_zero h
      exact absurd (by rw [this]; rfl) hg.2
    · exact h
  have hd := dropc s 0 h0
  rw [List.drop_zero] at hd
  have hv' := hv.out
  rw [← Val.rnum_is hg, Val.rnum] at hv'
  have hsg := sgn_byte s h0
  have go : ∀ {u : ByteArray} {xF : ByteArray}, u.size ≤ 400 → bs (Val.strip0 u.data.toList) = xF → xF.size ≤ 400 := by
    intro u xF h1 h2
    have h3 := Val.strip0_len u.data.toList
    have h4 : u.data.toList.length = u.size := rfl
    rw [← h2, bs_size]; omega
  have he : (s.extract 1 s.size).size ≤ 400 := by rw [ByteArray.size_extract]; omega
  have hdr : (s.extract 1 s.size).data.toList = s.data.toList.drop 1 := extract_drop s
  have hget : (s.data.toList.getD 0 0).toNat = (s[0]).toNat := by rw [hd]; rfl
  have fin : ∀ {q : Option Int}, (match q with | some n => (⟨1, n, []⟩ : Val.V) | none => Val.zero) = ⟨k, n, []⟩ → (q = none ∧ k = 0 ∧ n = 0) ∨ (q = some n ∧ k = 1) := by
    intro q hq
    cases q with
    | none => simp only [Val.zero, Val.V.mk.injEq, and_true] at hq; exact .inl ⟨rfl, hq.1.symm, hq.2.symm⟩
    | some m => simp only [Val.V.mk.injEq, and_true] at hq; exact .inr ⟨by rw [hq.2], hq.1.symm⟩
  have hcases : (s[0]).toNat = 45 ∨ (s[0]).toNat = 43 ∨ (48 ≤ (s[0]).toNat ∧ (s[0]).toNat ≤ 57) := by
    by_cases hs1 : (s[0]).toNat = 43 ∨ (s[0]).toNat = 45
    · omega
    · right; right
      rw [if_neg hs1] at hsg
      have := hg.1
      rw [hsg, List.drop_zero] at this
      exact this s[0] (by rw [hd]; simp)
  rcases hcases with h1 | h1 | h1
  · have hu : Val.unsign s.data.toList = (s.extract 1 s.size).data.toList := by
      rw [hdr, hd, Val.unsign, if_neg (by simp [Val.isDigit]; omega)]; rfl
    obtain ⟨xF, hxF⟩ : ∃ xF, bs (Val.strip0 (s.extract 1 s.size).data.toList) = xF := ⟨_, rfl⟩
    have hxd : xF.data.toList = Val.strip0 (s.extract 1 s.size).data.toList := by rw [← hxF]; rfl
    by_cases hx : xF = ⟨#[48]⟩
    · have ht : Val.rtext s.data.toList = xF.data.toList := by
        rw [Val.rtext, hu, ← hxd, if_neg]
        rintro ⟨_, h⟩; exact h (by rw [hx])
      rw [ht] at hv'
      rcases fin hv' with ⟨hq, rfl, rfl⟩ | ⟨hq, rfl⟩
      · exact rnumber_minusz_none s w hs h0 xF (Lib.hid hxF) (Lib.hid (by have := go he hxF; omega)) h1 hx (Lib.hid hq)
      · exact rnumber_minusz_some s w hs h0 xF (Lib.hid hxF) (Lib.hid (by have := go he hxF; omega)) h1 hx _ (Lib.hid hq)
    · have ht : Val.rtext s.data.toList = ((⟨#[45]⟩ : ByteArray) ++ xF).data.toList := by
        rw [Val.rtext, hu, ← hxd, if_pos ⟨by rw [hget]; exact h1, fun h => hx (by rw [← bs_of xF, h]; rfl)⟩]
        simp [ByteArray.data_append]
      rw [ht] at hv'
      have hz : ((⟨#[45]⟩ : ByteArray) ++ xF).size ≤ 1000 := by
        have := go he hxF
        rw [ByteArray.size_append]
        have : (⟨#[45]⟩ : ByteArray).size = 1 := rfl
        omega
      rcases fin hv' with ⟨hq, rfl, rfl⟩ | ⟨hq, rfl⟩
      · exact rnumber_minus_none s w hs h0 xF (Lib.hid hxF) (Lib.hid hz) h1 hx (Lib.hid hq)
      · exact rnumber_minus_some s w hs h0 xF (Lib.hid hxF) (Lib.hid hz) h1 hx _ (Lib.hid hq)
  · have hu : Val.unsign s.data.toList = (s.extract 1 s.size).data.toList := by
      rw [hdr, hd, Val.unsign, if_neg (by simp [Val.isDigit]; omega)]; rfl
    obtain ⟨xF, hxF⟩ : ∃ xF, bs (Val.strip0 (s.extract 1 s.size).data.toList) = xF := ⟨_, rfl⟩
    have hxd : xF.data.toList = Val.strip0 (s.extract 1 s.size).data.toList := by rw [← hxF]; rfl
    have ht : Val.rtext s.data.toList = xF.data.toList := by
      rw [Val.rtext, hu, ← hxd, if_neg]
      rintro ⟨h, _⟩; rw [hget] at h; omega
    rw [ht] at hv'
    rcases fin hv' with ⟨hq, rfl, rfl⟩ | ⟨hq, rfl⟩
    · exact rnumber_plus_none s w hs h0 xF (Lib.hid hxF) (Lib.hid (by have := go he hxF; omega)) h1 (Lib.hid hq)
    · exact rnumber_plus_some s w hs h0 xF (Lib.hid hxF) (Lib.hid (by have := go he hxF; omega)) h1 _ (Lib.hid hq)
  · have hu : Val.unsign s.data.toList = s.data.toList := by
      rw [hd, Val.unsign, if_pos (by simp [Val.isDigit]; omega)]
    obtain ⟨xF, hxF⟩ : ∃ xF, bs (Val.strip0 s.data.toList) = xF := ⟨_, rfl⟩
    have hxd : xF.data.toList = Val.strip0 s.data.toList := by rw [← hxF]; rfl
    have ht : Val.rtext s.data.toList = xF.data.toList := by
      rw [Val.rtext, hu, ← hxd, if_neg]
      rintro ⟨h, _⟩; rw [hget] at h; omega
    rw [ht] at hv'
    rcases fin hv' with ⟨hq, rfl, rfl⟩ | ⟨hq, rfl⟩
    · exact rnumber_digit_none s w hs h0 xF (Lib.hid hxF) (Lib.hid (by have := go hs hxF; omega)) h1 (Lib.hid hq)
    · exact rnumber_digit_some s w hs h0 xF (Lib.hid hxF) (Lib.hid (by have := go hs hxF; omega)) h1 _ (Lib.hid hq)

end Go.Proofs.YtmkgalcojoeniaaGreatDoor

namespace Go.Proofs.YtmkgalcojoeniaaGreatDoor
open Go.RowKit

theorem ltrim_step (u : ByteArray) (h : 0 < u.size) (hb : Val.isBlank u[0] = true) : Val.ltrim u.data.toList = Val.ltrim (u.extract 1 u.size).data.toList := by
  have hd := dropc u 0 h
  rw [List.drop_zero] at hd
  rw [extract_drop]
  conv => lhs; rw [hd]
  exact Val.ltrim_blank _ hb
theorem ltrim_end (u : ByteArray) (h : 0 < u.size) (hb : Val.isBlank u[0] = false) : Val.ltrim u.data.toList = u.data.toList := by
  have hd := dropc u 0 h
  rw [List.drop_zero] at hd
  rw [hd, Val.ltrim_other _ hb]
theorem ltrim_empty (u : ByteArray) (h : ¬ 0 < u.size) : Val.ltrim u.data.toList = u.data.toList := by
  have : u.data.toList = [] := List.eq_nil_of_length_eq_zero (by have : u.data.toList.length = u.size := rfl; omega)
  rw [this]; rfl
set_option maxHeartbeats 1000000 in
theorem rnum03_is (k n : Int) (t : ByteArray) (w : World) (hL : Lits w) (k' n' : Int) (hv : Hid (Val.num ⟨k, n, t.data.toList⟩ = ⟨k', n', []⟩)) : Calls Tryz.prog 63 #[.agg #[.int .i64 k, .int .i64 n, .string t]] w (VRet k' n' ⟨#[]⟩ w) := by
  have hS := start2 w (.int .i64 k) (.int .i64 n) (.string t) (.int .i64 0) (.int .i64 0) (.string ⟨#[]⟩) 25 25
  have hL0 : Lits ((w.alloc (.cells #[.int .i64 k, .int .i64 n, .string t] 25)).alloc (.cells #[.int .i64 0, .int .i64 0, .string ⟨#[]⟩] 25)) := (hL.alloc _).alloc _
  cases hm : Val.may ⟨k, n, t.data.toList⟩ with
  | false =>
    have hv' := (Val.num_not (.inl hm)).symm.trans hv.out
    simp only [Val.zero, Val.V.mk.injEq, and_true] at hv'
    obtain ⟨rfl, rfl⟩ := hv'
    replace hm := Lib.hid hm
    clear hv
    go_enter Tryz.func63, Tryz.ntmps63
    go_wp2_with (first
      | (go_at_call 57; refine (rmay_is _ _ _ _ hm).mono ?_; rintro e w1 ⟨rfl, hb⟩; have hS1 := keep2 hS hb; obtain ⟨ca0, ca1, ca2, ca3, ca4, ca5, ca6, ca7, ca8, ca9, ca10, ca11, hz, hB⟩ := id hS1)
      | (go_at_call 108; refine (rnull_any _).mono ?_; rintro e w2 ⟨rfl, hb2⟩; have hS2 := keep2 hS1 hb2; obtain ⟨cb0, cb1, cb2, cb3, cb4, cb5, cb6, cb7, cb8, cb9, cb10, cb11, hz2, hB2⟩ := id hS2))
    refine bodyPost_ret (v := .agg #[.int .i64 0, .int .i64 0, .string ⟨#[]⟩]) (by simp only [results, Tryz.results63]; go_simp) rfl ⟨rfl, below_setg hB2 (by omega)⟩
  | true =>
    have hml := may_len hm
    have hmi := Val.may_iff.1 hm
    simp only at hmi
    by_cases k0 : k = 0
    · have hv' := (Val.num_not (.inr k0)).symm.trans hv.out
      simp only [Val.zero, Val.V.mk.injEq, and_true] at hv'
      obtain ⟨rfl, rfl⟩ := hv'
      have b0 : (k == 0) = true := by simp [k0]
      replace hm := Lib.hid hm
      clear hv k0 hmi
      go_enter Tryz.func63, Tryz.ntmps63
      go_wp2_with (first
        | (go_at_call 57; refine (rmay_is _ _ _ _ hm).mono ?_; rintro e w1 ⟨rfl, hb⟩; have hS1 := keep2 hS hb; obtain ⟨ca0, ca1, ca2, ca3, ca4, ca5, ca6, ca7, ca8, ca9, ca10, ca11, hz, hB⟩ := id hS1)
        | (go_at_call 108; refine (rnull_any _).mono ?_; rintro e w2 ⟨rfl, hb2⟩; have hS2 := keep2 hS1 hb2; obtain ⟨cb0, cb1, cb2, cb3, cb4, cb5, cb6, cb7, cb8, cb9, cb10, cb11, hz2, hB2⟩ := id hS2))
      refine bodyPost_ret (v := .agg #[.int .i64 0, .int .i64 0, .string ⟨#[]⟩]) (by simp only [results, Tryz.results63]; go_simp) rfl ⟨rfl, below_setg hB2 (by omega)⟩
    · have b0 : (k == 0) = false := by simp [k0]
      by_cases k1 : k = 1
      · have hv' := (Val.num_int hm k1).symm.trans hv.out
        simp only [Val.V.mk.injEq] at hv'
        obtain ⟨rfl, rfl, ht⟩ := hv'
        have ht' := text_nil ht
        subst ht'
        have b1 : (k == 1) = true := by simp [k1]
        replace hm := Lib.hid hm
        clear hv k0 hmi k1 ht
        go_enter Tryz.func63, Tryz.ntmps63
        go_wp2_with (go_at_call 57; refine (rmay_is _ _ _ _ hm).mono ?_; rintro e w1 ⟨rfl, hb⟩; have hS1 := keep2 hS hb; obtain ⟨ca0, ca1, ca2, ca3, ca4, ca5, ca6, ca7, ca8, ca9, ca10, ca11, hz, hB⟩ := id hS1)
        refine bodyPost_ret (v := .agg #[.int .i64 k, .int .i64 n, .string ⟨#[]⟩]) (by simp only [results, Tryz.results63]; go_simp) rfl ⟨rfl, below_setg hB (by omega)⟩
      · have b1 : (k == 1) = false := by simp [k1]
        obtain ⟨u, hu⟩ : ∃ u, bs (Val.ltrim t.data.toList) = u := ⟨_, rfl⟩
        have hud : u.data.toList = Val.ltrim t.data.toList := by rw [← hu]; rfl
        have hul : u.size ≤ 400 := by
          have h1 : (Val.ltrim t.data.toList).length ≤ t.data.toList.length := (List.dropWhile_sublist _).length_le
          have h2 : t.data.toList.length = t.size := rfl
          have h3 : u.data.toList.length = u.size := rfl
          rw [hud] at h3; omega
        obtain ⟨m, hmm⟩ : ∃ m, Val.lead u.data.toList = m := ⟨_, rfl⟩
        have hmle : m ≤ u.size := by rw [← hmm]; exact Val.lead_le _
        by_cases m0 : m = 0
        · have hv' := (Val.num_none hm k0 k1 (by rw [← hud, hmm]; exact m0)).symm.trans hv.out
          simp only [Val.V.mk.injEq, and_true] at hv'
          obtain ⟨rfl, rfl⟩ := hv'
          subst m0
          replace hm := Lib.hid hm
          replace hu := Lib.hid hu
          replace hmm := Lib.hid hmm
          clear hv k0 hmi k1 hud
          go_enter Tryz.func63, Tryz.ntmps63
          go_wp2_with (go_at_call 57; refine (rmay_is _ _ _ _ hm).mono ?_; rintro e w1 ⟨rfl, hb⟩; have hS1 := keep2 hS hb; obtain ⟨ca0, ca1, ca2, ca3, ca4, ca5, ca6, ca7, ca8, ca9, ca10, ca11, hz, hB⟩ := id hS1)
          go_loop [3] (fun v => ∃ x : ByteArray, v = .string x ∧ x.size ≤ 400 ∧ Hid (bs (Val.ltrim x.data.toList) = u)) (fun v => Lib.strSize v)
          case atStart => exact ⟨t, rfl, hml, hu⟩
          case round =>
            obtain ⟨x, rfl, hxs, hq⟩ := hrel
            by_cases hx0 : 0 < x.size
            · have c0 : decide ((x.size : Int) > 0) = true := decide_eq_true (by omega)
              have i2 : (1 : Int) ≤ (x.size : Int) := by omega
              cases hbl : Val.isBlank x[0] with
              | true =>
                have hn := hq.out
                rw [ltrim_step x hx0 hbl] at hn
                replace hn := Lib.hid hn
                have hbk := Lib.hid hbl
                clear hq hbl
                go_wp2_with (go_at_call 120; refine (rblank_any _ _ _ hbk).mono ?_; rintro e w2 ⟨rfl, rfl⟩)
                go_round
                case rel => exact ⟨x.extract 1 x.size, by first | rfl | (simp; done), by rw [ByteArray.size_extract]; omega, hn⟩
                case measure => simp [Lib.strSize]; omega
              | false =>
                have hn := hq.out
                rw [ltrim_end x hx0 hbl, bs_of] at hn
                have hbk := Lib.hid hbl
                clear hq hbl hu
                subst hn
                go_wp2_with (first
                  | (go_at_call 120; refine (rblank_any _ _ _ hbk).mono ?_; rintro e w2 ⟨rfl, rfl⟩)
                  | (go_at_call 121; refine (rlead_is _ _ (by omega) _ hmm).mono ?_; rintro e w3 ⟨rfl, rfl⟩)
                  | (go_at_call 20; refine (rint_any _ _).mono ?_; rintro e w3 ⟨rfl, hb3⟩; have hS3 := keep2 hS1 hb3; obtain ⟨cb0, cb1, cb2, cb3, cb4, cb5, cb6, cb7, cb8, cb9, cb10, cb11, hz3, hB3⟩ := id hS3))
                refine bodyPost_ret (v := .agg #[.int .i64 1, .int .i64 0, .string ⟨#[]⟩]) (by simp only [results, Tryz.results63]; go_simp) rfl ⟨rfl, below_setg hB3 (by omega)⟩
            · have c0 : decide ((x.size : Int) > 0) = false := decide_eq_false (by omega)
              have hn := hq.out
              rw [ltrim_empty x hx0, bs_of] at hn
              clear hq hu
              subst hn
              go_wp2_with (first
                | (go_at_call 121; refine (rlead_is _ _ (by omega) _ hmm).mono ?_; rintro e w3 ⟨rfl, rfl⟩)
                | (go_at_call 20; refine (rint_any _ _).mono ?_; rintro e w3 ⟨rfl, hb3⟩; have hS3 := keep2 hS1 hb3; obtain ⟨cb0, cb1, cb2, cb3, cb4, cb5, cb6, cb7, cb8, cb9, cb10, cb11, hz3, hB3⟩ := id hS3))
              refine bodyPost_ret (v := .agg #[.int .i64 1, .int .i64 0, .string ⟨#[]⟩]) (by simp only [results, Tryz.results63]; go_simp) rfl ⟨rfl, below_setg hB3 (by omega)⟩
        · have hv' := (Val.num_text hm k0 k1 (by rw [← hud, hmm]; exact m0)).symm.trans hv.out
          rw [← hud, hmm, ← extract_take] at hv'
          have b2 : ((m : Int) == 0) = false := by simp; omega
          have hgg : Val.signed (u.extract 0 m).data.toList := by rw [extract_take, ← hmm]; exact Val.lead_signed (by rw [hmm]; exact m0)
          have hel : (u.extract 0 m).size ≤ 400 := by
            have h1 := extract_take u m
            have h2 : (u.extract 0 m).data.toList.length = (u.extract 0 m).size := rfl
            rw [h1, List.length_take] at h2
            have h3 : u.data.toList.length = u.size := rfl
            omega
          replace hm := Lib.hid hm
          replace hu := Lib.hid hu
          replace hmm := Lib.hid hmm
          replace hv' := Lib.hid hv'
          replace hel := Lib.hid hel
          replace hgg := Lib.hid hgg
          clear hv k0 hmi k1 hud m0
          go_enter Tryz.func63, Tryz.ntmps63
          go_wp2_with (go_at_call 57; refine (rmay_is _ _ _ _ hm).mono ?_; rintro e w1 ⟨rfl, hb⟩; have hS1 := keep2 hS hb; obtain ⟨ca0, ca1, ca2, ca3, ca4, ca5, ca6, ca7, ca8, ca9, ca10, ca11, hz, hB⟩ := id hS1)
          go_loop [3] (fun v => ∃ x : ByteArray, v = .string x ∧ x.size ≤ 400 ∧ Hid (bs (Val.ltrim x.data.toList) = u)) (fun v => Lib.strSize v)
          case atStart => exact ⟨t, rfl, hml, hu⟩
          case round =>
            obtain ⟨x, rfl, hxs, hq⟩ := hrel
            by_cases hx0 : 0 < x.size
            · have c0 : decide ((x.size : Int) > 0) = true := decide_eq_true (by omega)
              have i2 : (1 : Int) ≤ (x.size : Int) := by omega
              cases hbl : Val.isBlank x[0] with
              | true =>
                have hn := hq.out
                rw [ltrim_step x hx0 hbl] at hn
                replace hn := Lib.hid hn
                have hbk := Lib.hid hbl
                clear hq hbl
                go_wp2_with (go_at_call 120; refine (rblank_any _ _ _ hbk).mono ?_; rintro e w2 ⟨rfl, rfl⟩)
                go_round
                case rel => exact ⟨x.extract 1 x.size, by first | rfl | (simp; done), by rw [ByteArray.size_extract]; omega, hn⟩
                case measure => simp [Lib.strSize]; omega
              | false =>
                have hn := hq.out
                rw [ltrim_end x hx0 hbl, bs_of] at hn
                have hbk := Lib.hid hbl
                clear hq hbl hu
                subst hn
                go_wp2_with (first
                  | (go_at_call 120; refine (rblank_any _ _ _ hbk).mono ?_; rintro e w2 ⟨rfl, rfl⟩)
                  | (go_at_call 121; refine (rlead_is _ _ (by omega) _ hmm).mono ?_; rintro e w3 ⟨rfl, rfl⟩)
                  | (go_at_call 122; refine (rnumber_is _ _ hel.out hgg.out _ _ hv').mono ?_; rintro e w3 ⟨rfl, hb3⟩; have hS3 := keep2 hS1 hb3; obtain ⟨cb0, cb1, cb2, cb3, cb4, cb5, cb6, cb7, cb8, cb9, cb10, cb11, hz3, hB3⟩ := id hS3))
                refine bodyPost_ret (v := .agg #[.int .i64 k', .int .i64 n', .string ⟨#[]⟩]) (by simp only [results, Tryz.results63]; go_simp) rfl ⟨rfl, below_setg hB3 (by omega)⟩
            · have c0 : decide ((x.size : Int) > 0) = false := decide_eq_false (by omega)
              have hn := hq.out
              rw [ltrim_empty x hx0, bs_of] at hn
              clear hq hu
              subst hn
              go_wp2_with (first
                | (go_at_call 121; refine (rlead_is _ _ (by omega) _ hmm).mono ?_; rintro e w3 ⟨rfl, rfl⟩)
                | (go_at_call 122; refine (rnumber_is _ _ hel.out hgg.out _ _ hv').mono ?_; rintro e w3 ⟨rfl, hb3⟩; have hS3 := keep2 hS1 hb3; obtain ⟨cb0, cb1, cb2, cb3, cb4, cb5, cb6, cb7, cb8, cb9, cb10, cb11, hz3, hB3⟩ := id hS3))
              refine bodyPost_ret (v := .agg #[.int .i64 k', .int .i64 n', .string ⟨#[]⟩]) (by simp only [results, Tryz.results63]; go_simp) rfl ⟨rfl, below_setg hB3 (by omega)⟩

set_option maxHeartbeats 1000000 in
theorem rshow_is (k n : Int) (t : ByteArray) (w : World) (h0 : -9223372036854775808 ≤ n) (h1 : n ≤ 9223372036854775807) (hL : Lits w) (k' : Int) (t' : ByteArray) (hv : Hid (Val.pshow ⟨k, n, t.data.toList⟩ = ⟨k', 0, t'.data.toList⟩)) : Calls Tryz.prog 48 #[.agg #[.int .i64 k, .int .i64 n, .string t]] w (VRet k' 0 t' w) := by
  have hS := start2 w (.int .i64 k) (.int .i64 n) (.string t) (.int .i64 0) (.int .i64 0) (.string ⟨#[]⟩) 25 25
  have hL0 : Lits ((w.alloc (.cells #[.int .i64 k, .int .i64 n, .string t] 25)).alloc (.cells #[.int .i64 0, .int .i64 0, .string ⟨#[]⟩] 25)) := (hL.alloc _).alloc _
  cases hm : Val.may ⟨k, n, t.data.toList⟩ with
  | false =>
    have hv' := (Val.pshow_not (.inl hm)).symm.trans hv.out
    simp only [Val.zero, Val.V.mk.injEq, true_and] at hv'
    obtain ⟨rfl, ht⟩ := hv'
    have ht' := text_nil ht.symm
    subst ht'
    replace hm := Lib.hid hm
    clear hv ht
    go_enter Tryz.func48, Tryz.ntmps48
    go_wp2_with (first
      | (go_at_call 57; refine (rmay_is _ _ _ _ hm).mono ?_; rintro e w1 ⟨rfl, hb⟩; have hS1 := keep2 hS hb; obtain ⟨ca0, ca1, ca2, ca3, ca4, ca5, ca6, ca7, ca8, ca9, ca10, ca11, hz, hB⟩ := id hS1)
      | (go_at_call 108; refine (rnull_any _).mono ?_; rintro e w2 ⟨rfl, hb2⟩; have hS2 := keep2 hS1 hb2; obtain ⟨cb0, cb1, cb2, cb3, cb4, cb5, cb6, cb7, cb8, cb9, cb10, cb11, hz2, hB2⟩ := id hS2))
    refine bodyPost_ret (v := .agg #[.int .i64 0, .int .i64 0, .string ⟨#[]⟩]) (by simp only [results, Tryz.results48]; go_simp) rfl ⟨rfl, below_setg hB2 (by omega)⟩
  | true =>
    have hml := may_len hm
    by_cases k0 : k = 0
    · have hv' := (Val.pshow_not (.inr k0)).symm.trans hv.out
      simp only [Val.zero, Val.V.mk.injEq, true_and] at hv'
      obtain ⟨rfl, ht⟩ := hv'
      have ht' := text_nil ht.symm
      subst ht'
      have b0 : (k == 0) = true := by simp [k0]
      replace hm := Lib.hid hm
      clear hv k0 ht
      go_enter Tryz.func48, Tryz.ntmps48
      go_wp2_with (first
        | (go_at_call 57; refine (rmay_is _ _ _ _ hm).mono ?_; rintro e w1 ⟨rfl, hb⟩; have hS1 := keep2 hS hb; obtain ⟨ca0, ca1, ca2, ca3, ca4, ca5, ca6, ca7, ca8, ca9, ca10, ca11, hz, hB⟩ := id hS1)
        | (go_at_call 108; refine (rnull_any _).mono ?_; rintro e w2 ⟨rfl, hb2⟩; have hS2 := keep2 hS1 hb2; obtain ⟨cb0, cb1, cb2, cb3, cb4, cb5, cb6, cb7, cb8, cb9, cb10, cb11, hz2, hB2⟩ := id hS2))
      refine bodyPost_ret (v := .agg #[.int .i64 0, .int .i64 0, .string ⟨#[]⟩]) (by simp only [results, Tryz.results48]; go_simp) rfl ⟨rfl, below_setg hB2 (by omega)⟩
    · have b0 : (k == 0) = false := by simp [k0]
      by_cases k1 : k = 1
      · have hv' := (Val.pshow_int hm k1).symm.trans hv.out
        simp only [Val.V.mk.injEq, true_and] at hv'
        obtain ⟨rfl, ht⟩ := hv'
        have ht' : bs (Lib.itoa n) = t' := bytes_inj' ht
        have hts := itoa_size h0 h1
        rw [ht'] at hts
        have b1 : (k == 1) = true := by simp [k1]
        replace hm := Lib.hid hm
        replace ht' := Lib.hid ht'
        clear hv k0 k1 ht
        go_enter Tryz.func48, Tryz.ntmps48
        go_wp2_with (first
          | (go_at_call 57; refine (rmay_is _ _ _ _ hm).mono ?_; rintro e w1 ⟨rfl, hb⟩; have hS1 := keep2 hS hb; obtain ⟨ca0, ca1, ca2, ca3, ca4, ca5, ca6, ca7, ca8, ca9, ca10, ca11, hz, hB⟩ := id hS1; have hL1 := hL0.below hb)
          | (go_at_call 100; refine (format_any n _ h0 h1 hL1).mono ?_; rintro e w2 ⟨rfl, hb2⟩; rw [ht'.out]; have hS2 := keep2 hS1 hb2)
          | (go_at_call 61; refine (rtext_ok _ _ hts).mono ?_; rintro e w3 ⟨rfl, hb3⟩; have hS3 := keep2 hS2 hb3; obtain ⟨cb0, cb1, cb2, cb3, cb4, cb5, cb6, cb7, cb8, cb9, cb10, cb11, hz3, hB3⟩ := id hS3))
        refine bodyPost_ret (v := .agg #[.int .i64 2, .int .i64 0, .string t']) (by simp only [results, Tryz.results48]; go_simp) rfl ⟨rfl, below_setg hB3 (by omega)⟩
      · have hv' := (Val.pshow_text hm k0 k1).symm.trans hv.out
        simp only [Val.V.mk.injEq, true_and] at hv'
        obtain ⟨rfl, ht⟩ := hv'
        have ht' := bytes_inj' ht
        subst ht'
        have b1 : (k == 1) = false := by simp [k1]
        replace hm := Lib.hid hm
        clear hv k0 k1 ht
        go_enter Tryz.func48, Tryz.ntmps48
        go_wp2_with (first
          | (go_at_call 57; refine (rmay_is _ _ _ _ hm).mono ?_; rintro e w1 ⟨rfl, hb⟩; have hS1 := keep2 hS hb; obtain ⟨ca0, ca1, ca2, ca3, ca4, ca5, ca6, ca7, ca8, ca9, ca10, ca11, hz, hB⟩ := id hS1; have hL1 := hL0.below hb)
          | (go_at_call 61; refine (rtext_ok _ _ hml).mono ?_; rintro e w3 ⟨rfl, hb3⟩; have hS3 := keep2 hS1 hb3; obtain ⟨cb0, cb1, cb2, cb3, cb4, cb5, cb6, cb7, cb8, cb9, cb10, cb11, hz3, hB3⟩ := id hS3))
        refine bodyPost_ret (v := .agg #[.int .i64 2, .int .i64 0, .string t]) (by simp only [results, Tryz.results48]; go_simp) rfl ⟨rfl, below_setg hB3 (by omega)⟩

set_option maxHeartbeats 1000000 in
theorem rtru_is (k n : Int) (t : ByteArray) (w : World) (h0 : -9223372036854775808 ≤ n) (h1 : n ≤ 9223372036854775807) (hL : Lits w) (r : Int) (hr : Hid (Val.tru ⟨k, n, t.data.toList⟩ = r)) :
    Calls Tryz.prog 58 #[.agg #[.int .i64 k, .int .i64 n, .string t]] w fun e w' => e = .returned (.int .i64 r) ∧ Below w.heap.size w w' := by
  have hS := start1 w (.int .i64 k) (.int .i64 n) (.string t) 25
  have hL0 : Lits (w.alloc (.cells #[.int .i64 k, .int .i64 n, .string t] 25)) := hL.alloc _
  have hrc := Val.tru_cases ⟨k, n, t.data.toList⟩
  rw [hr.out] at hrc
  obtain ⟨k', n', hv, e1, _, e3, _⟩ := tru_num (v := ⟨k, n, t.data.toList⟩) ⟨h0, h1⟩ hr.out
  replace hv := Lib.hid hv
  clear hr
  rcases hrc with rfl | rfl | rfl
  all_goals (
    simp only [Int.reduceEq, Int.reduceNeg, decide_true, decide_false] at e1 e3
    go_enter Tryz.func58, Tryz.ntmps58
    go_wp2_with (go_at_call 63; refine (rnum03_is _ _ _ _ hL0 _ _ hv).mono ?_; rintro e w1 ⟨rfl, hb⟩; have hS1 := keep1 hS hb; obtain ⟨ca0, ca1, ca2, ca3, ca4, ca5, hz, hB⟩ := id hS1)
    go_ret
    exact ⟨rfl, hB.trans ((below_new w1 _).mono hB.size)⟩)

end Go.Proofs.YtmkgalcojoeniaaGreatDoor

