/- Walks: End of the reference of layer 15, whole; Fold and Bytes. -/
import Derived.Test.YtiiaamkmnbegdaaDoorRef15C
namespace Go.Proofs.YtiiaamkmnbegdaaDoor
set_option maxRecDepth 100000
set_option linter.unusedVariables false
set_option linter.unusedSimpArgs false
open Go.RowKit

theorem rend_pair_e (s : ByteArray) (k : Nat) (w : World) (r : Int × Nat) (hs : s.size ≤ 4294967296) (hk : k < s.size) (hc : s[k].toNat ≠ 39) (hx : s[k].toNat ≠ 120 ∧ s[k].toNat ≠ 88) (h2 : k + 1 < s.size) (h63 : s[k].toNat ≠ 63) (hl : Hid (Tok.letter s[k] = false)) (hdg : Hid (Tok.digit s[k] = false)) (hp : Hid (Tok.pair s[k] s[k + 1] = true))
    (hst : Hid (r = ((k : Int) + 2, 6))) :
    Calls Tryd.prog 80 #[.string s, .int .i64 (k : Int)] w fun e w' => e = .returned (.tuple #[.int .i64 r.1, .int .i64 (r.2 : Int)]) ∧ w = w' := by
  have hcB : ((s[k].toNat : Int) == 39) = false := by simp; omega
  have x1 : ((s[k].toNat : Int) == 120) = false := by simp; omega
  have x2 : ((s[k].toNat : Int) == 88) = false := by simp; omega
  have h2B : decide ((k : Int) + 1 < (s.size : Int)) = true := by simp; omega
  have hmB : ((s[k].toNat : Int) == 63) = false := by simp; omega
  clear hc hx h63
  go_enter Tryd.func80, Tryd.ntmps80
  go_wp2_with (first | (go_at_call 78; refine (rletter_any _ _).mono ?_; rintro e w' ⟨rfl, rfl⟩; rw [hl.out]) | (go_at_call 79; refine (rdigit15_any _ _).mono ?_; rintro e w' ⟨rfl, rfl⟩; rw [hdg.out]) | (go_at_call 112; refine (rpair_any _ _ _).mono ?_; rintro e w' ⟨rfl, rfl⟩; rw [hp.out]))
  go_ret2
  exact ⟨end_eq hst.out (by omega) rfl, rfl⟩

theorem rend_single_e (s : ByteArray) (k : Nat) (w : World) (r : Int × Nat) (hs : s.size ≤ 4294967296) (hk : k < s.size) (hc : s[k].toNat ≠ 39) (hx : s[k].toNat ≠ 120 ∧ s[k].toNat ≠ 88) (h2 : k + 1 < s.size) (h63 : s[k].toNat ≠ 63) (hl : Hid (Tok.letter s[k] = false)) (hdg : Hid (Tok.digit s[k] = false)) (hp : Hid (Tok.pair s[k] s[k + 1] = false)) (hsg : Hid (Tok.single s[k] = true))
    (hst : Hid (r = ((k : Int) + 1, 6))) :
    Calls Tryd.prog 80 #[.string s, .int .i64 (k : Int)] w fun e w' => e = .returned (.tuple #[.int .i64 r.1, .int .i64 (r.2 : Int)]) ∧ w = w' := by
  have hcB : ((s[k].toNat : Int) == 39) = false := by simp; omega
  have x1 : ((s[k].toNat : Int) == 120) = false := by simp; omega
  have x2 : ((s[k].toNat : Int) == 88) = false := by simp; omega
  have h2B : decide ((k : Int) + 1 < (s.size : Int)) = true := by simp; omega
  have hmB : ((s[k].toNat : Int) == 63) = false := by simp; omega
  clear hc hx h63
  go_enter Tryd.func80, Tryd.ntmps80
  go_wp2_with (first | (go_at_call 78; refine (rletter_any _ _).mono ?_; rintro e w' ⟨rfl, rfl⟩; rw [hl.out]) | (go_at_call 79; refine (rdigit15_any _ _).mono ?_; rintro e w' ⟨rfl, rfl⟩; rw [hdg.out]) | (go_at_call 112; refine (rpair_any _ _ _).mono ?_; rintro e w' ⟨rfl, rfl⟩; rw [hp.out]) | (go_at_call 113; refine (rsingle_any _ _).mono ?_; rintro e w' ⟨rfl, rfl⟩; rw [hsg.out]))
  go_ret2
  exact ⟨end_eq hst.out (by omega) rfl, rfl⟩

theorem rend_single_f (s : ByteArray) (k : Nat) (w : World) (r : Int × Nat) (hs : s.size ≤ 4294967296) (hk : k < s.size) (hc : s[k].toNat ≠ 39) (hx : s[k].toNat ≠ 120 ∧ s[k].toNat ≠ 88) (h2 : ¬ k + 1 < s.size) (h63 : s[k].toNat ≠ 63) (hl : Hid (Tok.letter s[k] = false)) (hdg : Hid (Tok.digit s[k] = false)) (hsg : Hid (Tok.single s[k] = true))
    (hst : Hid (r = ((k : Int) + 1, 6))) :
    Calls Tryd.prog 80 #[.string s, .int .i64 (k : Int)] w fun e w' => e = .returned (.tuple #[.int .i64 r.1, .int .i64 (r.2 : Int)]) ∧ w = w' := by
  have hcB : ((s[k].toNat : Int) == 39) = false := by simp; omega
  have x1 : ((s[k].toNat : Int) == 120) = false := by simp; omega
  have x2 : ((s[k].toNat : Int) == 88) = false := by simp; omega
  have h2B : decide ((k : Int) + 1 < (s.size : Int)) = false := by simp; omega
  have hmB : ((s[k].toNat : Int) == 63) = false := by simp; omega
  clear hc hx h63
  go_enter Tryd.func80, Tryd.ntmps80
  go_wp2_with (first | (go_at_call 78; refine (rletter_any _ _).mono ?_; rintro e w' ⟨rfl, rfl⟩; rw [hl.out]) | (go_at_call 79; refine (rdigit15_any _ _).mono ?_; rintro e w' ⟨rfl, rfl⟩; rw [hdg.out]) | (go_at_call 113; refine (rsingle_any _ _).mono ?_; rintro e w' ⟨rfl, rfl⟩; rw [hsg.out]))
  go_ret2
  exact ⟨end_eq hst.out (by omega) rfl, rfl⟩

theorem rend_none_e (s : ByteArray) (k : Nat) (w : World) (r : Int × Nat) (hs : s.size ≤ 4294967296) (hk : k < s.size) (hc : s[k].toNat ≠ 39) (hx : s[k].toNat ≠ 120 ∧ s[k].toNat ≠ 88) (h2 : k + 1 < s.size) (h63 : s[k].toNat ≠ 63) (hl : Hid (Tok.letter s[k] = false)) (hdg : Hid (Tok.digit s[k] = false)) (hp : Hid (Tok.pair s[k] s[k + 1] = false)) (hsg : Hid (Tok.single s[k] = false))
    (hst : Hid (r = (-1, 6))) :
    Calls Tryd.prog 80 #[.string s, .int .i64 (k : Int)] w fun e w' => e = .returned (.tuple #[.int .i64 r.1, .int .i64 (r.2 : Int)]) ∧ w = w' := by
  have hcB : ((s[k].toNat : Int) == 39) = false := by simp; omega
  have x1 : ((s[k].toNat : Int) == 120) = false := by simp; omega
  have x2 : ((s[k].toNat : Int) == 88) = false := by simp; omega
  have h2B : decide ((k : Int) + 1 < (s.size : Int)) = true := by simp; omega
  have hmB : ((s[k].toNat : Int) == 63) = false := by simp; omega
  clear hc hx h63
  go_enter Tryd.func80, Tryd.ntmps80
  go_wp2_with (first | (go_at_call 78; refine (rletter_any _ _).mono ?_; rintro e w' ⟨rfl, rfl⟩; rw [hl.out]) | (go_at_call 79; refine (rdigit15_any _ _).mono ?_; rintro e w' ⟨rfl, rfl⟩; rw [hdg.out]) | (go_at_call 112; refine (rpair_any _ _ _).mono ?_; rintro e w' ⟨rfl, rfl⟩; rw [hp.out]) | (go_at_call 113; refine (rsingle_any _ _).mono ?_; rintro e w' ⟨rfl, rfl⟩; rw [hsg.out]))
  go_ret2
  exact ⟨end_eq hst.out (by omega) rfl, rfl⟩

theorem rend_none_f (s : ByteArray) (k : Nat) (w : World) (r : Int × Nat) (hs : s.size ≤ 4294967296) (hk : k < s.size) (hc : s[k].toNat ≠ 39) (hx : s[k].toNat ≠ 120 ∧ s[k].toNat ≠ 88) (h2 : ¬ k + 1 < s.size) (h63 : s[k].toNat ≠ 63) (hl : Hid (Tok.letter s[k] = false)) (hdg : Hid (Tok.digit s[k] = false)) (hsg : Hid (Tok.single s[k] = false))
    (hst : Hid (r = (-1, 6))) :
    Calls Tryd.prog 80 #[.string s, .int .i64 (k : Int)] w fun e w' => e = .returned (.tuple #[.int .i64 r.1, .int .i64 (r.2 : Int)]) ∧ w = w' := by
  have hcB : ((s[k].toNat : Int) == 39) = false := by simp; omega
  have x1 : ((s[k].toNat : Int) == 120) = false := by simp; omega
  have x2 : ((s[k].toNat : Int) == 88) = false := by simp; omega
  have h2B : decide ((k : Int) + 1 < (s.size : Int)) = false := by simp; omega
  have hmB : ((s[k].toNat : Int) == 63) = false := by simp; omega
  clear hc hx h63
  go_enter Tryd.func80, Tryd.ntmps80
  go_wp2_with (first | (go_at_call 78; refine (rletter_any _ _).mono ?_; rintro e w' ⟨rfl, rfl⟩; rw [hl.out]) | (go_at_call 79; refine (rdigit15_any _ _).mono ?_; rintro e w' ⟨rfl, rfl⟩; rw [hdg.out]) | (go_at_call 113; refine (rsingle_any _ _).mono ?_; rintro e w' ⟨rfl, rfl⟩; rw [hsg.out]))
  go_ret2
  exact ⟨end_eq hst.out (by omega) rfl, rfl⟩

set_option maxHeartbeats 400000 in
theorem rend_any (s : ByteArray) (k : Nat) (w : World) (hs : s.size ≤ 4294967296) (hk : k < s.size) :
    Calls Tryd.prog 80 #[.string s, .int .i64 (k : Int)] w fun e w' => e = .returned (.tuple #[.int .i64 (Tok.fin (Tok.one s.data.toList k).2), .int .i64 ((Tok.one s.data.toList k).1.kind : Int)]) ∧ w = w' := by
  obtain ⟨r, hr⟩ : ∃ r, (Tok.fin (Tok.one s.data.toList k).2, (Tok.one s.data.toList k).1.kind) = r := ⟨_, rfl⟩
  have e1 : Tok.fin (Tok.one s.data.toList k).2 = r.1 := by rw [← hr]
  have e2 : (Tok.one s.data.toList k).1.kind = r.2 := by rw [← hr]
  rw [e1, e2]
  clear e1 e2
  have hk' : k < s.data.toList.length := hk
  have g1 := getD_byte s k hk
  have hc8 := s[k].toNat_lt
  by_cases hc : s[k].toNat = 39
  · have hcB : ((s[k].toNat : Int) == 39) = true := by simp; omega
    have hst := hr.symm.trans (Tok.one_quote (by rw [g1]; exact hc))
    obtain ⟨n, hn⟩ : ∃ n, n = Tok.fin (Tok.quoted s.data.toList (k + 1) []).2 := ⟨_, rfl⟩
    rw [← hn] at hst
    replace hn := Lib.hid hn
    replace hst := Lib.hid hst
    clear hr g1 hc
    go_enter Tryd.func80, Tryd.ntmps80
    go_wp2_with (go_at_call 110; refine (rquote_is s k _ hn hs hk).mono ?_; rintro e w' ⟨rfl, rfl⟩)
    all_goals go_ret2
    all_goals exact ⟨end_eq hst.out rfl rfl, rfl⟩
  · have hg : (s.data.toList.getD k 0).toNat ≠ 39 := by rw [g1]; exact hc
    by_cases hb : Tok.isBlob s.data.toList k
    · have hst := hr.symm.trans (Tok.one_blob hg hb)
      have h2 : k + 1 < s.size := hb.2.1
      have g2 := getD_byte s (k + 1) h2
      have h2B : decide ((k : Int) + 1 < (s.size : Int)) = true := by simp; omega
      have hd : s[k + 1].toNat = 39 := by rw [← g2]; exact hb.2.2
      have hx : s[k].toNat = 120 ∨ s[k].toNat = 88 := by rw [← g1]; exact hb.1
      have hcB : ((s[k].toNat : Int) == 39) = false := by simp; omega
      have hdB : ((s[k + 1].toNat : Int) == 39) = true := by simp; omega
      obtain ⟨n, hn⟩ : ∃ n, n = Tok.fin (Tok.blob s.data.toList (k + 1)).2 := ⟨_, rfl⟩
      rw [← hn] at hst
      replace hn := Lib.hid hn
      replace hst := Lib.hid hst
      clear hr g1 g2 hc hb hd hg
      rcases hx with hx | hx
      · have x1 : ((s[k].toNat : Int) == 120) = true := by simp; omega
        clear hx
        go_enter Tryd.func80, Tryd.ntmps80
        go_wp2_with (go_at_call 111; refine (rblob_is s k _ hn hs h2).mono ?_; rintro e w' ⟨rfl, rfl⟩)
        go_ret2
        exact ⟨end_eq hst.out rfl rfl, rfl⟩
      · have x1 : ((s[k].toNat : Int) == 120) = false := by simp; omega
        have x2 : ((s[k].toNat : Int) == 88) = true := by simp; omega
        clear hx
        go_enter Tryd.func80, Tryd.ntmps80
        go_wp2_with (go_at_call 111; refine (rblob_is s k _ hn hs h2).mono ?_; rintro e w' ⟨rfl, rfl⟩)
        go_ret2
        exact ⟨end_eq hst.out rfl rfl, rfl⟩
    · cases hl : Tok.letter s[k] with
      | true =>
        have hst := hr.symm.trans (Tok.one_letter hk' hb (by rw [g1]; exact hl))
        by_cases h2 : k + 1 < s.size
        · have g2 := getD_byte s (k + 1) h2
          by_cases hx1 : s[k].toNat = 120
          · exact rend_letter_a s k w r _ hs hk hc hx1 h2 (fun hd => hb ⟨by rw [g1]; exact .inl hx1, h2, by rw [g2]; exact hd⟩) hl rfl hst
          · by_cases hx2 : s[k].toNat = 88
            · exact rend_letter_b s k w r _ hs hk hc hx2 h2 (fun hd => hb ⟨by rw [g1]; exact .inr hx2, h2, by rw [g2]; exact hd⟩) hl rfl hst
            · exact rend_letter_e s k w r _ hs hk hc ⟨hx1, hx2⟩ h2 hl rfl hst
        · by_cases hx1 : s[k].toNat = 120
          · exact rend_letter_c s k w r _ hs hk hc hx1 h2 hl rfl hst
          · by_cases hx2 : s[k].toNat = 88
            · exact rend_letter_d s k w r _ hs hk hc hx2 h2 hl rfl hst
            · exact rend_letter_f s k w r _ hs hk hc ⟨hx1, hx2⟩ h2 hl rfl hst
      | false =>
        have hx : s[k].toNat ≠ 120 ∧ s[k].toNat ≠ 88 := by simp [Tok.letter] at hl; omega
        cases hdg : Tok.digit s[k] with
        | true =>
          have h63 : s[k].toNat ≠ 63 := (Tok.digit_not hdg).2.1
          have hst := hr.symm.trans (Tok.one_digit hk' (by rw [g1]; exact hdg))
          by_cases h2 : k + 1 < s.size
          · exact rend_digit_e s k w r _ hs hk hc hx h2 h63 hl hdg rfl hst
          · exact rend_digit_f s k w r _ hs hk hc hx h2 h63 hl hdg rfl hst
        | false =>
          by_cases h63 : s[k].toNat = 63
          · have hst := hr.symm.trans (Tok.one_mark (by rw [g1]; exact h63))
            by_cases h2 : k + 1 < s.size
            · exact rend_mark_e s k w r _ hs hk hc hx h2 h63 hl hdg rfl hst
            · exact rend_mark_f s k w r _ hs hk hc hx h2 h63 hl hdg rfl hst
          · have i63 : (s.data.toList.getD k 0).toNat ≠ 63 := by rw [g1]; exact h63
            have il : Tok.letter (s.data.toList.getD k 0) = false := by rw [g1]; exact hl
            have id : Tok.digit (s.data.toList.getD k 0) = false := by rw [g1]; exact hdg
            by_cases h2 : k + 1 < s.size
            · have g2 := getD_byte s (k + 1) h2
              cases hp : Tok.pair s[k] s[k + 1] with
              | true => exact rend_pair_e s k w r hs hk hc hx h2 h63 hl hdg hp (hr.symm.trans (Tok.one_two hg hb i63 il id h2 (by rw [g1, g2]; exact hp)))
              | false =>
                cases hsg : Tok.single s[k] with
                | true => exact rend_single_e s k w r hs hk hc hx h2 h63 hl hdg hp hsg (hr.symm.trans (Tok.one_single hg hb i63 il id (by rw [g1, g2, hp]; simp) (by rw [g1]; exact hsg)))
                | false => exact rend_none_e s k w r hs hk hc hx h2 h63 hl hdg hp hsg (hr.symm.trans (Tok.one_none hg hb i63 il id (by rw [g1, g2, hp]; simp) (by rw [g1]; exact hsg)))
            · cases hsg : Tok.single s[k] with
              | true => exact rend_single_f s k w r hs hk hc hx h2 h63 hl hdg hsg (hr.symm.trans (Tok.one_single hg hb i63 il id (fun h => h2 h.1) (by rw [g1]; exact hsg)))
              | false => exact rend_none_f s k w r hs hk hc hx h2 h63 hl hdg hsg (hr.symm.trans (Tok.one_none hg hb i63 il id (fun h => h2 h.1) (by rw [g1]; exact hsg)))

theorem take_snoc_map (s : ByteArray) (k : Nat) (h : k < s.size) : (s.data.toList.take (k + 1)).map Txt.lower = (s.data.toList.take k).map Txt.lower ++ [Txt.lower s[k]] := by
  have h' : k < s.data.toList.length := h
  rw [List.take_succ_eq_append_getElem h', List.map_append]
  rfl

set_option maxHeartbeats 800000 in
theorem fold_one (s : ByteArray) (w : World) (hs : s.size ≤ 4294967296) :
    Calls Tryd.prog 38 #[.string s, .int .i64 1] w fun e w' => e = .returned (.string (bs (s.data.toList.map Txt.lower))) ∧ Below w.heap.size w w' := by
  go_enter Tryd.func38, Tryd.ntmps38
  go_wp2
  go_loopw [5, 6, 7] (fun vv i _ wr => ∃ (v : Value) (k : Nat) (acc : List UInt8), v = vv ∧ k ≤ s.size ∧ acc.length ≤ k ∧ i = .int .i64 (k : Int) ∧ Hid (acc = (s.data.toList.take k).map Txt.lower) ∧ wr.ownsRow w.heap.size 5 1 v acc.length (bytesC acc) ∧ Below w.heap.size w wr) (fun _ i _ _ => s.size - (intOf i).toNat)
  case atStart => exact ⟨_, 0, [], rfl, by omega, by simp, by go_num, rfl, World.ownsRow_nil _ _ _ _, Below.refl _ _⟩
  case round =>
    obtain ⟨v, k, acc, rfl, hk, hacc, rfl, ha, hown, hb⟩ := hrel
    by_cases hlt : k < s.size
    · have hc8 := s[k].toNat_lt
      have hst := take_snoc_map s k hlt
      rw [← ha.out] at hst
      replace hst := Lib.hid hst
      by_cases hu : 65 ≤ s[k].toNat ∧ s[k].toNat ≤ 90
      · have hlo : ((Txt.lower s[k]).toNat : Int) = (s[k].toNat : Int) - 65 + 97 := by rw [Txt.lower_up hu]; omega
        have b1 : decide ((s[k].toNat : Int) ≥ 65) = true := by simp; omega
        have b2 : decide ((s[k].toNat : Int) ≤ 90) = true := by simp; omega
        replace hlo := Lib.hid hlo
        go_wp2_with (at_builtin; go_must (refine wpList_push rfl _ _ 77 rfl w.heap.size 5 Tryd.underlying77 u8_info rfl (by decide) _ _ _ rfl hown _ rfl rfl (one_u8 _) (by omega) (by decide) hb.size ?_); intro v' w1 hown' hb' hv' _)
        go_roundw
        case rel => exact ⟨_, k + 1, acc ++ [Txt.lower s[k]], rfl, by omega, by simp; omega, by go_num, Lib.hid hst.out.symm, by rw [bytesC_snoc, hlo.out]; simpa using hown', hb.trans hb'⟩
        case measure => simp [intOf]; omega
      · have hlo := Txt.lower_no hu
        replace hlo := Lib.hid hlo
        go_wp2_with (at_builtin; go_must (refine wpList_push rfl _ _ 77 rfl w.heap.size 5 Tryd.underlying77 u8_info rfl (by decide) _ _ _ rfl hown _ rfl rfl (one_u8 _) (by omega) (by decide) hb.size ?_); intro v' w1 hown' hb' hv' _)
        all_goals first
          | (exfalso; omega; done)
          | (go_roundw
             case rel => exact ⟨_, k + 1, acc ++ [Txt.lower s[k]], rfl, by omega, by simp; omega, by go_num, Lib.hid hst.out.symm, by rw [bytesC_snoc, hlo.out]; simpa using hown', hb.trans hb'⟩
             case measure => simp [intOf]; omega)
    · have hcv := run_string_own (P := Tryd.prog) 77 9 5 Tryd.underlying77 Tryd.underlying5 Tryd.underlying9 hown
      have hst := ha.out
      rw [List.take_of_length_le (Nat.le_of_not_lt hlt)] at hst
      replace hst := Lib.hid hst
      go_wp2
      go_ret
      exact ⟨by rw [hst.out]; rfl, hb⟩

theorem fold_one_is {t : ByteArray} (s : ByteArray) (w : World) (hs : s.size ≤ 4294967296) (h : Hid (t = bs (s.data.toList.map Txt.lower))) :
    Calls Tryd.prog 38 #[.string s, .int .i64 1] w fun e w' => e = .returned (.string t) ∧ Below w.heap.size w w' :=
  (fold_one s w hs).mono fun _ _ ⟨h1, h2⟩ => ⟨by rw [h1, ← h.out], h2⟩
theorem bytes_text_is {t : List UInt8} {b : Bool} (s : ByteArray) (w : World) (hs : s.size ≤ 4294967296) (h : Hid (Txt.bytes s.data.toList false = (t, b))) :
    Calls Tryd.prog 60 #[.string s, .bool false] w fun e w' => e = .returned (.tuple #[.string (bs t), .bool b]) ∧ Below w.heap.size w w' :=
  (bytes_text s w hs).mono fun _ _ ⟨h1, h2⟩ => ⟨by rw [h1, h.out], h2⟩
theorem bytes_blob_is {t : List UInt8} {b : Bool} (s : ByteArray) (w : World) (hs : s.size ≤ 4294967296) (h : Hid (Txt.bytes s.data.toList true = (t, b))) :
    Calls Tryd.prog 60 #[.string s, .bool true] w fun e w' => e = .returned (.tuple #[.string (bs t), .bool b]) ∧ Below w.heap.size w w' :=
  (bytes_blob s w hs).mono fun _ _ ⟨h1, h2⟩ => ⟨by rw [h1, h.out], h2⟩

theorem cut_data1 (s : ByteArray) (i e : Nat) : (s.extract i e).data.toList = Tok.cut s.data.toList i e := by rw [Lib.extract_data]; rfl

theorem rbytes_any (s : ByteArray) (k : Nat) (w : World) (hs : s.size ≤ 4294967296) (h3 : k = 3 → 2 ≤ s.size) (h4 : k = 4 → 3 ≤ s.size) (h5 : 1 ≤ s.size) :
    Calls Tryd.prog 81 #[.string s, .int .i64 (k : Int)] w fun e w' => e = .returned (.string (bs (Tok.rtext k s.data.toList))) ∧ Below w.heap.size w w' := by
  obtain ⟨q, hq⟩ : ∃ q, Tok.rtext k s.data.toList = q := ⟨_, rfl⟩
  rw [hq]
  have hlen : s.data.toList.length = s.size := rfl
  rw [Tok.rtext, hlen] at hq
  clear hlen
  by_cases k3 : k = 3
  · subst k3
    have h2 := h3 rfl
    have d1 := cut_data1 s 1 (s.size - 1)
    rw [if_pos rfl, ← d1] at hq
    have hsz : (s.extract 1 (s.size - 1)).size ≤ 4294967296 := by simp; omega
    obtain ⟨b, hby⟩ : ∃ b, Txt.bytes (s.extract 1 (s.size - 1)).data.toList false = (q, b) := ⟨_, by rw [← hq]; rfl⟩
    clear hq d1 h3 h4
    replace hby := Lib.hid hby
    go_enter Tryd.func81, Tryd.ntmps81
    go_wp2_with (go_at_call 60; refine (bytes_text_is (s.extract 1 (s.size - 1)) _ hsz hby).mono ?_; rintro e w' ⟨rfl, hb⟩)
    go_ret
    exact ⟨rfl, hb⟩
  · by_cases k4 : k = 4
    · subst k4
      have h2 := h4 rfl
      have d1 := cut_data1 s 2 (s.size - 1)
      rw [if_neg k3, if_pos rfl, ← d1] at hq
      have hsz : (s.extract 2 (s.size - 1)).size ≤ 4294967296 := by simp; omega
      obtain ⟨t, ht⟩ : ∃ t, t = bs ((s.extract 2 (s.size - 1)).data.toList.map Txt.lower) := ⟨_, rfl⟩
      have hsz2 : t.size ≤ 4294967296 := by rw [ht, bs_size, List.length_map]; exact hsz
      obtain ⟨b, hby⟩ : ∃ b, Txt.bytes t.data.toList true = (q, b) := ⟨_, by rw [← hq, ht]; rfl⟩
      clear hq d1 h3 h4 k3
      replace hby := Lib.hid hby
      replace ht := Lib.hid ht
      go_enter Tryd.func81, Tryd.ntmps81
      go_wp2_with (first
        | (go_at_call 38; refine (fold_one_is (s.extract 2 (s.size - 1)) _ hsz ht).mono ?_; rintro e w' ⟨rfl, hb⟩)
        | (go_at_call 60; refine (bytes_blob_is t _ hsz2 hby).mono ?_; rintro e w2 ⟨rfl, hb2⟩))
      go_ret
      exact ⟨rfl, hb.trans (hb2.mono hb.size)⟩
    · have b3 : ((k : Int) == 3) = false := by simp; omega
      have b4 : ((k : Int) == 4) = false := by simp; omega
      rw [if_neg k3, if_neg k4] at hq
      clear h3 h4 k3 k4
      by_cases k5 : k = 5
      · have b5 : ((k : Int) == 5) = true := by simp; omega
        rw [if_pos k5] at hq
        have hdat : (s.extract 1 s.size).data.toList = s.data.toList.drop 1 := by rw [Lib.extract_data]; exact List.take_of_length_le (by simp)
        have hq2 : bs q = s.extract 1 s.size := by rw [← hq, ← hdat]; rfl
        replace hq2 := Lib.hid hq2
        clear hq hdat k5
        go_enter Tryd.func81, Tryd.ntmps81
        go_wp2
        go_ret
        exact ⟨by rw [hq2.out]; rfl, Below.refl _ _⟩
      · have b5 : ((k : Int) == 5) = false := by simp; omega
        rw [if_neg k5] at hq
        clear k5
        replace hq := Lib.hid hq
        go_enter Tryd.func81, Tryd.ntmps81
        go_wp2
        go_ret
        exact ⟨by rw [← hq.out, bs_of]; rfl, Below.refl _ _⟩

end Go.Proofs.YtiiaamkmnbegdaaDoor
