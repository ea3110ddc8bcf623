/- Walks: what the library's stable sort is made of: two neighbouring pieces merged. -/
import Derived.Test.YtdapnemcdgjeeaaDoorSrt3
import Derived.Deep.CutRange
set_option maxRecDepth 100000
set_option linter.unusedVariables false
set_option linter.unusedSimpArgs false
namespace Go.Proofs.YtdapnemcdgjeeaaDoor.Srt
open Go.RowKit Go.Proofs.YtdapnemcdgjeeaaDoor.Stb
variable {α : Type}

theorem rot_no (f : Nat → α) (m b : Nat) : rot f m m b = f := by
  funext k
  unfold rot
  repeat' split
  all_goals first | rfl | (exfalso; omega) | (congr 1; omega)
theorem rot_no2 (f : Nat → α) (a m : Nat) : rot f a m m = f := by
  funext k
  unfold rot
  repeat' split
  all_goals first | rfl | (exfalso; omega) | (congr 1; omega)

set_option maxHeartbeats 4000000 in
theorem merge_any (val : α → Value) (lt : α → α → Bool) (hs : SWO lt) (W0 : World) (B N c : Nat) (kp wp : Value) (hC : CmpOk val lt W0 B kp wp) (hN : N ≤ 1099511627776) : ∀ (n : Nat) (f : Nat → α) (W : World) (a m b : Nat), b - a ≤ n → RS val W0 B N f W → a < m → m < b → b ≤ N → SortedOn lt f a m → SortedOn lt f m b →
    Calls Tryd.prog 51 #[.slice (some ⟨B, 0, none⟩) N c, .int .i64 a, .int .i64 m, .int .i64 b, .func (.func 41) #[] #[kp, wp]] W (Merged val lt W0 B N f a b) := by
  intro n
  induction n with
  | zero => intro f W a m b h _ h1 h2; omega
  | succ n ih =>
  intro f W a m b hn hR ham hmb hb s1 s2
  by_cases x1 : m ≤ a + 1
  · exact merge_left val lt hs W0 B N c f W a m b kp wp hC hR ham x1 hmb hb hN s2
  by_cases x2 : b ≤ m + 1
  · exact merge_right val lt hs W0 B N c f W a m b kp wp hC hR (by omega) hmb x2 hb hN s1
  obtain ⟨mid, hmid⟩ : ∃ mid, mid = (a + b) / 2 := ⟨_, rfl⟩
  have he : ((a : Int) + (b : Int)) / 2 = (mid : Int) := by omega
  have hm1 : a < mid := by omega
  have hm2 : mid < b := by omega
  obtain ⟨st0, hst⟩ : ∃ st0, st0 = if m > mid then mid + m - b else a := ⟨_, rfl⟩
  obtain ⟨r0, hr0⟩ : ∃ r0, r0 = if m > mid then mid else m := ⟨_, rfl⟩
  have q1 : a ≤ st0 := by split at hst <;> omega
  have q2 : st0 ≤ r0 := by split at hst <;> split at hr0 <;> omega
  have q3 : r0 ≤ m := by split at hr0 <;> omega
  have q4 : r0 ≤ mid := by split at hr0 <;> omega
  have q5 : mid + m ≤ st0 + b := by split at hst <;> omega
  have hcase : (mid < m ∧ (st0 : Int) = (mid : Int) + (m : Int) - (b : Int) ∧ (r0 : Int) = (mid : Int)) ∨ (¬ mid < m ∧ (st0 : Int) = (a : Int) ∧ (r0 : Int) = (m : Int)) := by
    by_cases h : mid < m
    · rw [if_pos h] at hst hr0; left; omega
    · rw [if_neg h] at hst hr0; right; omega
  have hsr := Lib.hid (And.intro hst hr0)
  replace hmid := Lib.hid hmid
  replace hcase := Lib.hid hcase
  have hA : ((m : Int) - (a : Int) == 1) = false := by simp; omega
  have hB : ((b : Int) - (m : Int) == 1) = false := by simp; omega
  clear hst hr0
  go_enter Tryd.func51, Tryd.ntmps51
  go_upto_if 140 with fail
  go_cut [20, 21] from 141 to 146 (fun s r W' => s = .int .i64 (st0 : Int) ∧ r = .int .i64 (r0 : Int) ∧ W' = W)
  case first =>
    rcases hcase.out with ⟨hg, e1, e2⟩ | ⟨hg, e1, e2⟩
    · have hG : decide ((m : Int) > (mid : Int)) = true := by simp; omega
      replace e1 := Lib.hid e1
      replace e2 := Lib.hid e2
      go_wp2_with fail
      go_meet
      exact ⟨by rw [e1.out], by rw [e2.out], rfl⟩
    · have hG : decide ((m : Int) > (mid : Int)) = false := by simp; omega
      replace e1 := Lib.hid e1
      replace e2 := Lib.hid e2
      go_wp2_with fail
      go_meet
      exact ⟨by rw [e1.out], by rw [e2.out], rfl⟩
  case rest =>
  obtain ⟨rfl, rfl, hwc⟩ := hcut
  subst hwc
  go_wp2_with fail
  go_loopw [20, 21] (fun iv jv wr => ∃ i j : Nat, iv = .int .i64 (i : Int) ∧ jv = .int .i64 (j : Int) ∧ st0 ≤ i ∧ i ≤ j ∧ j ≤ r0 ∧ RS val W0 B N f wr ∧ Hid ((i = st0 ∨ lt (f (mid + m - i)) (f (i - 1)) = false) ∧ (j = r0 ∨ lt (f (mid + m - 1 - j)) (f j) = true))) (fun iv jv _ => (intOf jv).toNat - (intOf iv).toNat)
  case atStart => exact ⟨st0, r0, rfl, rfl, by omega, by omega, by omega, hR, Lib.hid ⟨.inl rfl, .inl rfl⟩⟩
  case round =>
  obtain ⟨i, j, rfl, rfl, hmi, hij, hjb, hr, hF⟩ := hrel
  by_cases hlt : i < j
  · have hlB : decide ((i : Int) < (j : Int)) = true := by simp; omega
    obtain ⟨h, hh⟩ : ∃ h, h = (i + j) / 2 := ⟨_, rfl⟩
    have heh : ((i : Int) + (j : Int)) / 2 = (h : Int) := by omega
    have h1 : i ≤ h := by omega
    have h2 : h < j := by omega
    clear hh
    obtain ⟨p, hp⟩ : ∃ p, p = mid + m - 1 - h := ⟨_, rfl⟩
    have hp' : (mid : Int) + (m : Int) - 1 - (h : Int) = (p : Int) := by omega
    have hpN : p < N := by omega
    have e9 : f (mid + m - (h + 1)) = f p := by rw [show mid + m - (h + 1) = p by omega]
    have e8 : f (mid + m - 1 - h) = f p := by rw [hp]
    replace e9 := Lib.hid e9
    replace e8 := Lib.hid e8
    have c0 := hr.cell p hpN
    have c1 := hr.cell h (by omega)
    obtain ⟨p0, n0, q0, v0⟩ := hr.sl (f p)
    obtain ⟨p1, n1, q1, v1⟩ := hr.sl (f h)
    have i2 : (0 : Int) ≤ (h : Int) := by omega
    have i3 : (h : Int) < (N : Int) := by omega
    have i4 : (0 : Int) ≤ (p : Int) := by omega
    have i5 : (p : Int) < (N : Int) := by omega
    have w2 : IntKind.i64.wrap (p : Int) = (p : Int) := IntWalk.i64_in _ (by omega)
    have w3 : wrap64 (p : Int) = (p : Int) := by unfold wrap64; omega
    rw [v0] at c0
    rw [v1] at c1
    have H0 : wr.cell? ⟨B, p, none⟩ = some (.slice p0 n0 q0) ∧ wr.cell? ⟨B, h, none⟩ = some (.slice p1 n1 q1) ∧ RS val W0 B N f wr := ⟨c0, c1, hr⟩
    replace v0 := Lib.hid v0
    replace v1 := Lib.hid v1
    clear hp hr c0 c1 hR ih
    cases hl : lt (f p) (f h) with
    | true =>
      replace hl := Lib.hid hl
      go_wp2_with fail
      go_region_held3 (fun W => W.cell? ⟨B, p, none⟩ = some (.slice p0 n0 q0) ∧ W.cell? ⟨B, h, none⟩ = some (.slice p1 n1 q1) ∧ RS val W0 B N f W) (first | assumption | exact keepT (by assumption) (by assumption) | exact keepT0 (by assumption)) (first
        | (go_at_call 41; refine (hC.yesT (by assumption) v0.out v1.out hl.out).mono ?_; rintro e w3 ⟨d, rfl, hd, hb3⟩))
      rename_i hq
      go_wp2
      go_roundw
      case rel => exact ⟨i, h, rfl, rfl, by omega, by omega, by omega, hq.2.2, Lib.hid ⟨hF.out.1, .inr (by rw [e8.out]; exact hl.out)⟩⟩
      case measure => simp [intOf]; omega
    | false =>
      replace hl := Lib.hid hl
      go_wp2_with fail
      go_region_held3 (fun W => W.cell? ⟨B, p, none⟩ = some (.slice p0 n0 q0) ∧ W.cell? ⟨B, h, none⟩ = some (.slice p1 n1 q1) ∧ RS val W0 B N f W) (first | assumption | exact keepT (by assumption) (by assumption) | exact keepT0 (by assumption)) (first
        | (go_at_call 41; refine (hC.noT (by assumption) v0.out v1.out hl.out).mono ?_; rintro e w3 ⟨d, rfl, hd, hb3⟩))
      rename_i hq
      go_wp2
      go_roundw
      case rel => exact ⟨h + 1, j, by go_num, rfl, by omega, by omega, by omega, hq.2.2, Lib.hid ⟨.inr (by rw [Nat.add_sub_cancel, e9.out]; exact hl.out), hF.out.2⟩⟩
      case measure => simp [intOf]; omega
  obtain rfl : i = j := by omega
  have hlB : decide ((i : Int) < (i : Int)) = false := by simp
  have hFo : Stb.Found lt f (mid + m) (if m > mid then mid + m - b else a) (if m > mid then mid else m) i := by
    rw [← hsr.out.1, ← hsr.out.2]
    exact ⟨hmi, hjb, hF.out.1, hF.out.2⟩
  have hends := found_ends ham hmb hmid.out hFo
  have hsd := found_sorted ham hmb hmid.out s1 s2 hFo
  have hx := found_cross hs ham hmb hmid.out s1 s2 hFo
  have hmv := found_moved hs ham hmb hmid.out s1 s2 hFo
  obtain ⟨E, hE⟩ : ∃ E, E = mid + m - i := ⟨_, rfl⟩
  rw [← hE] at hends hsd hx hmv
  have hE' : (mid : Int) + (m : Int) - (i : Int) = (E : Int) := by omega
  replace hsd := Lib.hid hsd
  replace hx := Lib.hid hx
  replace hmv := Lib.hid hmv
  replace hE := Lib.hid hE
  clear hFo hF hR hsr
  have hrs := hr
  clear hr
  -- TAIL
  go_upto_region 39 with fail
  go_cut [185] from 178 to 185 (fun v W => v = .bool (decide (i < m ∧ m < E)) ∧ RS val W0 B N f W)
  case first =>
    by_cases h1 : i < m
    · have b1 : decide ((i : Int) < (m : Int)) = true := by simp; omega
      by_cases h2 : m < E
      · have b2 : decide ((m : Int) < (E : Int)) = true := by simp; omega
        have hd : decide (i < m ∧ m < E) = true := decide_eq_true ⟨h1, h2⟩
        replace hd := Lib.hid hd
        go_wp2_with fail
        go_meet
        exact ⟨by rw [hd.out], hrs⟩
      · have b2 : decide ((m : Int) < (E : Int)) = false := by simp; omega
        have hd : decide (i < m ∧ m < E) = false := decide_eq_false (fun h => h2 h.2)
        replace hd := Lib.hid hd
        go_wp2_with fail
        go_meet
        exact ⟨by rw [hd.out], hrs⟩
    · have b1 : decide ((i : Int) < (m : Int)) = false := by simp; omega
      have hd : decide (i < m ∧ m < E) = false := decide_eq_false (fun h => h1 h.1)
      replace hd := Lib.hid hd
      go_wp2_with fail
      go_meet
      exact ⟨by rw [hd.out], hrs⟩
  case rest =>
  clear hrs
  obtain ⟨rfl, hrs⟩ := hcut
  go_upto_if 185 with fail
  go_cut [] from 185 to 191 (fun W' => RS val W0 B N (rot f i m E) W')
  case first =>
    by_cases hrr : i < m ∧ m < E
    · have hd : decide (i < m ∧ m < E) = true := decide_eq_true hrr
      have hc := rotate_any val W0 B N c f _ i m E (.func (.func 41) #[] #[kp, wp]) hrs hrr.1 hrr.2 (by omega) hN
      rw [hd]
      go_wp2_with (go_at_call 65; refine hc.mono ?_; rintro e w1 ⟨rfl, hr1⟩)
      go_meet
      exact hr1
    · have hd : decide (i < m ∧ m < E) = false := decide_eq_false hrr
      rw [hd]
      go_wp2_with fail
      go_meet
      by_cases h1 : i < m
      · rw [show E = m by omega, rot_no2]; exact hrs
      · rw [show i = m by omega, rot_no]; exact hrs
  case rest =>
  clear hrs
  obtain ⟨g, hg⟩ : ∃ g, g = rot f i m E := ⟨_, rfl⟩
  rw [← hg] at hcut
  have hgm := hmv.out
  have hgx := hx.out
  have hgs := hsd.out
  rw [← hg] at hgm hgx hgs
  clear hg hmv hx hsd
  replace hgm := Lib.hid hgm
  replace hgx := Lib.hid hgx
  replace hgs := Lib.hid hgs
  have hrs := hcut
  clear hcut
  go_upto_region 41 with fail
  go_cut [199] from 192 to 199 (fun v W => v = .bool (decide (a < i ∧ i < mid)) ∧ RS val W0 B N g W)
  case first =>
    by_cases h1 : a < i
    · have b1 : decide ((a : Int) < (i : Int)) = true := by simp; omega
      by_cases h2 : i < mid
      · have b2 : decide ((i : Int) < (mid : Int)) = true := by simp; omega
        have hd : decide (a < i ∧ i < mid) = true := decide_eq_true ⟨h1, h2⟩
        replace hd := Lib.hid hd
        go_wp2_with fail
        go_meet
        exact ⟨by rw [hd.out], hrs⟩
      · have b2 : decide ((i : Int) < (mid : Int)) = false := by simp; omega
        have hd : decide (a < i ∧ i < mid) = false := decide_eq_false (fun h => h2 h.2)
        replace hd := Lib.hid hd
        go_wp2_with fail
        go_meet
        exact ⟨by rw [hd.out], hrs⟩
    · have b1 : decide ((a : Int) < (i : Int)) = false := by simp; omega
      have hd : decide (a < i ∧ i < mid) = false := decide_eq_false (fun h => h1 h.1)
      replace hd := Lib.hid hd
      go_wp2_with fail
      go_meet
      exact ⟨by rw [hd.out], hrs⟩
  case rest =>
  clear hrs
  obtain ⟨rfl, hrs⟩ := hcut
  go_upto_if 199 with fail
  go_cut [] from 199 to 205 (fun W' => ∃ g1, RS val W0 B N g1 W' ∧ Moved lt g g1 a mid ∧ SortedOn lt g1 a mid)
  case first =>
    by_cases hrr : a < i ∧ i < mid
    · have hd : decide (a < i ∧ i < mid) = true := decide_eq_true hrr
      have hc := ih g _ a i mid (by omega) hrs hrr.1 hrr.2 (by omega) hgs.out.1 hgs.out.2.1
      rw [hd]
      go_wp2_with (go_at_call 51; refine hc.mono ?_; rintro e w1 ⟨rfl, hr1⟩)
      go_meet
      exact hr1
    · have hd : decide (a < i ∧ i < mid) = false := decide_eq_false hrr
      have hsa : SortedOn lt g a mid := by
        by_cases h1 : a < i
        · have e : i = mid := by omega
          rw [← e]; exact hgs.out.1
        · have e : a = i := by omega
          rw [e]; exact hgs.out.2.1
      replace hsa := Lib.hid hsa
      rw [hd]
      go_wp2_with fail
      go_meet
      exact ⟨g, hrs, Moved.refl _ _ _ _, hsa.out⟩
  case rest =>
  clear hrs
  obtain ⟨g1, hrs, hm1', hs1'⟩ := hcut
  have hgs3 : SortedOn lt g1 mid E := hgs.out.2.2.1.congr fun k hk _ => hm1'.1 k (.inr hk)
  have hgs4 : SortedOn lt g1 E b := hgs.out.2.2.2.congr fun k hk _ => hm1'.1 k (.inr (by omega))
  have hfin : ∀ g2, Moved lt g1 g2 mid b → SortedOn lt g2 mid b → Moved lt f g2 a b ∧ SortedOn lt g2 a b := fun g2 h1 h2 => by
    obtain ⟨k1, k2⟩ := halves (by omega) (by omega) hgx.out hm1' hs1' h1 h2
    exact ⟨hgm.out.trans k1, k2⟩
  replace hgs3 := Lib.hid hgs3
  replace hgs4 := Lib.hid hgs4
  replace hfin := Lib.hid hfin
  clear hm1' hs1' hgx hgs hgm
  go_upto_region 43 with fail
  go_cut [213] from 206 to 213 (fun v W => v = .bool (decide (mid < E ∧ E < b)) ∧ RS val W0 B N g1 W)
  case first =>
    by_cases h1 : mid < E
    · have b1 : decide ((mid : Int) < (E : Int)) = true := by simp; omega
      by_cases h2 : E < b
      · have b2 : decide ((E : Int) < (b : Int)) = true := by simp; omega
        have hd : decide (mid < E ∧ E < b) = true := decide_eq_true ⟨h1, h2⟩
        replace hd := Lib.hid hd
        go_wp2_with fail
        go_meet
        exact ⟨by rw [hd.out], hrs⟩
      · have b2 : decide ((E : Int) < (b : Int)) = false := by simp; omega
        have hd : decide (mid < E ∧ E < b) = false := decide_eq_false (fun h => h2 h.2)
        replace hd := Lib.hid hd
        go_wp2_with fail
        go_meet
        exact ⟨by rw [hd.out], hrs⟩
    · have b1 : decide ((mid : Int) < (E : Int)) = false := by simp; omega
      have hd : decide (mid < E ∧ E < b) = false := decide_eq_false (fun h => h1 h.1)
      replace hd := Lib.hid hd
      go_wp2_with fail
      go_meet
      exact ⟨by rw [hd.out], hrs⟩
  case rest =>
  clear hrs
  obtain ⟨rfl, hrs⟩ := hcut
  by_cases hrr : mid < E ∧ E < b
  · have hd : decide (mid < E ∧ E < b) = true := decide_eq_true hrr
    have hc := ih g1 _ mid E b (by omega) hrs hrr.1 hrr.2 (by omega) hgs3.out hgs4.out
    rw [hd]
    go_wp2_with (go_at_call 51; refine hc.mono ?_; rintro e w1 ⟨rfl, g2, hr2, hm2', hs2'⟩)
    go_end0
    exact ⟨rfl, g2, hr2, hfin.out g2 hm2' hs2'⟩
  · have hd : decide (mid < E ∧ E < b) = false := decide_eq_false hrr
    have hsa : SortedOn lt g1 mid b := by
      by_cases h1 : mid < E
      · have e : E = b := by omega
        rw [← e]; exact hgs3.out
      · have e : mid = E := by omega
        rw [e]; exact hgs4.out
    replace hsa := Lib.hid hsa
    rw [hd]
    go_wp2_with fail
    go_end0
    exact ⟨rfl, g1, hrs, hfin.out g1 (Moved.refl _ _ _ _) hsa.out⟩

end Go.Proofs.YtdapnemcdgjeeaaDoor.Srt
