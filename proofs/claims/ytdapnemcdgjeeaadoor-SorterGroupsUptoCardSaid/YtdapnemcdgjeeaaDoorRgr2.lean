/- Walks: the reference's Groups. -/
import Derived.Test.YtdapnemcdgjeeaaDoorRgrp
set_option maxRecDepth 100000
set_option linter.unusedVariables false
set_option linter.unusedSimpArgs false
namespace Go.Proofs.YtdapnemcdgjeeaaDoor
open Go.RowKit
open Go.Proofs.YtdapnemcdgjeeaaDoor.Ord (atV firstV standV mayRow MRow)
open Go.Proofs.YtdapnemcdgjeeaaDoor.Stb (seg runsN)

theorem GPre.there {w1 W : World} {X n c : Nat} {u : Value} {gs : List (List (List Val.V))} {g : List (List Val.V)} (hg : GPre w1 W (.slice (some ⟨X, 0, none⟩) n c) n gs g u) : ∃ v, W.cell? ⟨X, n - 1, none⟩ = some v := by
  obtain ⟨h, cs, h1, h2, h3, _⟩ := hg
  have hu : cs[n - 1]? = some cs[n - 1] := List.getElem?_eq_getElem (by omega)
  exact ⟨cs[n - 1], by rw [← hu]; exact h1.cellAt (n - 1) (by omega)⟩
set_option maxHeartbeats 4000000 in
theorem rgroups_is (p : Option Addr) (N c : Nat) (rows : List (List Val.V)) (width : Int) (w : World) (hR : RowsAt w p N rows) (hsl : SlOk p N c) (hB : RowsB rows) (hM : ∀ r ∈ rows, mayRow r) :
    Calls Tryd.prog 17 #[.slice p N c, .int .i64 width] w (GroupsP (groupsV width rows) w) := by
  have hlen := hR.1
  have hN : N ≤ 8388608 := by rw [← hlen]; exact hB.1
  obtain ⟨S, hS⟩ : ∃ S, sortV [] width rows = S := ⟨_, rfl⟩
  have hSl : S.length = N := by rw [← hS, sort_len, hlen]
  have hSB : RowsB S := by rw [← hS]; exact sort_b hB
  have hG : groupsV width rows = runsN (likeV width) (fun k => S.getD k []) N := by unfold groupsV; rw [hS, hSl]
  obtain ⟨f, hf⟩ : ∃ f : Nat → List Val.V, (fun k => S.getD k []) = f := ⟨_, rfl⟩
  have hff : ∀ k r, S[k]? = some r → f k = r := by intro k r h; rw [← hf]; simp [List.getD, h]
  have hs := rsort_is none 0 0 [] width (by omega) N p N c rows w (Nat.le_refl _) hR hsl hB hM ⟨rfl, .inl rfl⟩
  rw [hf] at hG
  rw [hS] at hs
  rw [hG]
  replace hG := Lib.hid hG
  replace hS := Lib.hid hS
  replace hSl := Lib.hid hSl
  replace hSB := Lib.hid hSB
  replace hff := Lib.hid hff
  clear hB hM hlen hf hR hsl
  go_enter Tryd.func17, Tryd.ntmps17
  go_wp2_with (go_at_call 31; refine hs.mono ?_; rintro e w1 ⟨q1, c1, rfl, ho1, hb1⟩)
  have hR1 : RowsAt w1 q1 N S := ho1.rows
  clear hs ho1
  go_loopw [6, 7] (fun ov iv wr => ∃ (q : Option Addr) (n co i : Nat), ov = .slice q n co ∧ iv = .int .i64 (i : Int) ∧ i ≤ N ∧ GR w1 wr (.slice q n co) n (runsN (likeV width) f i) ∧ Below w1.heap.size w1 wr) (fun _ iv _ => N - (intOf iv).toNat)
  case atStart => exact ⟨none, 0, 0, 0, rfl, by go_num, by omega, GR.nil _ _, Below.refl _ _⟩
  case round =>
    obtain ⟨q, n, co, i, rfl, rfl, hi, hgr, hb⟩ := hrel
    by_cases hlt : i < N
    · have hlB : decide ((i : Int) < (N : Int)) = true := by simp; omega
      obtain ⟨ra, b, off, qa, ca, hra, rfl, hbl, ka0, hsa, hva⟩ := hR1.at hlt
      have ka : wr.cell? ⟨b, off + i, none⟩ = some (.slice qa ra.length ca) := (hb.cell (p := ⟨b, _, none⟩) hbl).trans ka0
      have hel : RElem w1 (.slice qa ra.length ca) ra := ⟨qa, ca, rfl, hsa, hva⟩
      have hfa := hff.out i ra hra
      have hni : n ≤ i := by
        obtain ⟨_, _, _, _, h3, _⟩ := id hgr
        rw [← h3]
        exact (Stb.runs_len _ _ _).1
      have i0 : (0 : Int) ≤ (i : Int) := by omega
      have i1 : (i : Int) < (N : Int) := by omega
      by_cases h0 : i = 0
      · have hg0 : decide ((i : Int) > 0) = false := by simp; omega
        have hg1 : ¬ 0 < i := by omega
        have hrn := Stb.runs_new (e := likeV width) (f := f) (i := i) (fun h => by omega)
        rw [hfa] at hrn
        replace hrn := Lib.hid hrn
        replace h0 := Lib.hid h0
        clear hfa hra
        go_wp2_with fail
        go_quiet (fail)
        have hb3 := below_drewN (Below.refl wr.heap.size wr) nq
        have hgr3 := hgr.below hb3
        have ka3 := (hb3.cell (p := ⟨b, off + i, none⟩) (Nat.lt_of_lt_of_le hbl hb.size)).trans ka
        generalize wr.drewN nq = W3 at hb3 hgr3 ka3 ⊢
        have hb13 := hb.trans (hb3.mono hb.size)
        go_wp2_with (at_builtin; go_must (refine wpList_newRun (w1 := w1) rfl _ _ rfl _ n _ rfl hgr3 hb13 _ ra hel rfl (by omega) ?_); intro q4 c4 w4 hgr4 hb4)
        go_roundw
        case rel => exact ⟨q4, n + 1, c4, i + 1, rfl, by go_num, by omega, by rw [hrn.out]; exact hgr4, hb13.trans hb4⟩
        case measure => simp [intOf]; omega
      · have hg0 : decide ((i : Int) > 0) = true := by simp; omega
        have hg1 : 0 < i := by omega
        obtain ⟨rp, b', off', qp, cp, hrp, e1, _, kp0, hsp, hvp⟩ := hR1.at (k := i - 1) (by omega)
        injection e1 with e1; injection e1 with e1 e2
        subst e1 e2
        have kp : wr.cell? ⟨b, off + (i - 1), none⟩ = some (.slice qp rp.length cp) := (hb.cell (p := ⟨b, _, none⟩) hbl).trans kp0
        have hfp := hff.out (i - 1) rp hrp
        have hlp := (hSB.out.2 rp (List.mem_of_getElem? hrp)).1
        have hla := (hSB.out.2 ra (List.mem_of_getElem? hra)).1
        have hw1 : IntKind.i64.wrap ((i : Int) - 1) = (i : Int) - 1 := IntWalk.i64_in _ (by omega)
        have hw2 : wrap64 ((i : Int) - 1) = (i : Int) - 1 := by unfold wrap64; omega
        have m0 : (0 : Int) ≤ (i : Int) - 1 := by omega
        have m1 : (i : Int) - 1 < (N : Int) := by omega
        have m2 : (1 : Int) ≤ (i : Int) := by omega
        have m3 : 1 ≤ i := by omega
        have m4 : i - 1 < N := by omega
        have m5 : ((i : Int) - 1).toNat = i - 1 := by omega
        have l1 : b < wr.heap.size := Nat.lt_of_lt_of_le hbl hb.size
        have hvpr := hvp.below hb
        have hvar := hva.below hb
        have hlk : likeV width (f (i - 1)) (f i) = decide (firstV rp width = firstV ra width) := by rw [hfp, hfa]; rfl
        have H0 : wr.cell? ⟨b, off + (i - 1), none⟩ = some (.slice qp rp.length cp) ∧ wr.cell? ⟨b, off + i, none⟩ = some (.slice qa ra.length ca) ∧ Below wr.heap.size wr wr := ⟨kp, ka, Below.refl _ _⟩
        clear hfp hrp hra kp kp0 hsp hvp h0
        cases hd : decide (firstV rp width = firstV ra width) with
        | false =>
          rw [hd] at hlk
          have hrn := Stb.runs_new (e := likeV width) (f := f) (i := i) (fun h => by rw [hlk] at h; exact absurd h.2 (by simp))
          rw [hfa] at hrn
          replace hrn := Lib.hid hrn
          replace hd := Lib.hid hd
          clear hlk hfa
          go_wp2_with fail
          go_region_held3 (fun W => W.cell? ⟨b, off + (i - 1), none⟩ = some (.slice qp rp.length cp) ∧ W.cell? ⟨b, off + i, none⟩ = some (.slice qa ra.length ca) ∧ Below wr.heap.size wr W) (first | assumption | exact keepC2 l1 l1 (by assumption) (by assumption) | exact keepC20 (by assumption)) (first
            | (go_at_call_of 32 (Value.slice qp rp.length cp); have hSS := (by assumption : _ ∧ _ ∧ Below wr.heap.size wr _); refine (rfirst_is qp rp.length cp rp width _ (hvpr.below hSS.2.2) hlp).mono ?_; rintro e w3 ⟨⟨q3, M3, c3, rfl, hM3, F3⟩, hb3⟩; clear hSS)
            | (go_at_call_of 32 (Value.slice qa ra.length ca); have hSS := (by assumption : _ ∧ _ ∧ Below wr.heap.size wr _); refine (rfirst_is qa ra.length ca ra width _ (hvar.below hSS.2.2) hla).mono ?_; rintro e w4 ⟨⟨q4, M4, c4, rfl, hM4, F4⟩, hb4⟩; clear hSS)
            | (go_at_call 27; refine (sameRow_is q3 M3 c3 q4 M4 c4 (firstV rp width) (firstV ra width) _ (F3.below hb4) F4 (by omega) false hd).mono ?_; rintro e w5 ⟨rfl, hb5⟩))
          rename_i hS3
          obtain ⟨_, ka3, hb3w⟩ := hS3
          have hgr3 := hgr.below hb3w
          have hb13 := hb.trans (hb3w.mono hb.size)
          go_wp2_with (at_builtin; go_must (refine wpList_newRun (w1 := w1) rfl _ _ rfl _ n _ rfl hgr3 hb13 _ ra hel rfl (by omega) ?_); intro q4 c4 w6 hgr4 hb6)
          go_roundw
          case rel => exact ⟨q4, n + 1, c4, i + 1, rfl, by go_num, by omega, by rw [hrn.out]; exact hgr4, hb13.trans hb6⟩
          case measure => simp [intOf]; omega
        | true =>
          rw [hd] at hlk
          have hn0 : 0 < n := by
            obtain ⟨_, _, _, _, h3, _⟩ := id hgr
            rw [← h3]
            exact (Stb.runs_len _ _ _).2 hg1
          replace hlk := Lib.hid hlk
          replace hd := Lib.hid hd
          replace hfa := Lib.hid hfa
          go_wp2_with fail
          go_region_held3 (fun W => W.cell? ⟨b, off + (i - 1), none⟩ = some (.slice qp rp.length cp) ∧ W.cell? ⟨b, off + i, none⟩ = some (.slice qa ra.length ca) ∧ Below wr.heap.size wr W) (first | assumption | exact keepC2 l1 l1 (by assumption) (by assumption) | exact keepC20 (by assumption)) (first
            | (go_at_call_of 32 (Value.slice qp rp.length cp); have hSS := (by assumption : _ ∧ _ ∧ Below wr.heap.size wr _); refine (rfirst_is qp rp.length cp rp width _ (hvpr.below hSS.2.2) hlp).mono ?_; rintro e w3 ⟨⟨q3, M3, c3, rfl, hM3, F3⟩, hb3⟩; clear hSS)
            | (go_at_call_of 32 (Value.slice qa ra.length ca); have hSS := (by assumption : _ ∧ _ ∧ Below wr.heap.size wr _); refine (rfirst_is qa ra.length ca ra width _ (hvar.below hSS.2.2) hla).mono ?_; rintro e w4 ⟨⟨q4, M4, c4, rfl, hM4, F4⟩, hb4⟩; clear hSS)
            | (go_at_call 27; refine (sameRow_is q3 M3 c3 q4 M4 c4 (firstV rp width) (firstV ra width) _ (F3.below hb4) F4 (by omega) true hd).mono ?_; rintro e w5 ⟨rfl, hb5⟩))
          rename_i hS3
          obtain ⟨_, ka3, hb3w⟩ := hS3
          have hgr3 := hgr.below hb3w
          have hb13 := hb.trans (hb3w.mono hb.size)
          obtain ⟨gs0, g, u, X, cX, hgs, hpre, hv, hXb, hXl, hcX⟩ := hgr3.pre hn0
          injection hv with v1 v2 v3
          subst v1 v3
          obtain ⟨bu, cu, rfl⟩ := hpre.shape
          have hrn := Stb.runs_on (e := likeV width) (f := f) (i := i) ⟨hg1, hlk.out⟩ hgs
          rw [hfa.out] at hrn
          have hgl : g.length ≤ 8388608 := by
            have h1 := congrArg List.length (Stb.runs_flat (likeV width) f i)
            rw [hgs, List.flatten_append, List.length_append] at h1
            simp [seg] at h1
            omega
          have n0 : (0 : Int) ≤ (n : Int) - 1 := by omega
          have n1 : (n : Int) - 1 < (n : Int) := by omega
          have n2 : (1 : Int) ≤ (n : Int) := by omega
          have n3 : 1 ≤ n := by omega
          have n4 : n - 1 < n := by omega
          have n5 : ((n : Int) - 1).toNat = n - 1 := by omega
          have n6 : IntKind.i64.wrap ((n : Int) - 1) = (n : Int) - 1 := IntWalk.i64_in _ (by omega)
          replace hrn := Lib.hid hrn
          replace hgs := Lib.hid hgs
          clear hgr hgr3
          go_wp2_with fail
          go_region_law (first
            | (refine step_pushLast (w1 := w1) (by rfl) _ _ (by rfl) _ _ n gs0 g (by rfl) hpre hb13 _ ra hel (by rfl) (by omega) ?_; intro u' w7 hpre7 hb7; obtain ⟨bu', cu', rfl⟩ := hpre7.shape; have hfree := hpre7.free (n - 1); obtain ⟨old, hold⟩ := hpre7.there))
          all_goals (
            have hgr8 := hpre7.set
            rw [show (g ++ [ra]).length = g.length + 1 by simp] at hgr8
            have hb8 := hb13.trans (hb7.setCell (p := ⟨X, n - 1, none⟩) hXb (Value.slice (some ⟨bu', 0, none⟩) (g.length + 1) cu'))
            go_wp2
            go_roundw
            case rel => exact ⟨some ⟨X, 0, none⟩, n, co, i + 1, rfl, by go_num, by omega, by rw [hrn.out]; exact hgr8, hb8⟩
            case measure => simp [intOf]; omega)
    · have hlB : decide ((i : Int) < (N : Int)) = false := by simp; omega
      obtain rfl : i = N := by omega
      go_wp2
      go_ret
      exact ⟨q, n, co, rfl, hgr.at hb, hb1.trans (hb.mono hb1.size)⟩
end Go.Proofs.YtdapnemcdgjeeaaDoor
