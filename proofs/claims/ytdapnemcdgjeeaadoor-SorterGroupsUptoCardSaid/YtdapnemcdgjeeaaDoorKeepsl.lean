/- The law SorterKeeps. -/
import Derived.Test.YtdapnemcdgjeeaaDoorGrpA
set_option maxRecDepth 100000
set_option linter.unusedVariables false
set_option linter.unusedSimpArgs false
namespace Go.Proofs.YtdapnemcdgjeeaaDoor
open Go.RowKit
open Go.Proofs.YtdapnemcdgjeeaaDoor.Ord (atV firstV standV mayRow MRow ltR ltR_swo lt_apart)
open Go.Proofs.YtdapnemcdgjeeaaDoor.Stb (seg runsN Cut isort)

theorem mrows {rows : List (List Val.V)} (h : ∀ r ∈ rows, mayRow r) : ∃ l : List MRow, l.map (fun m => m.1) = rows := by
  induction rows with
  | nil => exact ⟨[], rfl⟩
  | cons r rows ih =>
    obtain ⟨l, hl⟩ := ih fun x hx => h x (List.mem_cons_of_mem _ hx)
    exact ⟨⟨r, h r List.mem_cons_self⟩ :: l, congrArg (fun x => r :: x) hl⟩
theorem sort_mrows (ks : List Ord.Key) (width : Int) (l : List MRow) : sortV ks width (l.map fun m => m.1) = (isort (ltR ks width) l).map fun m => m.1 := (isort_map (lt' := ltV ks width) (fun m : MRow => m.1) (fun _ _ => rfl) l).symm
theorem sort_twice (ks : List Ord.Key) (width : Int) {rows : List (List Val.V)} (h : ∀ r ∈ rows, mayRow r) : sortV ks width (sortV ks width rows) = sortV ks width rows := by
  obtain ⟨l, rfl⟩ := mrows h
  rw [sort_mrows, sort_mrows, Stb.isort_sorted (Stb.isort_is_sorted (ltR_swo ks width) l)]
theorem sort_back (ks : List Ord.Key) (width : Int) {rows : List (List Val.V)} (h : ∀ r ∈ rows, mayRow r) (hl : ∀ r ∈ rows, (r.length : Int) ≤ width) : sortV ks width rows.reverse = sortV ks width rows := by
  obtain ⟨l, rfl⟩ := mrows h
  rw [← List.map_reverse, sort_mrows, sort_mrows]
  congr 1
  refine Stb.isort_on (ltR_swo ks width) (List.reverse_perm l) fun a ha b hb h1 h2 => ?_
  exact lt_apart ks width a b (hl a.1 (List.mem_map_of_mem (List.mem_reverse.1 ha))) (hl b.1 (List.mem_map_of_mem (List.mem_reverse.1 hb))) h1 h2
theorem sort_count (ks : List Ord.Key) (width : Int) (rows : List (List Val.V)) (r : List Val.V) : (sortV ks width rows).count r = rows.count r := (Stb.isort_perm _ rows).count_eq r
theorem groups_flat (width : Int) (rows : List (List Val.V)) : (groupsV width rows).flatten = sortV [] width rows := by
  unfold groupsV
  rw [Stb.runs_flat]
  exact seg_list _ _ fun k hk => by simp [List.getD, List.getElem?_eq_getElem hk]
theorem groups_ne (width : Int) (rows : List (List Val.V)) : ∀ g ∈ groupsV width rows, g ≠ [] := Stb.runs_ne _ _ _
theorem sort_b {ks : List Ord.Key} {width : Int} {rows : List (List Val.V)} (h : RowsB rows) : RowsB (sortV ks width rows) := ⟨by rw [sort_len]; exact h.1, fun r hr => h.2 r ((sort_mem ks width rows).1 hr)⟩
theorem TimesOk.later {w W : World} {p : Option Addr} {N c : Nat} {q : Option Addr} {n c' k : Nat} (h : TimesOk w p N c q n c' k) (hb : Below w.heap.size w W) : TimesOk W p N c q n c' k := ⟨fun W' hW => h.on W' (hb.trans (hW.mono hb.size))⟩
theorem take_flat {α : Type} (l : List (List α)) (i : Nat) : (l.take i).flatten.length ≤ l.flatten.length := by
  have := congrArg (fun x : List (List α) => x.flatten.length) (List.take_append_drop i l)
  simp only [List.flatten_append, List.length_append] at this
  omega
theorem flat_step {α : Type} {l : List (List α)} {i : Nat} {g : List α} (h : l[i]? = some g) : (l.take (i + 1)).flatten = (l.take i).flatten ++ g := by
  rw [List.take_add_one, h]
  simp
theorem drop_step {α : Type} {l : List α} {i : Nat} {r : α} (h : l[i]? = some r) : l.drop i = r :: l.drop (i + 1) := by
  obtain ⟨hi, rfl⟩ := List.getElem?_eq_some_iff.1 h
  exact List.drop_eq_getElem_cons hi

set_option maxHeartbeats 8000000 in
theorem sorter_keeps (T : Lib.PrintTabs) (p : Option Addr) (N c : Nat) (sk : Option Addr) (KN kc : Nat) (width : Int) (rows : List (List Val.V)) (ks : List Ord.Key) (w : World) (hR : RowsAt w p N rows) (hK : KeysAt w sk KN ks) (hB : RowsB rows) (hN : N ≤ 1048576) (hKN : KN ≤ 1048576) (hI : RowsI rows) (hT : Tabs T w) :
    Calls Tryd.prog 6 #[.slice p N c, .slice sk KN kc, .int .i64 width] w fun e w' => e = .returned (.bool true) ∧ Below w.heap.size w w' := by
  cases hm : mayRows rows with
  | false =>
    replace hB := Lib.hid hB
    replace hI := Lib.hid hI
    replace hT := Lib.hid hT
    replace hm := Lib.hid hm
    go_enter Tryd.func6, Tryd.ntmps6
    go_wp2_with (first
      | (go_at_call 9; refine (head_any T _ hT.out).mono ?_; rintro e w1 ⟨rfl, hb1⟩)
      | (go_at_call 15; refine (mayRows_is p N c rows _ (hR.below hb1) hB.out false hm).mono ?_; rintro e w2 ⟨rfl, hb2⟩))
    go_ret
    exact ⟨rfl, hb1.trans (hb2.mono hb1.size)⟩
  | true =>
    have hM := mayRows_all hm
    obtain ⟨S, hS⟩ : ∃ S, sortV ks width rows = S := ⟨_, rfl⟩
    have hMS : ∀ r ∈ S, mayRow r := fun r hr => hM r (by rw [← hS, sort_mem] at hr; exact hr)
    have hSS : sortV ks width S = S := by rw [← hS]; exact sort_twice ks width hM
    have hBS : RowsB S := by rw [← hS]; exact sort_b hB
    have hcS : ∀ r, S.count r = rows.count r := fun r => by rw [← hS]; exact sort_count ks width rows r
    have hbk := sort_back ks width hM
    rw [hS] at hbk
    have hlen := hR.1
    replace hbk := Lib.hid hbk
    replace hB := Lib.hid hB
    replace hI := Lib.hid hI
    replace hT := Lib.hid hT
    replace hm := Lib.hid hm
    replace hM := Lib.hid hM
    replace hS := Lib.hid hS
    replace hMS := Lib.hid hMS
    replace hSS := Lib.hid hSS
    replace hBS := Lib.hid hBS
    replace hcS := Lib.hid hcS
    replace hlen := Lib.hid hlen
    have tok1 : True := trivial
    go_enter Tryd.func6, Tryd.ntmps6
    go_wp2_with (first
      | (go_at_call 9; refine (head_any T _ hT.out).mono ?_; rintro e w1 ⟨rfl, hb1⟩)
      | (go_at_call 15; refine (mayRows_is p N c rows _ (hR.below hb1) hB.out true hm).mono ?_; rintro e w2 ⟨rfl, hb2'⟩; have hb2 := hb1.trans (hb2'.mono hb1.size))
      | (go_at_call 18; first
        | (have _t := tok1; have hs1 := ssort_is p N c rows sk KN kc ks width _ (hR.below hb2) hB.out hM.out (hK.below hb2) hKN; rw [hS.out] at hs1; refine hs1.mono ?_; clear hs1; rintro e w3 ⟨q3, c3, rfl, hs3, hR3, hb3'⟩; have hb3 := hb2.trans (hb3'.mono hb2.size); clear tok1)
        | (have hs1 := ssort_is q3 N c3 S sk KN kc ks width _ hR3 hBS.out hMS.out (hK.below hb3) hKN; rw [hSS.out] at hs1; refine hs1.mono ?_; clear hs1; rintro e w4 ⟨q4, c4, rfl, hs4, hR4, hb4'⟩; have hb4 := hb3.trans (hb4'.mono hb3.size)))
      | (go_at_call 10; refine (sameRows_is q4 N c4 q3 N c3 S S _ hR4 (hR3.below hb4') hBS.out true (Lib.hid (by simp))).mono ?_; rintro e w5 ⟨rfl, hb5'⟩; have hb5 := hb4.trans (hb5'.mono hb4.size)))
    have hRl := hR.below hb5
    have hSl : RowsAt w5 q3 N S := (hR3.below hb4').below hb5'
    have hKl := hK.below hb5
    have hT5 := hT.out.below hb5
    replace hT5 := Lib.hid hT5
    clear hR hR3 hR4 hK hb1 hb2 hb2' hb3 hb3' hb4 hb4' hb5' hs3 hs4
    go_loopw [8, 10, 11] (fun ov sv iv wr => ∃ (q : Option Addr) (n co m : Nat) (sm : Bool), ov = .slice q n co ∧ sv = .bool sm ∧ iv = .int .i64 ((m : Int) - 1) ∧ m ≤ N ∧ n ≤ N ∧ RowsOwn wr w5.heap.size (.slice q n co) n (rows.drop m).reverse ∧ Hid (sm = true → ∀ r ∈ rows.drop m, (r.length : Int) ≤ width) ∧ Below w5.heap.size w5 wr) (fun _ _ iv _ => (intOf iv + 1).toNat)
    case atStart => exact ⟨none, 0, 0, N, true, rfl, rfl, by go_num, by omega, by omega, by rw [List.drop_of_length_le (by rw [hlen.out]; exact Nat.le_refl _)]; exact RowsOwn.nil _ _, Lib.hid (fun _ r hr => by rw [List.drop_of_length_le (by rw [hlen.out]; exact Nat.le_refl _)] at hr; cases hr), Below.refl _ _⟩
    case round =>
      obtain ⟨q, n, co, m, sm, rfl, rfl, rfl, hmN, hnN, hrow, hsm, hb⟩ := hrel
      by_cases h0 : 0 < m
      · obtain ⟨i, rfl⟩ : ∃ i, m = i + 1 := ⟨m - 1, by omega⟩
        have hlt : i < N := by omega
        have ei : (((i + 1 : Nat) : Int) - 1) = (i : Int) := by omega
        rw [ei]
        obtain ⟨r, b, off, q', c', hr, rfl, hbl, c0', hs, hv0⟩ := hRl.at hlt
        have hds := drop_step hr
        have hnn : n + 1 ≤ N := by
          obtain ⟨_, _, _, h3, _⟩ := id hrow
          rw [List.length_reverse, List.length_drop, hlen.out] at h3
          omega
        have c0 : wr.cell? ⟨b, off + i, none⟩ = some (.slice q' r.length c') := (hb.cell (p := ⟨b, _, none⟩) hbl).trans c0'
        have hel := ElAt.old (W := wr) (base := w5.heap.size) (n := n) (v := .slice q n co) hv0 hb hs (fun m hm => (hrow.le m hm).1)
        have i0 : (0 : Int) ≤ (i : Int) := by omega
        have i1 : (i : Int) < (N : Int) := by omega
        have hge : decide ((i : Int) ≥ 0) = true := by simp
        have hw : IntKind.i64.wrap ((i : Int) - 1) = (i : Int) - 1 := IntWalk.i64_in _ (by omega)
        obtain ⟨lb, hlb⟩ : ∃ lb, decide ((r.length : Int) ≤ width) = lb := ⟨_, rfl⟩
        have hsm2 : (sm && lb) = true → ∀ x ∈ rows.drop i, (x.length : Int) ≤ width := by
          intro h x hx
          rw [Bool.and_eq_true] at h
          rw [hds] at hx
          rcases List.mem_cons.1 hx with rfl | hx
          · exact of_decide_eq_true (hlb.trans h.2)
          · exact hsm.out h.1 x hx
        have hrev : (rows.drop (i + 1)).reverse ++ [r] = (rows.drop i).reverse := by rw [hds, List.reverse_cons]
        obtain ⟨k, hk⟩ : ∃ k, rows.count r = k := ⟨_, rfl⟩
        have tS : TimesOk w5 q3 N c3 q' r.length c' k := timesOk hSl hBS.out hv0 (by rw [hcS.out]; exact hk)
        have tR : TimesOk w5 (some ⟨b, off, none⟩) N c q' r.length c' k := timesOk hRl hB.out hv0 hk
        obtain ⟨ln, hln⟩ : ∃ ln, r.length = ln := ⟨_, rfl⟩
        rw [hln] at c0 hlb tS tR c0' hel
        replace hsm2 := Lib.hid hsm2
        replace hrev := Lib.hid hrev
        replace hln := Lib.hid hln
        clear hds ei hsm hk hr hmN h0 hs hv0
        cases sm <;> cases lb
        all_goals (
          go_wp2_with (at_builtin; go_must (refine wpList_pushRow rfl rfl _ _ rfl w5.heap.size (.slice q n co) n _ rfl hrow _ r hel rfl (by omega) hb.size ?_); intro q2 c2 w4 hown2 hb4 hg4; have H4 : w4.cell? ⟨b, off + i, none⟩ = some (.slice q' ln c') ∧ Below w5.heap.size w5 w4 := ⟨((hb.trans hb4).cell (p := ⟨b, _, none⟩) hbl).trans c0', hb.trans hb4⟩; obtain ⟨c4, hb4w⟩ := id H4; have tS4 := tS.later hb4w; have tR4 := tR.later hb4w; have hbl4 : b < w4.heap.size := Nat.lt_of_lt_of_le hbl hb4w.size; have H5 : w4.cell? ⟨b, off + i, none⟩ = some (.slice q' ln c') ∧ Below w4.heap.size w4 w4 := ⟨c4, Below.refl _ _⟩; clear H4)
          clear c0
          go_region_held3 (fun W => W.cell? ⟨b, off + i, none⟩ = some (.slice q' ln c') ∧ Below w4.heap.size w4 W) (first | assumption | exact keepTm hbl4 (by assumption) (by assumption) | exact keepTm0 (by assumption)) (first
            | (go_at_call_of 13 (Value.slice q3 N c3); refine (TimesOk.use tS4 (by assumption)).mono ?_; rintro e w20 ⟨rfl, hb20⟩)
            | (go_at_call_of 13 (Value.slice (some ⟨b, off, none⟩) N c); refine (TimesOk.use tR4 (by assumption)).mono ?_; rintro e w21 ⟨rfl, hb21⟩))
          rename_i hS6
          have hb6 := hS6.2
          clear hS6 tS4 tR4
          go_wp2
          go_roundw
          case rel => exact ⟨q2, n + 1, c2, i, _, rfl, rfl, rfl, by omega, by omega, by rw [← hrev.out]; exact hown2.below hb6, hsm2, hb4w.trans (hb6.mono hb4w.size)⟩
          case measure => first | (simp [intOf]; done) | (simp [intOf]; omega))
      · obtain rfl : m = 0 := by omega
        have ei : (((0 : Nat) : Int) - 1) = -1 := by omega
        rw [ei]
        rw [List.drop_zero] at hrow hsm
        have hnN2 : n = N := by
          obtain ⟨_, _, _, h3, _⟩ := id hrow
          rw [List.length_reverse, hlen.out] at h3
          exact h3.symm
        subst hnN2
        have hBk : RowsAt wr q n rows.reverse := hrow.rows
        have hb5r := hb5.trans (hb.mono hb5.size)
        have hG := sgroups_is T p n c rows width wr (hRl.below hb) hB.out hI.out hM.out (hT5.out.below hb)
        obtain ⟨gs, hgs⟩ : ∃ gs, groupsV width rows = gs := ⟨_, rfl⟩
        have hfl := groups_flat width rows
        have hne := groups_ne width rows
        rw [hgs] at hG hfl hne
        have hflc : ∀ r, gs.flatten.count r = rows.count r := fun r => by rw [hfl]; exact sort_count [] width rows r
        have hfll : gs.flatten.length = n := by rw [hfl, sort_len, hlen.out]
        have hflb : RowsB gs.flatten := by rw [hfl]; exact sort_b hB.out
        have hgsl : gs.length ≤ n := by
          rw [← hgs]
          exact Nat.le_trans (Stb.runs_len _ _ _).1 (by rw [sort_len, hlen.out]; exact Nat.le_refl _)
        replace hsm := Lib.hid hsm.out
        replace hfl := Lib.hid hfl
        replace hgs := Lib.hid hgs
        replace hne := Lib.hid hne
        replace hflc := Lib.hid hflc
        replace hfll := Lib.hid hfll
        replace hflb := Lib.hid hflb
        clear ei h0 hmN hnN hrow
        go_wp2_with (go_at_call 16; refine hG.mono ?_; rintro e w6 ⟨q6, ng, c6, rfl, hG6, hb6⟩)
        have hR6 := (hRl.below hb).below hb6
        have hS6 := (hSl.below hb).below hb6
        have hK6 := (hKl.below hb).below hb6
        have hBk6 := hBk.below hb6
        have hb56 := hb5r.trans (hb6.mono hb5r.size)
        have hgl := hG6.1
        have hngn : ng ≤ n := by rw [← hgl]; exact hgsl
        clear hgsl
        replace hgl := Lib.hid hgl
        clear hRl hSl hKl hBk hb5r hb6 hG hb hb5
        go_loopw [9, 13] (fun ov iv wr => ∃ (qm : Option Addr) (nm cm i : Nat), ov = .slice qm nm cm ∧ iv = .int .i64 (i : Int) ∧ i ≤ ng ∧ RowsOwn wr w6.heap.size (.slice qm nm cm) nm (gs.take i).flatten ∧ Below w6.heap.size w6 wr) (fun _ iv _ => ng - (intOf iv).toNat)
        case atStart => exact ⟨none, 0, 0, 0, rfl, by go_num, by omega, RowsOwn.nil _ _, Below.refl _ _⟩
        case round =>
          obtain ⟨qm, nm, cm, i, rfl, rfl, hi, hrow, hb⟩ := hrel
          by_cases hlt : i < ng
          · have hlB : decide ((i : Int) < (ng : Int)) = true := by simp; omega
            obtain ⟨g, b, off, q', c', hg, rfl, hbl, c0', hRg⟩ := hG6.at hlt
            have c0 : wr.cell? ⟨b, off + i, none⟩ = some (.slice q' g.length c') := (hb.cell (p := ⟨b, _, none⟩) hbl).trans c0'
            have hgm := List.mem_of_getElem? hg
            have hnm : nm ≤ n := by
              obtain ⟨_, _, _, h3, _⟩ := id hrow
              rw [← h3, ← hfll.out]
              exact take_flat _ _
            have hgn : g.length ≤ n := by
              rw [← hfll.out]
              exact (List.sublist_flatten_of_mem hgm).length_le
            have hg0 : 0 < g.length := List.length_pos_iff.2 (hne.out g hgm)
            have hst := flat_step hg
            obtain ⟨m, hm'⟩ : ∃ m, g.length = m := ⟨_, rfl⟩
            rw [hm'] at c0 hgn hg0 hRg
            have m0 : ((m : Int) == 0) = false := by simp; omega
            have m1 : ¬ m = 0 := by omega
            have i0 : (0 : Int) ≤ (i : Int) := by omega
            have i1 : (i : Int) < (ng : Int) := by omega
            replace hst := Lib.hid hst
            clear c0' hg hgm hm'
            go_wp2_with (at_builtin; go_must (refine wpList_appendRows (w0 := w6) rfl _ _ rfl w6.heap.size qm cm nm _ rfl hrow q' m c' g rfl hRg hb (Nat.le_refl _) (by omega) hb.size ?_); intro q2 c2 w7 ho7 hb7)
            go_roundw
            case rel => exact ⟨q2, nm + m, c2, i + 1, rfl, by go_num, by omega, by rw [hst.out]; exact ho7, hb.trans hb7⟩
            case measure => simp [intOf]; omega
          · have hlB : decide ((i : Int) < (ng : Int)) = false := by simp; omega
            rw [List.take_of_length_le (by rw [hgl.out]; omega)] at hrow
            have hnm : n = nm := by
              obtain ⟨_, _, _, h3, _⟩ := id hrow
              rw [← h3, hfll.out]
            subst hnm
            obtain ⟨w8, hw8⟩ : ∃ x, x = wr := ⟨_, rfl⟩
            subst hw8
            have hMm : RowsAt w8 qm n gs.flatten := hrow.rows
            have hR8 := hR6.below hb
            have hS8 := hS6.below hb
            have hK8 := hK6.below hb
            have hBk8 := hBk6.below hb
            have hb58 := hb56.trans (hb.mono hb56.size)
            clear hR6 hS6 hK6 hBk6 hb56 hb hrow hG6
            go_wp2
            go_loopw [14] (fun iv wr => ∃ i : Nat, iv = .int .i64 (i : Int) ∧ i ≤ n ∧ Below w8.heap.size w8 wr) (fun iv _ => n - (intOf iv).toNat)
            case atStart => exact ⟨0, by go_num, by omega, Below.refl _ _⟩
            case round =>
              obtain ⟨i, rfl, hi, hb⟩ := hrel
              by_cases hlt : i < n
              · have hlB : decide ((i : Int) < (n : Int)) = true := by simp; omega
                obtain ⟨r, b, off, q', c', hr, rfl, hbl, c0, hs, hv0⟩ := (hR8.below hb).at hlt
                obtain ⟨k, hk⟩ : ∃ k, rows.count r = k := ⟨_, rfl⟩
                have tS : TimesOk wr qm n cm q' r.length c' k := timesOk (hMm.below hb) hflb.out hv0 (by rw [hflc.out]; exact hk)
                have tR : TimesOk wr (some ⟨b, off, none⟩) n c q' r.length c' k := timesOk (hR8.below hb) hB.out hv0 hk
                have H0 : wr.cell? ⟨b, off + i, none⟩ = some (.slice q' r.length c') ∧ Below wr.heap.size wr wr := ⟨c0, Below.refl _ _⟩
                have i0 : (0 : Int) ≤ (i : Int) := by omega
                have i1 : (i : Int) < (n : Int) := by omega
                clear hr c0 hs hv0 hk
                go_wp2_with fail
                go_region_held3 (fun W => W.cell? ⟨b, off + i, none⟩ = some (.slice q' r.length c') ∧ Below wr.heap.size wr W) (first | assumption | exact keepTm hbl (by assumption) (by assumption) | exact keepTm0 (by assumption)) (first
                  | (go_at_call_of 13 (Value.slice qm n cm); refine (TimesOk.use tS (by assumption)).mono ?_; rintro e w20 ⟨rfl, hb20⟩)
                  | (go_at_call_of 13 (Value.slice (some ⟨b, off, none⟩) n c); refine (TimesOk.use tR (by assumption)).mono ?_; rintro e w21 ⟨rfl, hb21⟩))
                rename_i hS7
                have hb7 := hS7.2
                clear hS7
                go_wp2
                go_roundw
                case rel => exact ⟨i + 1, by go_num, by omega, hb.trans (hb7.mono hb.size)⟩
                case measure => simp [intOf]; omega
              · have hlB : decide ((i : Int) < (n : Int)) = false := by simp; omega
                have hb5e := hb58.trans (hb.mono hb58.size)
                cases sm with
                | false =>
                  go_wp2
                  go_ret
                  exact ⟨rfl, hb5e⟩
                | true =>
                  have hs9 := ssort_is q n co rows.reverse sk KN kc ks width wr (hBk8.below hb) ⟨by rw [List.length_reverse]; exact hB.out.1, fun r hr => hB.out.2 r (List.mem_reverse.1 hr)⟩ (fun r hr => hM.out r (List.mem_reverse.1 hr)) (hK8.below hb) hKN
                  rw [hbk.out (hsm.out rfl)] at hs9
                  have hS9 := hS8.below hb
                  clear hbk hsm
                  go_wp2_with (first
                    | (go_at_call 18; refine hs9.mono ?_; rintro e w9 ⟨q9, c9, rfl, _, hR9, hb9⟩)
                    | (go_at_call 10; refine (sameRows_is q9 n c9 q3 n c3 S S _ hR9 (hS9.below hb9) hBS.out true (Lib.hid (by simp))).mono ?_; rintro e w10 ⟨rfl, hb10⟩))
                  go_ret
                  exact ⟨rfl, (hb5e.trans (hb9.mono hb5e.size)).trans (hb10.mono (Nat.le_trans hb5e.size hb9.size))⟩
end Go.Proofs.YtdapnemcdgjeeaaDoor
