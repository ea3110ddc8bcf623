/- Walks: Split of the reference of layer 15. -/
import Derived.Test.YtiiaamkmnbegdaaSplitR
import Derived.Test.YtiiaamkmnbegdaaSplitI
namespace Go.Proofs.Ytiiaamkmnbegdaa
open Go.RowKit

theorem natsC_at (l : List Nat) (k n : Nat) (h : l[k]? = some n) : (natsC l)[k]? = some (.int .i64 (n : Int)) := by simp [natsC, h]

theorem rtokens2_is {Y : List (Tok.T × Nat)} {bb : Option Nat} {N : Nat} (s : ByteArray) (w : World) (h : Hid (Tok.toks s.data.toList 0 = (Y, bb) ∧ Y.length = N)) (hs : s.size ≤ 1099511627) :
    Calls Try.prog 6 #[.string s] w fun e w' => ∃ p c p2 c2, e = .returned (.tuple #[.slice p N c, .slice p2 N c2, .int .i64 (badV bb)]) ∧ w'.ownsRow w.heap.size 32 3 (.slice p N c) N (tokC (Y.map (·.1))) ∧ w'.ownsRow w.heap.size 3 1 (.slice p2 N c2) N (natsC (Y.map (·.2))) ∧ Below w.heap.size w w' :=
  (rtokens_any s w hs).mono fun _ _ ⟨v, v2, he, h1, h2, hb⟩ => by
    rw [h.out.1] at he h1 h2
    simp only [h.out.2] at h1 h2
    obtain ⟨p, c, rfl⟩ := ownsRow_shape h1
    obtain ⟨p2, c2, rfl⟩ := ownsRow_shape h2
    exact ⟨p, c, p2, c2, he, h1, h2, hb⟩

/-- what the reference's Split answers -/
def RSplitP (s : ByteArray) (w : World) (e : Ending) (w' : World) : Prop :=
  ∃ p c, e = .returned (.tuple #[.slice p (Tok.split s.data.toList).1.length c, .int .i64 ((Tok.split s.data.toList).2 : Int)]) ∧
      w'.ownsRow w.heap.size 9 1 (.slice p (Tok.split s.data.toList).1.length c) (Tok.split s.data.toList).1.length (strC (Tok.split s.data.toList).1) ∧ Below w.heap.size w w'

theorem rsplit_bad (s : ByteArray) (w : World) (hs : s.size ≤ 1048576) (Y : List (Tok.T × Nat)) (b : Nat) (hY : Tok.toks s.data.toList 0 = (Y, some b)) : Calls Try.prog 9 #[.string s] w (RSplitP s w) := by
  obtain ⟨N, hN⟩ : ∃ N, Y.length = N := ⟨_, rfl⟩
  have hq : Tok.toks s.data.toList 0 = (Y, some b) ∧ Y.length = N := ⟨hY, hN⟩
  obtain ⟨bb, hbb⟩ : ∃ bb, badV (some b) = bb := ⟨_, rfl⟩
  have hb0 : 0 ≤ bb := by rw [← hbb]; simp [badV]
  have hb1 : decide (bb ≥ 0) = true := by simp; omega
  have hsp := Tok.split_bad hY
  replace hq := Lib.hid hq
  replace hsp := Lib.hid hsp
  replace hbb := Lib.hid hbb
  clear hY hN
  go_enter Try.func9, Try.ntmps9
  go_wp2_with (go_at_call 6; refine (rtokens2_is s _ hq (by omega)).mono ?_; rintro e w1 ⟨p, c, p2, c2, rfl, hr1, hr2, hb⟩; rw [hbb.out])
  go_ret2
  refine ⟨none, 0, ?_, ?_, hb⟩
  · rw [hsp.out]; rfl
  · rw [hsp.out]; exact World.ownsRow_nil _ _ _ _

set_option maxHeartbeats 1000000 in
theorem rsplit_ok (s : ByteArray) (w : World) (hs : s.size ≤ 1048576) (Y : List (Tok.T × Nat)) (hY : Tok.toks s.data.toList 0 = (Y, none)) : Calls Try.prog 9 #[.string s] w (RSplitP s w) := by
  obtain ⟨N, hN⟩ : ∃ N, Y.length = N := ⟨_, rfl⟩
  have hq : Tok.toks s.data.toList 0 = (Y, none) ∧ Y.length = N := ⟨hY, hN⟩
  have hNs : N ≤ 1048576 := by
    have := Tok.toks_len s.data.toList 0
    rw [hY] at this
    have e : s.data.toList.length = s.size := rfl
    simp only at this
    omega
  have hfit : ∀ i, (0 ≤ (Tok.stOf s.data.toList (Y.take i)).from_ → (Tok.stOf s.data.toList (Y.take i)).from_.toNat ≤ (Tok.stOf s.data.toList (Y.take i)).to_) ∧ (Tok.stOf s.data.toList (Y.take i)).to_ ≤ s.data.toList.length ∧ -1 ≤ (Tok.stOf s.data.toList (Y.take i)).from_ := fun i => Tok.stOf_fits (by rw [hY]; exact List.take_prefix _ _)
  have hsp := Tok.split_ok hY
  replace hq := Lib.hid hq
  replace hsp := Lib.hid hsp
  replace hfit := Lib.hid hfit
  replace hN := Lib.hid hN
  clear hY
  go_enter Try.func9, Try.ntmps9
  go_wp2_with (go_at_call 6; refine (rtokens2_is s _ hq (by omega)).mono ?_; rintro e w1 ⟨p, c, p2, c2, rfl, hr1, hr2, hb⟩; simp only [badV])
  go_loopw [7, 8, 9] (fun vo jv iv wr => ∃ (po : Option Addr) (M co : Nat) (st : Tok.St) (j i : Nat), vo = .slice po M co ∧ jv = .int .i64 (j : Int) ∧ iv = .int .i64 (i : Int) ∧ i ≤ N + 1 ∧ j ≤ i ∧ M ≤ i ∧ wr.ownsRow w.heap.size 9 1 (.slice po M co) M (strC st.out) ∧ Hid (st.out.length = M) ∧ Hid (i ≤ N → st = Tok.stOf s.data.toList (Y.take i)) ∧ Hid (i = N + 1 → st.out = (Tok.put s.data.toList (Tok.stOf s.data.toList Y)).out) ∧ Hid (i ≤ N → (j = i → st.from_ < 0) ∧ (j < i → ∃ x z, Y[j]? = some x ∧ Y[i - 1]? = some z ∧ st.from_ = (x.1.at_ : Int) ∧ st.to_ = z.2)) ∧
      wr.ownsRow w.heap.size 32 3 (.slice p N c) N (tokC (Y.map (·.1))) ∧ wr.ownsRow w.heap.size 3 1 (.slice p2 N c2) N (natsC (Y.map (·.2))) ∧ Below w.heap.size w wr) (fun _ _ iv _ => N + 1 - (intOf iv).toNat)
  case atStart => exact ⟨none, 0, 0, ⟨-1, 0, []⟩, 0, 0, rfl, by go_num, by go_num, by omega, by omega, by omega, World.ownsRow_nil _ _ _ _, Lib.hid rfl, Lib.hid fun _ => by simp [Tok.stOf_nil], Lib.hid fun h => by omega, Lib.hid fun _ => ⟨fun _ => by decide, fun h => by omega⟩, hr1, hr2, hb⟩
  case round =>
    obtain ⟨po, M, co, st, j, i, rfl, rfl, rfl, hi, hji, hMi, ho, hM, hst, hen, hjs, ht, he, hB⟩ := hrel
    by_cases hlt : i ≤ N
    · have hN' := hN
      by_cases hin : i < N
      · have hB0 : decide ((i : Int) < (N : Int)) = true := by simp; omega
        have hlB : decide ((i : Int) ≤ (N : Int)) = true := by simp; omega
        obtain ⟨x, hx⟩ : ∃ x, Y[i]? = some x := ⟨_, List.getElem?_eq_getElem (by rw [hN.out]; exact hin)⟩
        obtain ⟨g, cap, hf, _, lg⟩ := ht.form (by omega)
        simp only [Value.slice.injEq, true_and] at hf
        obtain ⟨rfl, rfl⟩ := hf
        obtain ⟨t0, _, t2⟩ := tokC_at (Y.map (·.1)) i x.1 (by simp [hx])
        have r0 := (ht.cellAt (i * 3) (by omega)).trans t0
        have r2 := (ht.cellAt (i * 3 + 2) (by omega)).trans t2
        have htk : Y.take (i + 1) = Y.take i ++ [x] := by rw [List.take_add_one, hx]; rfl
        have hnext : Tok.stOf s.data.toList (Y.take (i + 1)) = Tok.step s.data.toList st x := by rw [htk, Tok.stOf_snoc, ← hst.out (by omega)]
        have q0 : (0 : Int) ≤ (i : Int) := by omega
        have q9 : (i : Int) < (N : Int) := by omega
        clear t0 t2 htk
        cases hse : Tok.semi x.1 with
        | false =>
          have hse' := of_decide_eq_false hse
          have hcase : (((x.1.kind : Nat) : Int) != 6) = true ∨ ((((x.1.kind : Nat) : Int) != 6) = false ∧ ((bs x.1.text).toList != [59]) = true ∧ ((bs x.1.text).toList == [59]) = false) := by
            by_cases hk6 : x.1.kind = 6
            · refine .inr ⟨by simp; omega, ?_, ?_⟩
              · rw [toList_bs]; simp only [bne_iff_ne]; exact fun h => hse' ⟨hk6, h⟩
              · rw [toList_bs]; simp only [beq_eq_false_iff_ne]; exact fun h => hse' ⟨hk6, h⟩
            · exact .inl (by simp; omega)
          have hout : (Tok.step s.data.toList st x).out = st.out := by
            by_cases hf : st.from_ < 0
            · rw [Tok.step_new hse hf]
            · rw [Tok.step_go hse (by omega)]
          have hjs2 : j < i + 1 → ∃ x' z, Y[j]? = some x' ∧ Y[i + 1 - 1]? = some z ∧ (Tok.step s.data.toList st x).from_ = (x'.1.at_ : Int) ∧ (Tok.step s.data.toList st x).to_ = z.2 := by
            intro hj2
            by_cases hji2 : j = i
            · have hfr := (hjs.out (by omega)).1 hji2
              rw [Tok.step_new hse hfr]
              exact ⟨x, x, by rw [hji2]; exact hx, hx, rfl, rfl⟩
            · obtain ⟨x', z, hx', hz, hfr, hto⟩ := (hjs.out (by omega)).2 (by omega)
              rw [Tok.step_go hse (by rw [hfr]; omega)]
              exact ⟨x', x, hx', hx, hfr, rfl⟩
          replace hjs2 := Lib.hid hjs2
          replace hout := Lib.hid hout
          replace hnext := Lib.hid hnext
          clear hx hse hse'
          rcases hcase with b1 | ⟨b1, b2, b3⟩
          all_goals go_wp2
          all_goals go_roundw
          all_goals first
            | exact ⟨po, M, co, Tok.step s.data.toList st x, j, i + 1, rfl, by go_num, by go_num, by omega, by omega, by omega, by rw [hout.out]; exact ho, by rw [hout.out]; exact hM, Lib.hid fun _ => hnext.out.symm, Lib.hid fun h => by omega, Lib.hid fun _ => ⟨fun h => by omega, hjs2.out⟩, ht, he, hB⟩
            | (simp [intOf]; omega)
        | true =>
          have hse' := of_decide_eq_true hse
          have b1 : (((x.1.kind : Nat) : Int) != 6) = false := by simp; exact_mod_cast hse'.1
          have b2 : ((bs x.1.text).toList != [59]) = false := by rw [hse'.2, toList_bs]; rfl
          have b3 : ((bs x.1.text).toList == [59]) = true := by rw [hse'.2, toList_bs]; rfl
          rw [Tok.step_semi hse] at hnext
          have hput : Tok.stOf s.data.toList (Y.take (i + 1)) = Tok.put s.data.toList st := hnext
          clear hnext hx hse hse'
          by_cases hlt2 : j < i
          · have hcmp : decide ((i : Int) > (j : Int)) = true := by simp; omega
            obtain ⟨i', rfl⟩ : ∃ i', i = i' + 1 := ⟨i - 1, by omega⟩
            obtain ⟨x', z, hx', hz', hfr, hto⟩ := (hjs.out (by omega)).2 hlt2
            have hft := hfit.out (i' + 1)
            rw [← hst.out (by omega)] at hft
            obtain ⟨f1, f2, _⟩ := hft
            have hle := f1 (by omega)
            rw [hfr, Int.toNat_natCast, hto] at hle
            rw [hto] at f2
            have f2' : z.2 ≤ s.size := f2
            have hpu := Tok.put_some (l := s.data.toList) (st := st) (by omega)
            rw [hfr, hto, Int.toNat_natCast] at hpu
            rw [hpu] at hput
            clear hpu f1 f2 hfr hto
            have hjN : j < N := by omega
            obtain ⟨g2, cap2, hf2, _, lg2⟩ := he.form (by omega)
            simp only [Value.slice.injEq, true_and] at hf2
            obtain ⟨rfl, rfl⟩ := hf2
            obtain ⟨_, t1, _⟩ := tokC_at (Y.map (·.1)) j x'.1 (by simp [hx'])
            have r1 := (ht.cellAt (j * 3 + 1) (by omega)).trans t1
            have e1 := (he.cellAt i' (by omega)).trans (natsC_at (Y.map (·.2)) i' z.2 (by simp at hz'; simp [hz']))
            have ne1 : some g ≠ (Value.slice po M co).ownBlock := (rows_apart ht ho (by decide)).resolve_left (by simp [Value.ownBlock])
            have ne2 : some g2 ≠ (Value.slice po M co).ownBlock := (rows_apart he ho (by decide)).resolve_left (by simp [Value.ownBlock])
            obtain ⟨a, ha⟩ : ∃ a, x'.1.at_ = a := ⟨_, rfl⟩
            obtain ⟨d, hd⟩ : ∃ d, z.2 = d := ⟨_, rfl⟩
            rw [ha] at r1 hle hput
            rw [hd] at e1 hle hput f2'
            replace hput := Lib.hid hput
            clear t1 hx' hz' ha hd
            have q1 : (0 : Int) ≤ (j : Int) := by omega
            have q2 : (j : Int) < (N : Int) := by omega
            have q3 : (0 : Int) ≤ (i' : Int) := by omega
            have q4 : (i' : Int) < (N : Int) := by omega
            have q5 : (a : Int) ≤ (d : Int) := by omega
            have q6 : (d : Int) ≤ (s.size : Int) := by omega
            have q7 : IntKind.i64.wrap (i' : Int) = (i' : Int) := IntWalk.i64_in _ (by omega)
            have q8 : IntKind.i64.wrap ((i' : Int) + 1 - 1) = (i' : Int) := by rw [Int.add_sub_cancel]; exact q7
            have hM1 : M ≤ 1048577 := by omega
            have hB1 : w.heap.size ≤ wr.heap.size := hB.size
            have m1 : (M + 1) * 16 ≤ 140737488355328 := by omega
            replace q7 := Lib.hid q7
            replace q8 := Lib.hid q8
            go_wp2_with fail
            replace q7 := q7.out
            replace q8 := q8.out
            go_region_law
              ((refine step_push2 (by rfl) _ _ _ (by rfl) w.heap.size 9 Try.underlying34 str_info rfl (by decide) (.slice po M co) M _ (by rfl) ho _ (by rfl) (by rfl) (one_str _) m1 (by decide) hB1 ?_; intro gg cc w1 hown' hb' hg'))
            all_goals clear q7 q8
            all_goals go_wp2
            all_goals go_roundw
            all_goals first
              | (refine ⟨some ⟨gg, 0, none⟩, M + 1, cc, ⟨-1, d, st.out ++ [Tok.cut s.data.toList a d]⟩, i' + 1 + 1, i' + 1 + 1, rfl, by go_num, by go_num, by omega, by omega, by omega, ?_, Lib.hid (by simp [hM.out]), Lib.hid fun _ => hput.out.symm, Lib.hid fun h => by omega, Lib.hid fun _ => ⟨fun _ => (show (-1 : Int) < 0 by decide), fun h => by omega⟩, ht.kept hg' (rows_apart ht ho (by decide)), he.kept hg' (rows_apart he ho (by decide)), hB.trans hb'⟩
                 dsimp only
                 rw [strC_snoc, bs_cut]
                 simpa using hown')
              | (simp [intOf]; omega)
          · have hcmp : decide ((i : Int) > (j : Int)) = false := by simp; omega
            have hfr := (hjs.out (by omega)).1 (by omega)
            rw [Tok.put_none hfr] at hput
            replace hput := Lib.hid hput
            clear hfr
            go_wp2
            go_roundw
            case rel => exact ⟨po, M, co, ⟨-1, st.to_, st.out⟩, i + 1, i + 1, rfl, by go_num, by go_num, by omega, by omega, by omega, ho, hM, Lib.hid fun _ => hput.out.symm, Lib.hid fun h => by omega, Lib.hid fun _ => ⟨fun _ => (show (-1 : Int) < 0 by decide), fun h => by omega⟩, ht, he, hB⟩
            case measure => simp [intOf]; omega

      · have hiN : i = N := by omega
        have hB0 : decide ((i : Int) < (N : Int)) = false := by simp; omega
        have hlB : decide ((i : Int) ≤ (N : Int)) = true := by simp; omega
        have hput : (Tok.put s.data.toList st).out = (Tok.put s.data.toList (Tok.stOf s.data.toList Y)).out := by
          rw [hst.out (by omega), hiN, ← hN.out, List.take_length]
        have hNi : N ≤ i := by omega
        clear hiN
        by_cases hlt2 : j < i
        · have hcmp : decide ((i : Int) > (j : Int)) = true := by simp; omega
          obtain ⟨i', rfl⟩ : ∃ i', i = i' + 1 := ⟨i - 1, by omega⟩
          obtain ⟨x', z, hx', hz', hfr, hto⟩ := (hjs.out (by omega)).2 hlt2
          have hft := hfit.out (i' + 1)
          rw [← hst.out (by omega)] at hft
          obtain ⟨f1, f2, _⟩ := hft
          have hle := f1 (by omega)
          rw [hfr, Int.toNat_natCast, hto] at hle
          rw [hto] at f2
          have f2' : z.2 ≤ s.size := f2
          have hpu := Tok.put_some (l := s.data.toList) (st := st) (by omega)
          rw [hfr, hto, Int.toNat_natCast] at hpu
          rw [hpu] at hput
          clear hpu f1 f2 hfr hto
          have hjN : j < N := by omega
          obtain ⟨g, cap, hf, _, lg⟩ := ht.form (by omega)
          simp only [Value.slice.injEq, true_and] at hf
          obtain ⟨rfl, rfl⟩ := hf
          obtain ⟨g2, cap2, hf2, _, lg2⟩ := he.form (by omega)
          simp only [Value.slice.injEq, true_and] at hf2
          obtain ⟨rfl, rfl⟩ := hf2
          obtain ⟨_, t1, _⟩ := tokC_at (Y.map (·.1)) j x'.1 (by simp [hx'])
          have r1 := (ht.cellAt (j * 3 + 1) (by omega)).trans t1
          have e1 := (he.cellAt i' (by omega)).trans (natsC_at (Y.map (·.2)) i' z.2 (by simp at hz'; simp [hz']))
          have ne1 : some g ≠ (Value.slice po M co).ownBlock := (rows_apart ht ho (by decide)).resolve_left (by simp [Value.ownBlock])
          have ne2 : some g2 ≠ (Value.slice po M co).ownBlock := (rows_apart he ho (by decide)).resolve_left (by simp [Value.ownBlock])
          obtain ⟨a, ha⟩ : ∃ a, x'.1.at_ = a := ⟨_, rfl⟩
          obtain ⟨d, hd⟩ : ∃ d, z.2 = d := ⟨_, rfl⟩
          rw [ha] at r1 hle hput
          rw [hd] at e1 hle hput f2'
          replace hput := Lib.hid hput
          clear t1 hx' hz' ha hd
          have q1 : (0 : Int) ≤ (j : Int) := by omega
          have q2 : (j : Int) < (N : Int) := by omega
          have q3 : (0 : Int) ≤ (i' : Int) := by omega
          have q4 : (i' : Int) < (N : Int) := by omega
          have q5 : (a : Int) ≤ (d : Int) := by omega
          have q6 : (d : Int) ≤ (s.size : Int) := by omega
          have q7 : IntKind.i64.wrap (i' : Int) = (i' : Int) := IntWalk.i64_in _ (by omega)
          have q8 : IntKind.i64.wrap ((i' : Int) + 1 - 1) = (i' : Int) := by rw [Int.add_sub_cancel]; exact q7
          have hM1 : M ≤ 1048577 := by omega
          have hB1 : w.heap.size ≤ wr.heap.size := hB.size
          have m1 : (M + 1) * 16 ≤ 140737488355328 := by omega
          replace q7 := Lib.hid q7
          replace q8 := Lib.hid q8
          go_wp2_with fail
          replace q7 := q7.out
          replace q8 := q8.out
          go_region_law
            ((refine step_push2 (by rfl) _ _ _ (by rfl) w.heap.size 9 Try.underlying34 str_info rfl (by decide) (.slice po M co) M _ (by rfl) ho _ (by rfl) (by rfl) (one_str _) m1 (by decide) hB1 ?_; intro gg cc w1 hown' hb' hg'))
          all_goals clear q7 q8
          all_goals go_wp2
          all_goals go_roundw
          all_goals first
            | (refine ⟨some ⟨gg, 0, none⟩, M + 1, cc, ⟨-1, d, st.out ++ [Tok.cut s.data.toList a d]⟩, i' + 1 + 1, i' + 1 + 1, rfl, by go_num, by go_num, by omega, by omega, by omega, ?_, Lib.hid (by simp [hM.out]), Lib.hid fun h => by omega, Lib.hid fun _ => hput.out, Lib.hid fun h => by omega, ht.kept hg' (rows_apart ht ho (by decide)), he.kept hg' (rows_apart he ho (by decide)), hB.trans hb'⟩
               dsimp only
               rw [strC_snoc, bs_cut]
               simpa using hown')
            | (simp [intOf]; omega)
        · have hcmp : decide ((i : Int) > (j : Int)) = false := by simp; omega
          have hfr := (hjs.out (by omega)).1 (by omega)
          rw [Tok.put_none hfr] at hput
          replace hput := Lib.hid hput
          clear hfr
          go_wp2
          go_roundw
          case rel => exact ⟨po, M, co, ⟨-1, st.to_, st.out⟩, i + 1, i + 1, rfl, by go_num, by go_num, by omega, by omega, by omega, ho, hM, Lib.hid fun h => by omega, Lib.hid fun _ => hput.out, Lib.hid fun h => by omega, ht, he, hB⟩
          case measure => simp [intOf]; omega

    · have hiN : i = N + 1 := by omega
      have hout := hen.out hiN
      clear hiN
      replace hout := Lib.hid hout
      go_wp2
      go_ret2
      refine ⟨po, co, ?_, ?_, hB⟩
      · rw [hsp.out, ← hout.out]; simp only [hM.out]; rfl
      · rw [hsp.out, ← hout.out]; simp only [hM.out]; exact ho

end Go.Proofs.Ytiiaamkmnbegdaa
