/- The law FuncsAgree, joined. -/
import Derived.Test.YtmkgalcojoeniaaGreatDoorAgL
set_option maxRecDepth 100000
set_option linter.unusedVariables false
set_option linter.unusedSimpArgs false
namespace Go.Proofs.YtmkgalcojoeniaaGreatDoor
open Go.RowKit
attribute [local go_sem] run_store_fn run_store_nofn

theorem ag_not (k n : Int) (t : ByteArray) (K : Int) (w : World) (hL : Lits w) (hm : Val.may ⟨k, n, t.data.toList⟩ = false) :
    Calls Tryz.prog 5 #[.agg #[.int .i64 k, .int .i64 n, .string t], .int .i64 K] w fun e w' => e = .returned (.bool true) ∧ Below w.heap.size w w' := by
  have hA := AgS.new (w := w) (L := []) ⟨fun x hx => absurd hx List.not_mem_nil, Below.refl _ _⟩ k n t
  replace hm := Lib.hid hm
  go_enter Tryz.func5, Tryz.ntmps5
  go_wp2_with (first
    | (go_at_call 12; refine (head18_any _ (hL.alloc _)).mono ?_; rintro e wh ⟨rfl, hbh⟩; have hAh := hA.on hbh; obtain ⟨x0, x1, x2, _, _, _⟩ := (hAh.get List.mem_cons_self).cells)
    | (go_at_call 18; refine (may_is _ _ _ _ hm.out).mono ?_; rintro e wm ⟨rfl, hbm⟩; have hAm := hAh.on hbm))
  go_ret
  exact ⟨rfl, hAm.2⟩
theorem ag_null (n : Int) (t : ByteArray) (K : Int) (w : World) (hL : Lits w) (hm : Val.may ⟨0, n, t.data.toList⟩ = true) :
    Calls Tryz.prog 5 #[.agg #[.int .i64 0, .int .i64 n, .string t], .int .i64 K] w fun e w' => e = .returned (.bool true) ∧ Below w.heap.size w w' := by
  have hA := AgS.new (w := w) (L := []) ⟨fun x hx => absurd hx List.not_mem_nil, Below.refl _ _⟩ 0 n t
  replace hm := Lib.hid hm
  go_enter Tryz.func5, Tryz.ntmps5
  go_wp2_with (first
    | (go_at_call 12; refine (head18_any _ (hL.alloc _)).mono ?_; rintro e wh ⟨rfl, hbh⟩; have hAh := hA.on hbh; obtain ⟨x0, x1, x2, _, _, _⟩ := (hAh.get List.mem_cons_self).cells)
    | (go_at_call 18; refine (may_is _ _ _ _ hm.out).mono ?_; rintro e wm ⟨rfl, hbm⟩; have hAm := hAh.on hbm; obtain ⟨y0, y1, y2, _, _, _⟩ := (hAm.get List.mem_cons_self).cells))
  go_ret
  exact ⟨rfl, hAm.2⟩
theorem ag_out (k n : Int) (t : ByteArray) (K : Int) (w : World) (hL : Lits w) (hm : Val.may ⟨k, n, t.data.toList⟩ = true) (h0 : k ≠ 0) (hK : K < 0 ∨ 400 < K) :
    Calls Tryz.prog 5 #[.agg #[.int .i64 k, .int .i64 n, .string t], .int .i64 K] w fun e w' => e = .returned (.bool true) ∧ Below w.heap.size w w' := by
  have hA := AgS.new (w := w) (L := []) ⟨fun x hx => absurd hx List.not_mem_nil, Below.refl _ _⟩ k n t
  replace hm := Lib.hid hm
  have b0 : (k == 0) = false := by simpa using h0
  replace h0 := Lib.hid h0
  rcases hK with hK | hK
  · have b1 : decide (K < 0) = true := decide_eq_true hK
    go_enter Tryz.func5, Tryz.ntmps5
    go_wp2_with (first
      | (go_at_call 12; refine (head18_any _ (hL.alloc _)).mono ?_; rintro e wh ⟨rfl, hbh⟩; have hAh := hA.on hbh; obtain ⟨x0, x1, x2, _, _, _⟩ := (hAh.get List.mem_cons_self).cells)
      | (go_at_call 18; refine (may_is _ _ _ _ hm.out).mono ?_; rintro e wm ⟨rfl, hbm⟩; have hAm := hAh.on hbm; obtain ⟨y0, y1, y2, _, _, _⟩ := (hAm.get List.mem_cons_self).cells))
    go_ret
    exact ⟨rfl, hAm.2⟩
  · have b1 : decide (K < 0) = false := decide_eq_false (by omega)
    have b1' : ¬ K < 0 := by omega
    have b2 : decide (K > 400) = true := decide_eq_true hK
    go_enter Tryz.func5, Tryz.ntmps5
    go_wp2_with (first
      | (go_at_call 12; refine (head18_any _ (hL.alloc _)).mono ?_; rintro e wh ⟨rfl, hbh⟩; have hAh := hA.on hbh; obtain ⟨x0, x1, x2, _, _, _⟩ := (hAh.get List.mem_cons_self).cells)
      | (go_at_call 18; refine (may_is _ _ _ _ hm.out).mono ?_; rintro e wm ⟨rfl, hbm⟩; have hAm := hAh.on hbm; obtain ⟨y0, y1, y2, _, _, _⟩ := (hAm.get List.mem_cons_self).cells))
    go_ret
    exact ⟨rfl, hAm.2⟩

theorem take_drop_bs (s : ByteArray) (K : Nat) : bs (s.data.toList.take K) ++ bs (s.data.toList.drop K) = s := by
  have e : (bs (s.data.toList.take K) ++ bs (s.data.toList.drop K)).data.toList = s.data.toList := by
    rw [ByteArray.data_append, Array.toList_append, bs_data, bs_data, List.take_append_drop]
  have := congrArg bs e
  rwa [bs_of, bs_of] at this
theorem funcs_agree (k n : Int) (t : ByteArray) (K : Int) (w : World) (hL : Lits w) (hi : Val.inr n) :
    Calls Tryz.prog 5 #[.agg #[.int .i64 k, .int .i64 n, .string t], .int .i64 K] w fun e w' => e = .returned (.bool true) ∧ Below w.heap.size w w' := by
  cases hm : Val.may ⟨k, n, t.data.toList⟩ with
  | false => exact ag_not k n t K w hL hm
  | true =>
    by_cases h0 : k = 0
    · subst h0
      exact ag_null n t K w hL hm
    · by_cases hK : K < 0 ∨ 400 < K
      · exact ag_out k n t K w hL hm h0 hK
      · obtain ⟨M, rfl⟩ : ∃ M : Nat, K = (M : Int) := ⟨K.toNat, by omega⟩
        have hM : M ≤ 400 := by omega
        have hv : Val.may ⟨k, n, t.data.toList⟩ = true ∧ (⟨k, n, t.data.toList⟩ : Val.V).kind ≠ 0 := ⟨hm, h0⟩
        obtain ⟨s, _, hsz, es⟩ := shown_v hm h0 hi
        have hsl : s.data.toList.length ≤ 400 := hsz
        have hsh : (shown ⟨k, n, t.data.toList⟩).length ≤ 400 := by rw [es]; exact hsl
        have hdl : (s.data.toList.drop M).length ≤ 400 := by rw [List.length_drop]; omega
        have htl : (s.data.toList.take M).length ≤ 400 := by rw [List.length_take]; omega
        obtain ⟨j, hj, hjM⟩ := index_drop s.data.toList M
        have hlow := c_low hv
        have hlow2 := c_low2 hsl
        have hup := c_up hv
        have hlu := c_lowup hsl
        have htr := c_trim hv
        have hrt := c_rtrim hv
        have hlr := c_lrtrim hsl
        have ha := c_sub3 hv M hM
        have hb := c_sub2 hv M
        have hc := c_all hv
        have hlen := c_len hv
        have hin := c_instr hv hdl k
        have hrep := c_repl hv hsh hdl k
        have hq := c_quote hv
        rw [es] at hlow hup htr hrt ha hb hc hlen hin hrep
        rw [hj] at hin
        have main := ag_at k n t M w hL hi hm h0 hM (bs (s.data.toList.map Txt.lower)) (bs (s.data.toList.map upper)) (bs (trimT [32] true true s.data.toList)) (bs (trimT [32] false true s.data.toList)) (bs (s.data.toList.take M)) (bs (s.data.toList.drop M)) s
        by_cases hpl : 400 < (Val.print ⟨k, n, t.data.toList⟩).1.length
        · have hpt : Val.ptext (Val.print ⟨k, n, t.data.toList⟩).1 = Val.zero := by unfold Val.ptext; rw [if_pos hpl]
          rw [hpt] at hq
          obtain ⟨⟨⟨k1, n1, tt⟩, E⟩, hr⟩ : ∃ q, Val.read [] = q := ⟨_, rfl⟩
          exact main ⟨#[]⟩ (bs tt) (if k = 3 then 3 else 2) 0 k1 n1 j E (Lib.hid hlow) (Lib.hid hlow2) (Lib.hid hup) (Lib.hid hlu) (Lib.hid htr) (Lib.hid hrt) (Lib.hid hlr) (Lib.hid ha) (Lib.hid hb) (Lib.hid hc) (Lib.hid (take_drop_bs s M)) (by rw [bs_size]; exact htl) (by rw [bs_size]; exact hdl) hsz (Lib.hid hlen) (Lib.hid hin) hjM (Lib.hid hrep) (Lib.hid hq) (Lib.hid hr) (.inl rfl)
        · have hpt : Val.ptext (Val.print ⟨k, n, t.data.toList⟩).1 = ⟨2, 0, (Val.print ⟨k, n, t.data.toList⟩).1⟩ := by unfold Val.ptext; rw [if_neg hpl]
          rw [hpt] at hq
          have hr := Val.read_print hm hi.1 hi.2
          exact main (bs (Val.print ⟨k, n, t.data.toList⟩).1) t (if k = 3 then 3 else 2) 2 k n j 0 (Lib.hid hlow) (Lib.hid hlow2) (Lib.hid hup) (Lib.hid hlu) (Lib.hid htr) (Lib.hid hrt) (Lib.hid hlr) (Lib.hid ha) (Lib.hid hb) (Lib.hid hc) (Lib.hid (take_drop_bs s M)) (by rw [bs_size]; exact htl) (by rw [bs_size]; exact hdl) hsz (Lib.hid hlen) (Lib.hid hin) hjM (Lib.hid hrep) (Lib.hid hq) (Lib.hid hr) (.inr ⟨by decide, rfl, rfl, rfl, rfl⟩)

end Go.Proofs.YtmkgalcojoeniaaGreatDoor
