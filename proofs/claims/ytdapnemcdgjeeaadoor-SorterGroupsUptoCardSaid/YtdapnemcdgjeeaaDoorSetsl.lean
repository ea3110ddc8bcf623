/- The law SorterSets. -/
import Derived.Test.YtdapnemcdgjeeaaDoorTimes
import Derived.Deep.RegionHeld3
set_option maxRecDepth 100000
set_option linter.unusedVariables false
set_option linter.unusedSimpArgs false
namespace Go.Proofs.YtdapnemcdgjeeaaDoor
open Go.RowKit

theorem dd_b {l : List (List Val.V)} (h : RowsB l) : RowsB (Sets.dd l) := ⟨Nat.le_trans (Sets.dd_len l) h.1, fun r hr => h.2 r ((Sets.mem_dd _ _).1 hr)⟩
theorem dd_i {l : List (List Val.V)} (h : RowsI l) : RowsI (Sets.dd l) := fun r hr => h r ((Sets.mem_dd _ _).1 hr)
theorem keep_b {l b : List (List Val.V)} {w : Bool} (h : RowsB l) : RowsB (keepV b w l) := ⟨Nat.le_trans (keep_len b w l) h.1, fun r hr => h.2 r (List.mem_filter.1 hr).1⟩
theorem count_nd {α : Type} [BEq α] [LawfulBEq α] {x : α} : ∀ {l : List α}, l.Nodup → x ∈ l → l.count x = 1 := by
  intro l
  induction l with
  | nil => intro _ h; cases h
  | cons y l ih =>
    intro h hx
    obtain ⟨h1, h2⟩ := List.nodup_cons.1 h
    by_cases e : y = x
    · subst e
      rw [List.count_cons_self, List.count_eq_zero.2 h1]
    · rw [List.count_cons_of_ne e]
      exact ih h2 ((List.mem_cons.1 hx).resolve_left fun h => e h.symm)
theorem count_U {a b : List (List Val.V)} {r : List Val.V} (h : r ∈ a ∨ r ∈ b) : (Sets.dd (a ++ b)).count r = 1 :=
  count_nd (Sets.nodup_dd _) (by rw [Sets.mem_dd, List.mem_append]; exact h)
theorem mem_keep {a b : List (List Val.V)} {w : Bool} {r : List Val.V} : r ∈ Sets.dd (keepV b w a) ↔ r ∈ a ∧ decide (r ∈ b) = w := by
  rw [Sets.mem_dd]
  unfold keepV
  rw [List.mem_filter]
  simp
theorem count_K1 {a b : List (List Val.V)} {w : Bool} {r : List Val.V} (h1 : r ∈ a) (h2 : decide (r ∈ b) = w) : (Sets.dd (keepV b w a)).count r = 1 :=
  count_nd (Sets.nodup_dd _) (mem_keep.2 ⟨h1, h2⟩)
theorem count_K0 {a b : List (List Val.V)} {w : Bool} {r : List Val.V} (h : ¬ (r ∈ a ∧ decide (r ∈ b) = w)) : (Sets.dd (keepV b w a)).count r = 0 :=
  List.count_eq_zero.2 fun x => h (mem_keep.1 x)
theorem keep_sizes (a b : List (List Val.V)) : (Sets.dd (a ++ b)).length = (Sets.dd (keepV b true a)).length + (Sets.dd (keepV b false a)).length + (Sets.dd (keepV a false b)).length := by
  have h3 : ∀ {x1 x2 y1 y2 z1 z2 : Nat}, x1 = x2 → y1 = y2 → z1 = z2 → x1 + y1 + z1 = x2 + y2 + z2 := by intros; omega
  have h1 : ∀ {l m : List (List Val.V)}, l = m → (Sets.dd l).length = (Sets.dd m).length := by intro l m h; rw [h]
  refine (Sets.sizes a b).trans (h3 (h1 (List.filter_congr fun r _ => ?_)) (h1 (List.filter_congr fun r _ => ?_)) (h1 (List.filter_congr fun r _ => ?_)))
  · by_cases h : r ∈ b <;> simp [h]
  · by_cases h : r ∈ b <;> simp [h]
  · by_cases h : r ∈ a <;> simp [h]

set_option maxHeartbeats 4000000 in
theorem sorter_sets (T : Lib.PrintTabs) (p : Option Addr) (N c : Nat) (q : Option Addr) (M c' : Nat) (ra rb : List (List Val.V)) (w : World) (hA : RowsAt w p N ra) (hA' : RowsAt w q M rb) (hB1 : RowsB ra) (hB2 : RowsB rb) (hN : N ≤ 1048576) (hM : M ≤ 1048576) (hI1 : RowsI ra) (hI2 : RowsI rb) (hT : Tabs T w) :
    Calls Tryd.prog 4 #[.slice p N c, .slice q M c'] w fun e w' => e = .returned (.bool true) ∧ Below w.heap.size w w' := by
  have hsz := keep_sizes ra rb
  have hXl : (Sets.dd (keepV rb true ra)).length ≤ N := by rw [← hA.1]; exact Nat.le_trans (Sets.dd_len _) (keep_len _ _ _)
  have hYl : (Sets.dd (keepV rb false ra)).length ≤ N := by rw [← hA.1]; exact Nat.le_trans (Sets.dd_len _) (keep_len _ _ _)
  have hZl : (Sets.dd (keepV ra false rb)).length ≤ M := by rw [← hA'.1]; exact Nat.le_trans (Sets.dd_len _) (keep_len _ _ _)
  obtain ⟨nU, hnU⟩ : ∃ n, (Sets.dd (ra ++ rb)).length = n := ⟨_, rfl⟩
  obtain ⟨nX, hnX⟩ : ∃ n, (Sets.dd (keepV rb true ra)).length = n := ⟨_, rfl⟩
  obtain ⟨nY, hnY⟩ : ∃ n, (Sets.dd (keepV rb false ra)).length = n := ⟨_, rfl⟩
  obtain ⟨nZ, hnZ⟩ : ∃ n, (Sets.dd (keepV ra false rb)).length = n := ⟨_, rfl⟩
  obtain ⟨nS, hnS⟩ : ∃ n, (Sets.dd (ra ++ ra)).length = n := ⟨_, rfl⟩
  rw [hnU, hnX, hnY, hnZ] at hsz
  rw [hnX] at hXl
  rw [hnY] at hYl
  rw [hnZ] at hZl
  have hw1 : IntKind.i64.wrap ((nX : Int) + (nY : Int)) = (nX : Int) + (nY : Int) := IntWalk.i64_in _ (by omega)
  have hw2 : IntKind.i64.wrap ((nX : Int) + (nY : Int) + (nZ : Int)) = (nX : Int) + (nY : Int) + (nZ : Int) := IntWalk.i64_in _ (by omega)
  have hend : ((nU : Int) == (nX : Int) + (nY : Int) + (nZ : Int)) = true := by simp; omega
  have hBs : RowsB (Sets.dd (ra ++ ra)) := dd_b (hB1.app hB1 (by rw [hA.1]; omega))
  have hIs : RowsI (Sets.dd (ra ++ ra)) := dd_i (hI1.app hI1)
  have hBu : RowsB (Sets.dd (ra ++ rb)) := dd_b (hB1.app hB2 (by rw [hA.1, hA'.1]; omega))
  have hBx : RowsB (Sets.dd (keepV rb true ra)) := dd_b (keep_b hB1)
  have hBy : RowsB (Sets.dd (keepV rb false ra)) := dd_b (keep_b hB1)
  have hla := hA.1
  have hlb := hA'.1
  replace hnU := Lib.hid hnU
  replace hnX := Lib.hid hnX
  replace hnY := Lib.hid hnY
  replace hnZ := Lib.hid hnZ
  replace hnS := Lib.hid hnS
  replace hsz := Lib.hid hsz
  replace hla := Lib.hid hla
  replace hlb := Lib.hid hlb
  replace hBs := Lib.hid hBs
  replace hIs := Lib.hid hIs
  replace hBu := Lib.hid hBu
  replace hBx := Lib.hid hBx
  replace hBy := Lib.hid hBy
  replace hB1 := Lib.hid hB1
  replace hB2 := Lib.hid hB2
  replace hI1 := Lib.hid hI1
  replace hI2 := Lib.hid hI2
  replace hT := Lib.hid hT
  have tok1 : True := trivial
  have tok2 : True := trivial
  have tok3 : True := trivial
  have tok4 : True := trivial
  go_enter Tryd.func4, Tryd.ntmps4
  go_wp2_with (first
    | (go_at_call_of 7 (Value.int IntKind.i64 3); refine (comp3_is T p N c q M c' ra rb _ (hA.below hb1) (hA'.below hb1) hB1.out hB2.out hN hM hI1.out hI2.out (hT.out.below hb1) nX hnX).mono ?_; rintro e w2 ⟨q2, c2, rfl, hR2, hb2'⟩; have hb2 := hb1.trans (hb2'.mono hb1.size))
    | (go_at_call_of 7 (Value.int IntKind.i64 4); refine (comp4_is T p N c q M c' ra rb _ (hA.below hb2) (hA'.below hb2) hB1.out hB2.out hN hM hI1.out hI2.out (hT.out.below hb2) nY hnY).mono ?_; rintro e w3 ⟨q3, c3, rfl, hR3, hb3'⟩; have hb3 := hb2.trans (hb3'.mono hb2.size))
    | (go_at_call_of 7 (Value.int IntKind.i64 1); first
      | (have _t := tok1; refine (comp1_is T p N c q M c' ra rb _ hA hA' hB1.out hB2.out hN hM hI1.out hI2.out hT.out nU hnU).mono ?_; rintro e w1 ⟨q1, c1, rfl, hR1, hb1⟩; clear tok1)
      | (refine (comp1_is T p N c p N c ra ra _ (hA.below hb3) (hA.below hb3) hB1.out hB1.out hN hN hI1.out hI1.out (hT.out.below hb3) nS hnS).mono ?_; rintro e w4 ⟨q4, c4, rfl, hR4, hb4'⟩; have hb4 := hb3.trans (hb4'.mono hb3.size)))
    | (go_at_call 9; refine (head_any T _ (hT.out.below hb4)).mono ?_; rintro e w5 ⟨rfl, hb5'⟩; have hb5 := hb4.trans (hb5'.mono hb4.size))
    | (go_at_call 11; first
      | (have _t := tok2; refine (sdistinct_is T p N c ra _ (hA.below hb5) hB1.out hI1.out (hT.out.below hb5)).mono ?_; rintro e w6 ⟨q6, c6, rfl, ho6, hb6'⟩; have hb6 := hb5.trans (hb6'.mono hb5.size); clear tok2)
      | (refine (sdistinct_is T q4 nS c4 _ _ (((hR4.below hb5').below hb6').below hb7') hBs.out hIs.out (hT.out.below hb7)).mono ?_; rintro e w8 ⟨q8, c8, rfl, ho8, hb8'⟩; have hb8 := hb7.trans (hb8'.mono hb7.size)))
    | (go_at_call 10; first
      | (have _t := tok3; refine (sameRows_is q4 nS c4 _ _ _ _ _ _ ((hR4.below hb5').below hb6') ho6.rows hBs.out true (Lib.hid (decide_eq_true (Sets.dd_twice ra)))).mono ?_; rintro e w7 ⟨rfl, hb7'⟩; have hb7 := hb6.trans (hb7'.mono hb6.size); clear tok3)
      | (refine (sameRows_is _ _ _ q4 nS c4 _ _ _ ho8.rows ((((hR4.below hb5').below hb6').below hb7').below hb8') (dd_b hBs.out) true (Lib.hid (decide_eq_true (Sets.dd_dd _)))).mono ?_; rintro e w9 ⟨rfl, hb9'⟩; have hb9 := hb8.trans (hb9'.mono hb8.size)))
    | (at_builtin; first
      | (have _t := tok4; refine wpList_appendRows (w0 := w) rfl _ _ rfl w9.heap.size none 0 0 [] rfl (RowsOwn.nil _ _) p N c ra rfl hA hb9 hb9.size (by omega) (Nat.le_refl _) ?_; intro q10 c10 w10 ho10 hb10'; rw [List.nil_append, Nat.zero_add] at ho10; have hb10 := hb9.trans (hb10'.mono hb9.size); clear tok4)
      | (refine wpList_appendRows (w0 := w) rfl _ _ rfl w9.heap.size q10 c10 N ra rfl ho10 q M c' rb rfl hA' hb10 hb9.size (by omega) hb10'.size ?_; intro q11 c11 w11 ho11 hb11'; have hb11 := hb10.trans (hb11'.mono hb9.size))))
  obtain ⟨L, hL⟩ : ∃ L, N + M = L := ⟨_, rfl⟩
  rw [hL] at ho11 ⊢
  have hLl : L ≤ 2097152 := by omega
  have hRL : RowsAt w11 q11 L (ra ++ rb) := ho11.rows
  have hAl := hA.below hb11
  have hAl' := hA'.below hb11
  have hs9 := hb10'.trans hb11'
  have hUr : RowsAt w11 q1 nU (Sets.dd (ra ++ rb)) := ((((((((hR1.below hb2').below hb3').below hb4').below hb5').below hb6').below hb7').below hb8').below hb9').below hs9
  have hXr : RowsAt w11 q2 nX (Sets.dd (keepV rb true ra)) := (((((((hR2.below hb3').below hb4').below hb5').below hb6').below hb7').below hb8').below hb9').below hs9
  have hYr : RowsAt w11 q3 nY (Sets.dd (keepV rb false ra)) := ((((((hR3.below hb4').below hb5').below hb6').below hb7').below hb8').below hb9').below hs9
  replace hL := Lib.hid hL
  clear hR1 hR2 hR3 hR4 ho6 ho8 ho10 ho11
  go_loopw [14] (fun iv wr => ∃ i : Nat, iv = .int .i64 (i : Int) ∧ i ≤ L ∧ Below w11.heap.size w11 wr) (fun iv _ => L - (intOf iv).toNat)
  case atStart => exact ⟨0, by go_num, by omega, Below.refl _ _⟩
  case round =>
    obtain ⟨i, rfl, hi, hB⟩ := hrel
    by_cases hlt : i < L
    · have hlB : decide ((i : Int) < (L : Int)) = true := by simp; omega
      obtain ⟨r, b, off, q', c'', hr, rfl, hbl, c0, hs, hv0⟩ := (hRL.below hB).at hlt
      have hmem : r ∈ ra ∨ r ∈ rb := List.mem_append.1 (List.mem_of_getElem? hr)
      have H0 : wr.cell? ⟨b, off + i, none⟩ = some (.slice q' r.length c'') ∧ Below wr.heap.size wr wr := ⟨c0, Below.refl _ _⟩
      have tU : TimesOk wr q1 nU c1 q' r.length c'' 1 := timesOk (hUr.below hB) hBu.out hv0 (count_U hmem)
      have key : ∃ (kA kB kX kY : Nat) (xa xb : Bool), TimesOk wr p N c q' r.length c'' kA ∧ TimesOk wr q M c' q' r.length c'' kB ∧ TimesOk wr q2 nX c2 q' r.length c'' kX ∧ TimesOk wr q3 nY c3 q' r.length c'' kY ∧ decide ((kA : Int) > 0) = xa ∧ decide ((kB : Int) > 0) = xb ∧ kX = (xa && xb).toNat ∧ kY = (xa && !xb).toNat := by
        refine ⟨_, _, if r ∈ ra ∧ r ∈ rb then 1 else 0, if r ∈ ra ∧ ¬ r ∈ rb then 1 else 0, decide (r ∈ ra), decide (r ∈ rb), timesOk (hAl.below hB) hB1.out hv0 rfl, timesOk (hAl'.below hB) hB2.out hv0 rfl, timesOk (hXr.below hB) hBx.out hv0 ?_, timesOk (hYr.below hB) hBy.out hv0 ?_, ?_, ?_, ?_, ?_⟩
        · by_cases h : r ∈ ra ∧ r ∈ rb
          · rw [if_pos h]; exact count_K1 h.1 (decide_eq_true h.2)
          · rw [if_neg h]; exact count_K0 fun x => h ⟨x.1, of_decide_eq_true x.2⟩
        · by_cases h : r ∈ ra ∧ ¬ r ∈ rb
          · rw [if_pos h]; exact count_K1 h.1 (decide_eq_false h.2)
          · rw [if_neg h]; exact count_K0 fun x => h ⟨x.1, of_decide_eq_false x.2⟩
        · have : (((ra.count r : Nat) : Int) > 0) ↔ r ∈ ra := by rw [← List.count_pos_iff]; omega
          exact decide_eq_decide.2 this
        · have : (((rb.count r : Nat) : Int) > 0) ↔ r ∈ rb := by rw [← List.count_pos_iff]; omega
          exact decide_eq_decide.2 this
        · by_cases h1 : r ∈ ra <;> by_cases h2 : r ∈ rb <;> simp [h1, h2]
        · by_cases h1 : r ∈ ra <;> by_cases h2 : r ∈ rb <;> simp [h1, h2]
      obtain ⟨kA, kB, kX, kY, xa, xb, tA, tB, tX, tY, eA, eB, eX, eY⟩ := key
      have i0 : (0 : Int) ≤ (i : Int) := by omega
      have i1 : (i : Int) < (L : Int) := by omega
      clear hr hmem c0 hs hv0 hRL hAl hAl' hUr hXr hYr hA hA' hN hM hsz hXl hYl hZl hnU hnX hnY hnZ hnS hw1 hw2 hend hBs hIs hBu hBx hBy hla hlb hB1 hB2 hI1 hI2 hT hb1 hb2 hb3 hb4 hb5 hb6 hb7 hb8 hb9 hb10 hb2' hb3' hb4' hb5' hb6' hb7' hb8' hb9' hb10' hb11' hs9 hL
      cases xa <;> cases xb
      all_goals (
        simp at eX eY
        subst eX
        subst eY
        (first | (simp at eA; subst eA) | (have pA : 0 < kA := by simpa using eA))
        (first | (simp at eB; subst eB) | (have pB : 0 < kB := by simpa using eB))
        go_wp2_with fail
        go_region_held3 (fun W => W.cell? ⟨b, off + i, none⟩ = some (.slice q' r.length c'') ∧ Below wr.heap.size wr W) (first | assumption | exact keepTm hbl (by assumption) (by assumption) | exact keepTm0 (by assumption)) (first
          | (go_at_call_of 13 (Value.slice p N c); refine (TimesOk.use tA (by assumption)).mono ?_; rintro e w20 ⟨rfl, hb20⟩)
          | (go_at_call_of 13 (Value.slice q M c'); refine (TimesOk.use tB (by assumption)).mono ?_; rintro e w21 ⟨rfl, hb21⟩))
        rename_i hS
        obtain ⟨d3, hb3⟩ := hS
        go_wp2_with (first
          | (go_at_call_of 13 (Value.slice q1 nU c1); refine (tU.on _ hb3).mono ?_; rintro e w22 ⟨rfl, hb22⟩; obtain ⟨d4, hb4⟩ := keepTm hbl ⟨d3, hb3⟩ hb22)
          | (go_at_call_of 13 (Value.slice q2 nX c2); refine (tX.on _ hb4).mono ?_; rintro e w23 ⟨rfl, hb23⟩; obtain ⟨d5, hb5⟩ := keepTm hbl ⟨d4, hb4⟩ hb23)
          | (go_at_call_of 13 (Value.slice q3 nY c3); refine (tY.on _ hb5).mono ?_; rintro e w24 ⟨rfl, hb24⟩; obtain ⟨d6, hb6⟩ := keepTm hbl ⟨d5, hb5⟩ hb24))
        go_roundw
        case rel => exact ⟨i + 1, by go_num, by omega, hB.trans (hb6.mono hB.size)⟩
        case measure => simp [intOf]; omega)
    · have hlB : decide ((i : Int) < (L : Int)) = false := by simp; omega
      go_wp2_with (go_at_call 14; refine (only_is T q M c' p N c rb ra _ (hAl'.below hB) (hAl.below hB) hB2.out hB1.out hM hN hI2.out hI1.out (hT.out.below (hb11.trans (hB.mono hb11.size))) nZ hnZ).mono ?_; rintro e w22 ⟨q22, c22, rfl, _, hb22⟩)
      go_ret
      exact ⟨rfl, (hb11.trans (hB.mono hb11.size)).trans (hb22.mono (Nat.le_trans hb11.size hB.size))⟩
end Go.Proofs.YtdapnemcdgjeeaaDoor
