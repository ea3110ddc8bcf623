/- Walks: how often a row stands among rows; the second alone (law SorterSets). -/
import Derived.Test.YtdapnemcdgjeeaaDoorTells
set_option maxRecDepth 100000
set_option linter.unusedVariables false
set_option linter.unusedSimpArgs false
namespace Go.Proofs.YtdapnemcdgjeeaaDoor
open Go.RowKit

set_option maxHeartbeats 1000000 in
theorem times_is (p : Option Addr) (N c : Nat) (rows : List (List Val.V)) (q : Option Addr) (M c' : Nat) (r : List Val.V) (w : World) (hR : RowsAt w p N rows) (hB : RowsB rows) (hV : ValsAt w q M r) (k : Nat) (hk : Hid (rows.count r = k)) :
    Calls Tryd.prog 13 #[.slice p N c, .slice q M c'] w fun e w' => e = .returned (.int .i64 (k : Int)) ∧ Below w.heap.size w w' := by
  have hlen := hR.1
  have hN : N ≤ 8388608 := by rw [← hlen]; exact hB.1
  replace hlen := Lib.hid hlen
  replace hB := Lib.hid hB
  go_enter Tryd.func13, Tryd.ntmps13
  go_wp2
  go_loopw [5, 6] (fun nv iv wr => ∃ n i : Nat, nv = .int .i64 (n : Int) ∧ iv = .int .i64 (i : Int) ∧ i ≤ N ∧ n ≤ i ∧ Hid ((rows.take i).count r = n) ∧ Below w.heap.size w wr) (fun _ iv _ => N - (intOf iv).toNat)
  case atStart => exact ⟨0, 0, by go_num, by go_num, by omega, by omega, Lib.hid (by simp), Below.refl _ _⟩
  case round =>
    obtain ⟨n, i, rfl, rfl, hi, hni, hno, hB1⟩ := hrel
    by_cases hlt : i < N
    · have hlB : decide ((i : Int) < (N : Int)) = true := by simp; omega
      obtain ⟨s, b1, off, p1, c1, hs, rfl, hbl, k0, hs1, hv1⟩ := (hR.below hB1).at hlt
      have hmem := List.mem_of_getElem? hs
      have hsl := (hB.out.2 s hmem).1
      have hti : rows.take (i + 1) = rows.take i ++ [s] := by rw [List.take_add_one, hs]; rfl
      have i0 : (0 : Int) ≤ (i : Int) := by omega
      have i1 : (i : Int) < (N : Int) := by omega
      have hVr := hV.below hB1
      clear hs
      by_cases hsr : s = r
      · have hd : decide (s = r) = true := decide_eq_true hsr
        have hno2 : (rows.take (i + 1)).count r = n + 1 := by
          rw [hti, List.count_append, hno.out, hsr]
          simp
        replace hd := Lib.hid hd
        replace hno2 := Lib.hid hno2
        clear hti hmem hsr hno
        go_wp2_with (go_at_call 27; refine (sameRow_is p1 s.length c1 q M c' s r _ hv1 hVr hsl true hd).mono ?_; rintro e w1 ⟨rfl, hb1⟩)
        go_roundw
        case rel => exact ⟨n + 1, i + 1, by go_num, by go_num, by omega, by omega, hno2, hB1.trans (hb1.mono hB1.size)⟩
        case measure => simp [intOf]; omega
      · have hd : decide (s = r) = false := decide_eq_false hsr
        have hno2 : (rows.take (i + 1)).count r = n := by
          rw [hti, List.count_append, hno.out, List.count_cons_of_ne hsr]
          simp
        replace hd := Lib.hid hd
        replace hno2 := Lib.hid hno2
        clear hti hmem hsr hno
        go_wp2_with (go_at_call 27; refine (sameRow_is p1 s.length c1 q M c' s r _ hv1 hVr hsl false hd).mono ?_; rintro e w1 ⟨rfl, hb1⟩)
        go_roundw
        case rel => exact ⟨n, i + 1, rfl, by go_num, by omega, by omega, hno2, hB1.trans (hb1.mono hB1.size)⟩
        case measure => simp [intOf]; omega
    · have hlB : decide ((i : Int) < (N : Int)) = false := by simp; omega
      have hno2 := hno.out
      rw [List.take_of_length_le (by rw [hlen.out]; omega), hk.out] at hno2
      subst hno2
      clear hno
      go_wp2
      go_ret
      exact ⟨rfl, hB1⟩
/-- what putting together answers where it may -/
def Two0 (n : Nat) (rows : List (List Val.V)) (w : World) (e : Ending) (w' : World) : Prop :=
  ∃ q c, e = .returned (.tuple #[.slice q n c, .int .i64 0]) ∧ RowsAt w' q n rows ∧ Below w.heap.size w w'
theorem two0 {rows : List (List Val.V)} {w w' : World} {e : Ending} {n : Nat} (hn : Hid (rows.length = n)) (h : TwoP rows 0 w e w') : Two0 n rows w e w' := by
  obtain ⟨q, c, h1, h2, h3⟩ := h
  rw [hn.out] at h1 h2
  exact ⟨q, c, h1, h2, h3⟩
theorem comp1_is (T : Lib.PrintTabs) (p : Option Addr) (N c : Nat) (q : Option Addr) (M c' : Nat) (ra rb : List (List Val.V)) (w : World) (hA : RowsAt w p N ra) (hA' : RowsAt w q M rb) (hB1 : RowsB ra) (hB2 : RowsB rb) (hN : N ≤ 1048576) (hM : M ≤ 1048576) (hI1 : RowsI ra) (hI2 : RowsI rb) (hT : Tabs T w) (n : Nat) (hn : Hid ((Sets.dd (ra ++ rb)).length = n)) :
    Calls Tryd.prog 7 #[.int .i64 1, .slice p N c, .slice q M c'] w (Two0 n (Sets.dd (ra ++ rb)) w) := by
  refine (scompound_is T 1 p N c q M c' ra rb w hA hA' hB1 hB2 hN hM hI1 hI2 hT).mono fun e w' h => two0 hn ?_
  have e1 : compV 1 ra rb = Sets.dd (ra ++ rb) := by rw [compV, if_neg (by decide), if_pos rfl]
  rw [e1] at h
  exact h
theorem comp3_is (T : Lib.PrintTabs) (p : Option Addr) (N c : Nat) (q : Option Addr) (M c' : Nat) (ra rb : List (List Val.V)) (w : World) (hA : RowsAt w p N ra) (hA' : RowsAt w q M rb) (hB1 : RowsB ra) (hB2 : RowsB rb) (hN : N ≤ 1048576) (hM : M ≤ 1048576) (hI1 : RowsI ra) (hI2 : RowsI rb) (hT : Tabs T w) (n : Nat) (hn : Hid ((Sets.dd (keepV rb true ra)).length = n)) :
    Calls Tryd.prog 7 #[.int .i64 3, .slice p N c, .slice q M c'] w (Two0 n (Sets.dd (keepV rb true ra)) w) := by
  refine (scompound_is T 3 p N c q M c' ra rb w hA hA' hB1 hB2 hN hM hI1 hI2 hT).mono fun e w' h => two0 hn ?_
  have e1 : compV 3 ra rb = Sets.dd (keepV rb true ra) := by rw [compV, if_neg (by decide), if_neg (by decide), if_pos rfl]
  rw [e1] at h
  exact h
theorem comp4_is (T : Lib.PrintTabs) (p : Option Addr) (N c : Nat) (q : Option Addr) (M c' : Nat) (ra rb : List (List Val.V)) (w : World) (hA : RowsAt w p N ra) (hA' : RowsAt w q M rb) (hB1 : RowsB ra) (hB2 : RowsB rb) (hN : N ≤ 1048576) (hM : M ≤ 1048576) (hI1 : RowsI ra) (hI2 : RowsI rb) (hT : Tabs T w) (n : Nat) (hn : Hid ((Sets.dd (keepV rb false ra)).length = n)) :
    Calls Tryd.prog 7 #[.int .i64 4, .slice p N c, .slice q M c'] w (Two0 n (Sets.dd (keepV rb false ra)) w) := by
  refine (scompound_is T 4 p N c q M c' ra rb w hA hA' hB1 hB2 hN hM hI1 hI2 hT).mono fun e w' h => two0 hn ?_
  have e1 : compV 4 ra rb = Sets.dd (keepV rb false ra) := by rw [compV, if_neg (by decide), if_neg (by decide), if_neg (by decide), if_pos rfl]
  rw [e1] at h
  exact h
/-- what the second alone answers -/
def OnlyP (n : Nat) (rows : List (List Val.V)) (w : World) (e : Ending) (w' : World) : Prop :=
  ∃ q c, e = .returned (.slice q n c) ∧ RowsAt w' q n rows ∧ Below w.heap.size w w'
set_option maxHeartbeats 1000000 in
theorem only_is (T : Lib.PrintTabs) (p : Option Addr) (N c : Nat) (q : Option Addr) (M c' : Nat) (ra rb : List (List Val.V)) (w : World) (hA : RowsAt w p N ra) (hA' : RowsAt w q M rb) (hB1 : RowsB ra) (hB2 : RowsB rb) (hN : N ≤ 1048576) (hM : M ≤ 1048576) (hI1 : RowsI ra) (hI2 : RowsI rb) (hT : Tabs T w) (n : Nat) (hn : Hid ((Sets.dd (keepV rb false ra)).length = n)) :
    Calls Tryd.prog 14 #[.slice p N c, .slice q M c'] w (OnlyP n (Sets.dd (keepV rb false ra)) w) := by
  replace hB1 := Lib.hid hB1
  replace hB2 := Lib.hid hB2
  replace hI1 := Lib.hid hI1
  replace hI2 := Lib.hid hI2
  replace hT := Lib.hid hT
  go_enter Tryd.func14, Tryd.ntmps14
  go_wp2_with (go_at_call 7; refine (comp4_is T p N c q M c' ra rb _ hA hA' hB1.out hB2.out hN hM hI1.out hI2.out hT.out n hn).mono ?_; rintro e w1 ⟨q1, c1, rfl, hR1, hb1⟩)
  go_ret
  exact ⟨q1, c1, rfl, hR1, hb1⟩
/-- how often, in whatever later world -/
structure TimesOk (w : World) (p : Option Addr) (N c : Nat) (q : Option Addr) (n c' : Nat) (k : Nat) : Prop where
  on : ∀ W, Below w.heap.size w W → Calls Tryd.prog 13 #[.slice p N c, .slice q n c'] W fun e w' => e = .returned (.int .i64 (k : Int)) ∧ Below W.heap.size W w'
theorem TimesOk.use {w W : World} {p : Option Addr} {N c : Nat} {q : Option Addr} {n c' k b o : Nat} {x : Value} (h : TimesOk w p N c q n c' k) (hS : W.cell? ⟨b, o, none⟩ = some x ∧ Below w.heap.size w W) : Calls Tryd.prog 13 #[.slice p N c, .slice q n c'] W fun e w' => e = .returned (.int .i64 (k : Int)) ∧ Below W.heap.size W w' := h.on W hS.2
theorem timesOk {w : World} {p : Option Addr} {N c : Nat} {q : Option Addr} {n c' k : Nat} {rows : List (List Val.V)} {r : List Val.V} (hR : RowsAt w p N rows) (hB : RowsB rows) (hV : ValsAt w q n r) (hk : rows.count r = k) : TimesOk w p N c q n c' k :=
  ⟨fun W hW => times_is p N c rows q n c' r W (hR.below hW) hB (hV.below hW) k (Lib.hid hk)⟩
theorem keepTm {w W W' : World} {g o : Nat} {x : Value} (l : g < w.heap.size) (h : W.cell? ⟨g, o, none⟩ = some x ∧ Below w.heap.size w W) (hb : Below W.heap.size W W') : W'.cell? ⟨g, o, none⟩ = some x ∧ Below w.heap.size w W' :=
  ⟨(hb.cell (p := ⟨g, _, none⟩) (Nat.lt_of_lt_of_le l h.2.size)).trans h.1, h.2.trans (hb.mono h.2.size)⟩
theorem keepTm0 {w W : World} {g o : Nat} {x : Value} (h : W.cell? ⟨g, o, none⟩ = some x ∧ Below w.heap.size w W) : W.drew.cell? ⟨g, o, none⟩ = some x ∧ Below w.heap.size w W.drew := ⟨h.1, h.2.drew⟩
end Go.Proofs.YtdapnemcdgjeeaaDoor
