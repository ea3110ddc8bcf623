/- Walks: rows told apart and put together (the reference of layer 20). -/
import Derived.Test.YtdapnemcdgjeeaaDoorCmpd
set_option maxRecDepth 100000
set_option linter.unusedVariables false
set_option linter.unusedSimpArgs false
namespace Go.Proofs.YtdapnemcdgjeeaaDoor
open Go.RowKit

set_option maxHeartbeats 1000000 in
theorem rhas_is (p : Option Addr) (N c : Nat) (rows : List (List Val.V)) (q : Option Addr) (M c' : Nat) (r : List Val.V) (w : World) (hR : RowsAt w p N rows) (hB : RowsB rows) (hV : ValsAt w q M r) (b : Bool) (hb : Hid (decide (r ∈ rows) = b)) :
    Calls Tryd.prog 25 #[.slice p N c, .slice q M c'] w fun e w' => e = .returned (.bool b) ∧ Below w.heap.size w w' := by
  have hlen := hR.1
  have hN : N ≤ 8388608 := by rw [← hlen]; exact hB.1
  replace hlen := Lib.hid hlen
  replace hB := Lib.hid hB
  go_enter Tryd.func25, Tryd.ntmps25
  go_wp2
  go_loopw [5] (fun iv wr => ∃ i : Nat, iv = .int .i64 (i : Int) ∧ i ≤ N ∧ Hid (¬ r ∈ rows.take i) ∧ Below w.heap.size w wr) (fun iv _ => N - (intOf iv).toNat)
  case atStart => exact ⟨0, by go_num, by omega, Lib.hid (by simp), Below.refl _ _⟩
  case round =>
    obtain ⟨i, rfl, hi, hno, hB1⟩ := hrel
    by_cases hlt : i < N
    · have hlB : decide ((i : Int) < (N : Int)) = true := by simp; omega
      obtain ⟨s, b1, off, p1, c1, hs, rfl, hbl, k0, hs1, hv1⟩ := (hR.below hB1).at hlt
      have hmem := List.mem_of_getElem? hs
      have hsl := (hB.out.2 s hmem).1
      have hti : rows.take (i + 1) = rows.take i ++ [s] := by rw [List.take_add_one, hs]; rfl
      have i0 : (0 : Int) ≤ (i : Int) := by omega
      have i1 : (i : Int) < (N : Int) := by omega
      have hVr := hV.below hB1
      clear hs
      by_cases hsr : s = r
      · have hd : decide (s = r) = true := decide_eq_true hsr
        have hbt : decide (r ∈ rows) = true := decide_eq_true (hsr ▸ hmem)
        rw [hb.out] at hbt
        subst hbt
        replace hd := Lib.hid hd
        clear hti hmem hsr
        go_wp2_with (go_at_call 27; refine (sameRow_is p1 s.length c1 q M c' s r _ hv1 hVr hsl true hd).mono ?_; rintro e w1 ⟨rfl, hb1⟩)
        go_ret
        exact ⟨rfl, hB1.trans (hb1.mono hB1.size)⟩
      · have hd : decide (s = r) = false := decide_eq_false hsr
        have hno2 : ¬ r ∈ rows.take (i + 1) := by
          rw [hti, List.mem_append, List.mem_singleton]
          exact fun h => h.elim hno.out fun e => hsr e.symm
        replace hd := Lib.hid hd
        replace hno2 := Lib.hid hno2
        clear hti hmem hsr hno
        go_wp2_with (go_at_call 27; refine (sameRow_is p1 s.length c1 q M c' s r _ hv1 hVr hsl false hd).mono ?_; rintro e w1 ⟨rfl, hb1⟩)
        go_roundw
        case rel => exact ⟨i + 1, by go_num, by omega, hno2, hB1.trans (hb1.mono hB1.size)⟩
        case measure => simp [intOf]; omega
    · have hlB : decide ((i : Int) < (N : Int)) = false := by simp; omega
      have hno2 := hno.out
      rw [List.take_of_length_le (by rw [hlen.out]; omega)] at hno2
      have hbt : decide (r ∈ rows) = false := decide_eq_false hno2
      rw [hb.out] at hbt
      subst hbt
      clear hno hno2
      go_wp2
      go_ret
      exact ⟨rfl, hB1⟩

set_option maxHeartbeats 2000000 in
theorem rdistinct_is (p : Option Addr) (N c : Nat) (rows : List (List Val.V)) (w : World) (hR : RowsAt w p N rows) (hB : RowsB rows) :
    Calls Tryd.prog 12 #[.slice p N c] w (RowsP (Sets.dd rows).length (Sets.dd rows) w) := by
  have hlen := hR.1
  have hN : N ≤ 8388608 := by rw [← hlen]; exact hB.1
  replace hlen := Lib.hid hlen
  replace hB := Lib.hid hB
  go_enter Tryd.func12, Tryd.ntmps12
  go_wp2
  go_loopw [3, 4] (fun ov iv wr => ∃ (q : Option Addr) (n i co : Nat), ov = .slice q n co ∧ iv = .int .i64 (i : Int) ∧ i ≤ N ∧ n ≤ i ∧ RowsOwn wr w.heap.size (.slice q n co) n (Sets.dd (rows.take i)) ∧ Below w.heap.size w wr) (fun _ iv _ => N - (intOf iv).toNat)
  case atStart => exact ⟨none, 0, 0, 0, rfl, by go_num, by omega, by omega, RowsOwn.nil _ _, Below.refl _ _⟩
  case round =>
    obtain ⟨q, n, i, co, rfl, rfl, hi, hni, hrow, hb⟩ := hrel
    by_cases hlt : i < N
    · have hlB : decide ((i : Int) < (N : Int)) = true := by simp; omega
      obtain ⟨r, b, off, q', c', hr, rfl, hbl, c0', hs, hv0⟩ := hR.at hlt
      have c0 : wr.cell? ⟨b, off + i, none⟩ = some (.slice q' r.length c') := (hb.cell (p := ⟨b, _, none⟩) hbl).trans c0'
      have hsn : rows.take (i + 1) = rows.take i ++ [r] := by rw [List.take_add_one, hr]; rfl
      have hBd : RowsB (Sets.dd (rows.take i)) := ⟨by obtain ⟨_, _, _, h3, _⟩ := hrow; rw [h3]; omega, fun x hx => hB.out.2 x (List.mem_of_mem_take ((Sets.mem_dd _ _).1 hx))⟩
      have i0 : (0 : Int) ≤ (i : Int) := by omega
      have i1 : (i : Int) < (N : Int) := by omega
      replace hBd := Lib.hid hBd
      by_cases hin : r ∈ rows.take i
      · have hd : decide (r ∈ Sets.dd (rows.take i)) = true := decide_eq_true ((Sets.mem_dd _ _).2 hin)
        have hdd : Sets.dd (rows.take (i + 1)) = Sets.dd (rows.take i) := by
          rw [hsn]
          unfold Sets.dd
          rw [Sets.ddF_snoc, if_pos (by rw [Sets.mem_ddF]; exact .inr hin)]
        replace hd := Lib.hid hd
        replace hdd := Lib.hid hdd
        clear hin hsn hr
        go_wp2_with (go_at_call 25; refine (rhas_is q n co (Sets.dd (rows.take i)) q' r.length c' r _ hrow.rows hBd.out (hv0.below hb) true hd).mono ?_; rintro e w1 ⟨rfl, hb1⟩)
        go_roundw
        case rel => exact ⟨q, n, i + 1, co, rfl, by go_num, by omega, by omega, by rw [hdd.out]; exact hrow.below hb1, hb.trans (hb1.mono hb.size)⟩
        case measure => simp [intOf]; omega
      · have hd : decide (r ∈ Sets.dd (rows.take i)) = false := decide_eq_false (fun h => hin ((Sets.mem_dd _ _).1 h))
        have hdd : Sets.dd (rows.take (i + 1)) = Sets.dd (rows.take i) ++ [r] := by
          rw [hsn]
          unfold Sets.dd
          rw [Sets.ddF_snoc, if_neg (by rw [Sets.mem_ddF]; simp [hin])]
        replace hd := Lib.hid hd
        replace hdd := Lib.hid hdd
        clear hin hsn hr
        go_wp2_with (first
          | (go_at_call 25; refine (rhas_is q n co (Sets.dd (rows.take i)) q' r.length c' r _ hrow.rows hBd.out (hv0.below hb) false hd).mono ?_; rintro e w1 ⟨rfl, hb1⟩; have hb2 := hb.trans (hb1.mono hb.size); have k0 : w1.cell? ⟨b, off + i, none⟩ = some (.slice q' r.length c') := (hb2.cell (p := ⟨b, _, none⟩) hbl).trans c0'; have hel := ElAt.old (W := w1) (base := w.heap.size) (n := n) (v := .slice q n co) hv0 hb2 hs (fun m hm => (hrow.le m hm).1))
          | (at_builtin; go_must (refine wpList_pushRow rfl rfl _ _ rfl w.heap.size (.slice q n co) n (Sets.dd (rows.take i)) rfl (hrow.below hb1) _ r hel rfl (by omega) hb2.size ?_); intro q2 c2 w4 hown2 hb4 hg4))
        go_roundw
        case rel => exact ⟨q2, n + 1, i + 1, c2, rfl, by go_num, by omega, by omega, by rw [hdd.out]; exact hown2, hb2.trans hb4⟩
        case measure => simp [intOf]; omega
    · have hlB : decide ((i : Int) < (N : Int)) = false := by simp; omega
      rw [List.take_of_length_le (by rw [hlen.out]; omega)] at hrow
      have hn : n = (Sets.dd rows).length := by obtain ⟨_, _, _, h3, _⟩ := hrow; exact h3.symm
      subst hn
      go_wp2
      go_ret
      exact ⟨q, co, rfl, hrow, hb⟩

set_option maxHeartbeats 4000000 in
theorem rkeep_3 (p : Option Addr) (N c : Nat) (q : Option Addr) (M c' : Nat) (ra rb : List (List Val.V)) (w : World) (hA : RowsAt w p N ra) (hA' : RowsAt w q M rb) (hB1 : RowsB ra) (hB2 : RowsB rb) :
    Calls Tryd.prog 8 #[.int .i64 3, .slice p N c, .slice q M c'] w (TwoP (Sets.dd (keepV rb (Nat.beq 3 3) ra)) 0 w) := by
  have hlen := hA.1
  have hN : N ≤ 8388608 := by rw [← hlen]; exact hB1.1
  replace hlen := Lib.hid hlen
  replace hB1 := Lib.hid hB1
  replace hB2 := Lib.hid hB2
  go_enter Tryd.func8, Tryd.ntmps8
  go_wp2
  go_loopw [8, 9] (fun ov iv wr => ∃ (q : Option Addr) (n i co : Nat), ov = .slice q n co ∧ iv = .int .i64 (i : Int) ∧ i ≤ N ∧ n ≤ i ∧ RowsOwn wr w.heap.size (.slice q n co) n (keepV rb (Nat.beq 3 3) (ra.take i)) ∧ Below w.heap.size w wr) (fun _ iv _ => N - (intOf iv).toNat)
  case atStart => exact ⟨none, 0, 0, 0, rfl, by go_num, by omega, by omega, RowsOwn.nil _ _, Below.refl _ _⟩
  case round =>
    obtain ⟨q1, n, i, co, rfl, rfl, hi, hni, hrow, hb⟩ := hrel
    by_cases hlt : i < N
    · have hlB : decide ((i : Int) < (N : Int)) = true := by simp; omega
      obtain ⟨r, b, off, q', c'', hr, rfl, hbl, c0', hs, hv0⟩ := hA.at hlt
      have c0 : wr.cell? ⟨b, off + i, none⟩ = some (.slice q' r.length c'') := (hb.cell (p := ⟨b, _, none⟩) hbl).trans c0'
      have hsn : ra.take (i + 1) = ra.take i ++ [r] := by rw [List.take_add_one, hr]; rfl
      have hks := keep_snoc rb (Nat.beq 3 3) (ra.take i) r
      rw [← hsn] at hks
      have i0 : (0 : Int) ≤ (i : Int) := by omega
      have i1 : (i : Int) < (N : Int) := by omega
      obtain ⟨hh, hhe⟩ : ∃ hh, decide (r ∈ rb) = hh := ⟨_, rfl⟩
      rw [hhe] at hks
      replace hhe := Lib.hid hhe
      clear hsn hr
      cases hw : (hh == Nat.beq 3 3) with
      | true =>
        rw [if_pos hw] at hks
        replace hks := Lib.hid hks
        have hwt : (hh == ((3 : Int) == 3)) = true := hw
        have hw2 : hh = ((3 : Int) == 3) := by simpa using hwt
        clear hw hwt
        subst hw2
        go_wp2_with (first
          | (go_at_call 25; refine (rhas_is q M c' rb q' r.length c'' r _ (hA'.below hb) hB2.out (hv0.below hb) _ hhe).mono ?_; rintro e w1 ⟨rfl, hb1⟩; have hb2 := hb.trans (hb1.mono hb.size); have k0 : w1.cell? ⟨b, off + i, none⟩ = some (.slice q' r.length c'') := (hb2.cell (p := ⟨b, _, none⟩) hbl).trans c0'; have hel := ElAt.old (W := w1) (base := w.heap.size) (n := n) (v := .slice q1 n co) hv0 hb2 hs (fun m hm => (hrow.le m hm).1))
          | (at_builtin; go_must (refine wpList_pushRow rfl rfl _ _ rfl w.heap.size (.slice q1 n co) n (keepV rb (Nat.beq 3 3) (ra.take i)) rfl (hrow.below hb1) _ r hel rfl (by omega) hb2.size ?_); intro q2 c2 w4 hown2 hb4 hg4))
        go_roundw
        case rel => exact ⟨q2, n + 1, i + 1, c2, rfl, by go_num, by omega, by omega, by rw [hks.out]; exact hown2, hb2.trans hb4⟩
        case measure => simp [intOf]; omega
      | false =>
        rw [if_neg (by rw [hw]; simp)] at hks
        replace hks := Lib.hid hks
        have hwt : (hh == ((3 : Int) == 3)) = false := hw
        have hw2 : hh = !((3 : Int) == 3) := by cases hh <;> simp_all
        clear hw hwt
        subst hw2
        go_wp2_with (go_at_call 25; refine (rhas_is q M c' rb q' r.length c'' r _ (hA'.below hb) hB2.out (hv0.below hb) _ hhe).mono ?_; rintro e w1 ⟨rfl, hb1⟩)
        go_roundw
        case rel => exact ⟨q1, n, i + 1, co, rfl, by go_num, by omega, by omega, by rw [hks.out]; exact hrow.below hb1, hb.trans (hb1.mono hb.size)⟩
        case measure => simp [intOf]; omega
    · have hlB : decide ((i : Int) < (N : Int)) = false := by simp; omega
      rw [List.take_of_length_le (by rw [hlen.out]; omega)] at hrow
      have hBk : RowsB (keepV rb (Nat.beq 3 3) ra) := ⟨Nat.le_trans (keep_len _ _ _) hB1.out.1, fun r hr => hB1.out.2 r (List.mem_filter.1 hr).1⟩
      replace hBk := Lib.hid hBk
      go_wp2_with (go_at_call 12; refine (rdistinct_is q1 n co (keepV rb (Nat.beq 3 3) ra) wr hrow.rows hBk.out).mono ?_; rintro e w3 ⟨q3, c3, rfl, hown3, hb3⟩)
      go_ret2
      exact ⟨q3, c3, rfl, hown3.rows, hb.trans (hb3.mono hb.size)⟩
set_option maxHeartbeats 4000000 in
theorem rkeep_4 (p : Option Addr) (N c : Nat) (q : Option Addr) (M c' : Nat) (ra rb : List (List Val.V)) (w : World) (hA : RowsAt w p N ra) (hA' : RowsAt w q M rb) (hB1 : RowsB ra) (hB2 : RowsB rb) :
    Calls Tryd.prog 8 #[.int .i64 4, .slice p N c, .slice q M c'] w (TwoP (Sets.dd (keepV rb (Nat.beq 4 3) ra)) 0 w) := by
  have hlen := hA.1
  have hN : N ≤ 8388608 := by rw [← hlen]; exact hB1.1
  replace hlen := Lib.hid hlen
  replace hB1 := Lib.hid hB1
  replace hB2 := Lib.hid hB2
  go_enter Tryd.func8, Tryd.ntmps8
  go_wp2
  go_loopw [8, 9] (fun ov iv wr => ∃ (q : Option Addr) (n i co : Nat), ov = .slice q n co ∧ iv = .int .i64 (i : Int) ∧ i ≤ N ∧ n ≤ i ∧ RowsOwn wr w.heap.size (.slice q n co) n (keepV rb (Nat.beq 4 3) (ra.take i)) ∧ Below w.heap.size w wr) (fun _ iv _ => N - (intOf iv).toNat)
  case atStart => exact ⟨none, 0, 0, 0, rfl, by go_num, by omega, by omega, RowsOwn.nil _ _, Below.refl _ _⟩
  case round =>
    obtain ⟨q1, n, i, co, rfl, rfl, hi, hni, hrow, hb⟩ := hrel
    by_cases hlt : i < N
    · have hlB : decide ((i : Int) < (N : Int)) = true := by simp; omega
      obtain ⟨r, b, off, q', c'', hr, rfl, hbl, c0', hs, hv0⟩ := hA.at hlt
      have c0 : wr.cell? ⟨b, off + i, none⟩ = some (.slice q' r.length c'') := (hb.cell (p := ⟨b, _, none⟩) hbl).trans c0'
      have hsn : ra.take (i + 1) = ra.take i ++ [r] := by rw [List.take_add_one, hr]; rfl
      have hks := keep_snoc rb (Nat.beq 4 3) (ra.take i) r
      rw [← hsn] at hks
      have i0 : (0 : Int) ≤ (i : Int) := by omega
      have i1 : (i : Int) < (N : Int) := by omega
      obtain ⟨hh, hhe⟩ : ∃ hh, decide (r ∈ rb) = hh := ⟨_, rfl⟩
      rw [hhe] at hks
      replace hhe := Lib.hid hhe
      clear hsn hr
      cases hw : (hh == Nat.beq 4 3) with
      | true =>
        rw [if_pos hw] at hks
        replace hks := Lib.hid hks
        have hwt : (hh == ((4 : Int) == 3)) = true := hw
        have hw2 : hh = ((4 : Int) == 3) := by simpa using hwt
        clear hw hwt
        subst hw2
        go_wp2_with (first
          | (go_at_call 25; refine (rhas_is q M c' rb q' r.length c'' r _ (hA'.below hb) hB2.out (hv0.below hb) _ hhe).mono ?_; rintro e w1 ⟨rfl, hb1⟩; have hb2 := hb.trans (hb1.mono hb.size); have k0 : w1.cell? ⟨b, off + i, none⟩ = some (.slice q' r.length c'') := (hb2.cell (p := ⟨b, _, none⟩) hbl).trans c0'; have hel := ElAt.old (W := w1) (base := w.heap.size) (n := n) (v := .slice q1 n co) hv0 hb2 hs (fun m hm => (hrow.le m hm).1))
          | (at_builtin; go_must (refine wpList_pushRow rfl rfl _ _ rfl w.heap.size (.slice q1 n co) n (keepV rb (Nat.beq 4 3) (ra.take i)) rfl (hrow.below hb1) _ r hel rfl (by omega) hb2.size ?_); intro q2 c2 w4 hown2 hb4 hg4))
        go_roundw
        case rel => exact ⟨q2, n + 1, i + 1, c2, rfl, by go_num, by omega, by omega, by rw [hks.out]; exact hown2, hb2.trans hb4⟩
        case measure => simp [intOf]; omega
      | false =>
        rw [if_neg (by rw [hw]; simp)] at hks
        replace hks := Lib.hid hks
        have hwt : (hh == ((4 : Int) == 3)) = false := hw
        have hw2 : hh = !((4 : Int) == 3) := by cases hh <;> simp_all
        clear hw hwt
        subst hw2
        go_wp2_with (go_at_call 25; refine (rhas_is q M c' rb q' r.length c'' r _ (hA'.below hb) hB2.out (hv0.below hb) _ hhe).mono ?_; rintro e w1 ⟨rfl, hb1⟩)
        go_roundw
        case rel => exact ⟨q1, n, i + 1, co, rfl, by go_num, by omega, by omega, by rw [hks.out]; exact hrow.below hb1, hb.trans (hb1.mono hb.size)⟩
        case measure => simp [intOf]; omega
    · have hlB : decide ((i : Int) < (N : Int)) = false := by simp; omega
      rw [List.take_of_length_le (by rw [hlen.out]; omega)] at hrow
      have hBk : RowsB (keepV rb (Nat.beq 4 3) ra) := ⟨Nat.le_trans (keep_len _ _ _) hB1.out.1, fun r hr => hB1.out.2 r (List.mem_filter.1 hr).1⟩
      replace hBk := Lib.hid hBk
      go_wp2_with (go_at_call 12; refine (rdistinct_is q1 n co (keepV rb (Nat.beq 4 3) ra) wr hrow.rows hBk.out).mono ?_; rintro e w3 ⟨q3, c3, rfl, hown3, hb3⟩)
      go_ret2
      exact ⟨q3, c3, rfl, hown3.rows, hb.trans (hb3.mono hb.size)⟩

set_option maxHeartbeats 4000000 in
theorem rcompound_is (cn : Int) (p : Option Addr) (N c : Nat) (q : Option Addr) (M c' : Nat) (ra rb : List (List Val.V)) (w : World) (hA : RowsAt w p N ra) (hA' : RowsAt w q M rb) (hB1 : RowsB ra) (hB2 : RowsB rb) (hN : N ≤ 1048576) (hM : M ≤ 1048576) :
    Calls Tryd.prog 8 #[.int .i64 cn, .slice p N c, .slice q M c'] w (TwoP (compV cn ra rb) (compE cn) w) := by
  have hBab : RowsB (ra ++ rb) := hB1.app hB2 (by rw [hA.1, hA'.1]; omega)
  have hlab : (ra ++ rb).length = N + M := by rw [List.length_append, hA.1, hA'.1]
  replace hBab := Lib.hid hBab
  replace hlab := Lib.hid hlab
  have hlen := hA.1
  replace hlen := Lib.hid hlen
  replace hB1 := Lib.hid hB1
  replace hB2 := Lib.hid hB2
  by_cases c2 : cn = 2
  · have hv : compV cn ra rb = ra ++ rb := by rw [compV, if_pos c2]
    have hE : compE cn = 0 := by rw [compE, if_pos (by omega)]
    subst c2
    rw [hv, hE]
    clear hv hE
    go_enter Tryd.func8, Tryd.ntmps8
    go_wp2_with (go_at_call 24; refine (rboth_is p N c q M c' ra rb _ hA hA' (by omega) (by omega)).mono ?_; rintro e w1 ⟨q3, c3, rfl, ho3, hb3⟩)
    go_ret2
    exact ⟨q3, c3, by rw [hlab.out]; rfl, by rw [hlab.out]; exact ho3.rows, hb3⟩
  by_cases c1 : cn = 1
  · have hv : compV cn ra rb = Sets.dd (ra ++ rb) := by rw [compV, if_neg c2, if_pos c1]
    have hE : compE cn = 0 := by rw [compE, if_pos (by omega)]
    subst c1
    rw [hv, hE]
    clear hv hE
    go_enter Tryd.func8, Tryd.ntmps8
    go_wp2_with (first
      | (go_at_call 24; refine (rboth_is p N c q M c' ra rb _ hA hA' (by omega) (by omega)).mono ?_; rintro e w1 ⟨q3, c3, rfl, ho3, hb3⟩)
      | (go_at_call 12; refine (rdistinct_is q3 (N + M) c3 (ra ++ rb) _ ho3.rows hBab.out).mono ?_; rintro e w2 ⟨q4, c4, rfl, ho4, hb4⟩))
    go_ret2
    exact ⟨q4, c4, rfl, ho4.rows, hb3.trans (hb4.mono hb3.size)⟩
  by_cases c3 : cn = 3
  · have hv : compV cn ra rb = Sets.dd (keepV rb true ra) := by rw [compV, if_neg c2, if_neg c1, if_pos c3]
    have hE : compE cn = 0 := by rw [compE, if_pos (by omega)]
    subst c3
    rw [hv, hE]
    exact rkeep_3 p N c q M c' ra rb w hA hA' hB1.out hB2.out
  by_cases c4 : cn = 4
  · have hv : compV cn ra rb = Sets.dd (keepV rb false ra) := by rw [compV, if_neg c2, if_neg c1, if_neg c3, if_pos c4]
    have hE : compE cn = 0 := by rw [compE, if_pos (by omega)]
    subst c4
    rw [hv, hE]
    exact rkeep_4 p N c q M c' ra rb w hA hA' hB1.out hB2.out
  · have hv : compV cn ra rb = [] := by rw [compV, if_neg c2, if_neg c1, if_neg (by omega), if_neg (by omega)]
    have hE : compE cn = 2 := by rw [compE, if_neg (by omega)]
    have e1 : (cn == 1) = false := by simp; omega
    have e2 : (cn == 2) = false := by simp; omega
    have e3 : (cn != 3) = true := by simp; omega
    have e4 : (cn != 4) = true := by simp; omega
    rw [hv, hE]
    clear hv hE c1 c2 c3 c4
    go_enter Tryd.func8, Tryd.ntmps8
    go_wp2
    go_ret2
    exact ⟨none, 0, rfl, ⟨rfl, .inl rfl⟩, Below.refl _ _⟩
end Go.Proofs.YtdapnemcdgjeeaaDoor
