/- The law SorterSorts: Sort and Top against the reference's Sort. -/
import Derived.Test.YtdapnemcdgjeeaaGreatDoorTop9
import Derived.Test.YtdapnemcdgjeeaaGreatDoorRsrtZ
import Derived.Test.YtdapnemcdgjeeaaGreatDoorMay20
import Derived.Test.YtdapnemcdgjeeaaGreatDoorHead20
import Derived.Test.YtdapnemcdgjeeaaGreatDoorSame
import Derived.Test.YtdapnemcdgjeeaaGreatDoorOpenRows
set_option maxRecDepth 100000
set_option linter.unusedVariables false
set_option linter.unusedSimpArgs false
namespace Go.Proofs.YtdapnemcdgjeeaaGreatDoor
open Go.RowKit Go.Deep
open Go.ChangeShapes Go.WideShapes Go.ChangeAt
open Go.Proofs.YtdapnemcdgjeeaaGreatDoor.Ord (standV mayRow)

/-- a slice that came in: its length is within its capacity -/
theorem open_slok {H : Type} {enc : TypeId × Value → H} {W : World} {q : Option Addr} {N c : Nat} {d : DataW H} {ps : List MemPlace} (hd : DataW.Trod enc Tryz.prog W 0 (fun _ => true) true 22 (.slice q N c) d ps) : SlOk q N c := by
  obtain ⟨n, hn⟩ := hd
  rcases open_slice Tryz.underlying22 hn with ⟨hc, _⟩ | ⟨a, len, cap, m, k, D, Pl, hc, _, hl, hm, hmm, hx, hall⟩
  · simp [Value.cells] at hc
    obtain ⟨rfl, rfl, rfl⟩ := hc
    exact ⟨Nat.le_refl _, fun _ => rfl⟩
  · simp [Value.cells] at hc
    obtain ⟨rfl, rfl, rfl⟩ := hc
    exact ⟨hl, fun h => by cases h⟩
theorem top_is (p : Option Addr) (N c : Nat) (rows : List (List Val.V)) (sk : Option Addr) (KN kc : Nat) (ks : List Ord.Key) (width n : Int) (w : World) (hR : RowsAt w p N rows) (hB : RowsB rows) (hM : ∀ r ∈ rows, mayRow r) (hK : KeysAt w sk KN ks) (hKN : KN ≤ 1048576) (hN : N ≤ 1048576) :
    Calls Tryz.prog 13 #[.slice p N c, .slice sk KN kc, .int .i64 width, .int .i64 n] w (TopP ((sortV ks width rows).take n.toNat) w) := by
  by_cases hn : 1 ≤ n
  · by_cases hN0 : 0 < N
    · exact top_go p N c rows sk KN kc ks width n w hR hB hM hK hKN hN hn hN0
    · obtain rfl : N = 0 := by omega
      obtain rfl : rows = [] := List.eq_nil_of_length_eq_zero hR.1
      refine (top_none p c sk KN kc width n w hn).mono ?_
      rintro e w' ⟨rfl, hb⟩
      exact ⟨none, 0, 0, rfl, ⟨by simp [sort_len], .inl (by rw [List.eq_nil_of_length_eq_zero (by rw [sort_len]; rfl : (sortV ks width []).length = 0), List.take_nil])⟩, hb⟩
  · refine (top_few p N c sk KN kc width n w hn).mono ?_
    rintro e w' ⟨rfl, rfl⟩
    have hz : n.toNat = 0 := by omega
    rw [hz, List.take_zero]
    exact ⟨none, 0, 0, rfl, ⟨rfl, .inl rfl⟩, Below.refl _ _⟩
set_option maxHeartbeats 4000000 in
theorem sorter_sorts (T : Lib.PrintTabs) (p : Option Addr) (N c : Nat) (sk : Option Addr) (KN kc : Nat) (width n : Int) (rows : List (List Val.V)) (ks : List Ord.Key) (w : World) (hR : RowsAt w p N rows) (hsl : SlOk p N c) (hK : KeysAt w sk KN ks) (hB : RowsB rows) (hN : N ≤ 1048576) (hKN : KN ≤ 1048576) (hT : Tabs T w) :
    Calls Tryz.prog 3 #[.slice p N c, .slice sk KN kc, .int .i64 width, .int .i64 n] w fun e w' => e = .returned (.bool true) ∧ Below w.heap.size w w' := by
  cases hm : mayRows rows with
  | false =>
    replace hB := Lib.hid hB
    replace hT := Lib.hid hT
    replace hm := Lib.hid hm
    go_enter Tryz.func3, Tryz.ntmps3
    go_wp2_with (first
      | (go_at_call 8; refine (head_any T _ hT.out).mono ?_; rintro e w1 ⟨rfl, hb1⟩)
      | (go_at_call 9; refine (mayRows_is p N c rows _ (hR.below hb1) hB.out false hm).mono ?_; rintro e w2 ⟨rfl, hb2⟩))
    go_ret
    exact ⟨rfl, hb1.trans (hb2.mono hb1.size)⟩
  | true =>
    have hM := mayRows_all hm
    obtain ⟨S, hS⟩ : ∃ S, sortV ks width rows = S := ⟨_, rfl⟩
    have hBS : RowsB S := by rw [← hS]; exact sort_b hB
    have hSl : S.length = N := by rw [← hS, sort_len, hR.1]
    have hBT : RowsB (S.take n.toNat) := ⟨by rw [List.length_take]; have := hBS.1; omega, fun r hr => hBS.2 r (List.mem_of_mem_take hr)⟩
    replace hB := Lib.hid hB
    replace hT := Lib.hid hT
    replace hm := Lib.hid hm
    replace hM := Lib.hid hM
    replace hS := Lib.hid hS
    replace hBS := Lib.hid hBS
    replace hBT := Lib.hid hBT
    replace hSl := Lib.hid hSl
    by_cases hnN : n < (N : Int)
    · obtain ⟨K, hKe⟩ : ∃ K, K = n.toNat := ⟨_, rfl⟩
      have hKN2 : K ≤ N := by omega
      have hmax : max n 0 = (K : Int) := by omega
      have hG : decide (n < (N : Int)) = true := by simp; omega
      replace hKe := Lib.hid hKe
      go_enter Tryz.func3, Tryz.ntmps3
      go_upto_region 6 with (first
        | (go_at_call 8; refine (head_any T _ hT.out).mono ?_; rintro e w1 ⟨rfl, hb1⟩)
        | (go_at_call 9; refine (mayRows_is p N c rows _ (hR.below hb1) hB.out true hm).mono ?_; rintro e w2 ⟨rfl, hb2'⟩; have hb2 := hb1.trans (hb2'.mono hb1.size))
        | (go_at_call 10; have hs3 := rsort_is sk KN kc ks width hKN N p N c rows _ (Nat.le_refl _) (hR.below hb2) hsl hB.out hM.out (hK.below hb2); rw [hS.out] at hs3; refine hs3.mono ?_; clear hs3; rintro e w3 ⟨q3, c3, rfl, hO3, hb3'⟩; have hb3 := hb2.trans (hb3'.mono hb2.size)))
      have hc3 := (own_slOk hO3).1
      have i0 : (0 : Int) ≤ (K : Int) := by omega
      have i1 : (K : Int) ≤ (c3 : Int) := by omega
      have hW3 := hO3.rows
      have hW3t := rows_take hW3 hKN2
      rw [hKe.out] at hW3t
      clear hO3
      go_wp2_with (first
        | (go_at_call 12; have hs4 := ssort_is p N c rows sk KN kc ks width w3 (hR.below hb3) hB.out hM.out (hK.below hb3) hKN; rw [hS.out] at hs4; refine hs4.mono ?_; clear hs4; rintro e w4 ⟨q4, c4, rfl, _, hR4, hb4'⟩; have hb4 := hb3.trans (hb4'.mono hb3.size))
        | (go_at_call_of 11 (Value.slice q4 N c4); refine (sameRows_is _ _ _ q3 N c3 S S w4 hR4 (hW3.below hb4') hBS.out true (Lib.hid (by simp))).mono ?_; rintro e w5 ⟨rfl, hb5'⟩; have hb5 := hb4.trans (hb5'.mono hb4.size))
        | (go_at_call 13; have hs6 := top_is p N c rows sk KN kc ks width n w5 (hR.below hb5) hB.out hM.out (hK.below hb5) hKN hN; rw [hS.out] at hs6; refine hs6.mono ?_; clear hs6; rintro e w6 ⟨q6, m6, c6, rfl, hR6, hb6'⟩; have hb6 := hb5.trans (hb6'.mono hb5.size))
        | (go_at_call 11; have hx6 := hb6'; have hWt := ((hW3t.below hb4').below hb5').below hb6'; refine (sameRows_is _ _ _ q3 _ c3 _ _ w6 hR6 (by rw [hKe.out]; exact hWt) hBT.out true (Lib.hid (by simp))).mono ?_; rintro e w7 ⟨rfl, hb7'⟩; have hb7 := hb6.trans (hb7'.mono hb6.size)))
      go_ret
      exact ⟨rfl, hb7⟩
    · have hG : decide (n < (N : Int)) = false := by simp; omega
      have hSt : S.take n.toNat = S := List.take_of_length_le (by rw [hSl.out]; omega)
      replace hSt := Lib.hid hSt
      go_enter Tryz.func3, Tryz.ntmps3
      go_wp2_with (first
        | (go_at_call 8; refine (head_any T _ hT.out).mono ?_; rintro e w1 ⟨rfl, hb1⟩)
        | (go_at_call 9; refine (mayRows_is p N c rows _ (hR.below hb1) hB.out true hm).mono ?_; rintro e w2 ⟨rfl, hb2'⟩; have hb2 := hb1.trans (hb2'.mono hb1.size))
        | (go_at_call 10; have hs3 := rsort_is sk KN kc ks width hKN N p N c rows _ (Nat.le_refl _) (hR.below hb2) hsl hB.out hM.out (hK.below hb2); rw [hS.out] at hs3; refine hs3.mono ?_; clear hs3; rintro e w3 ⟨q3, c3, rfl, hO3, hb3'⟩; have hb3 := hb2.trans (hb3'.mono hb2.size); have hW3 := hO3.rows)
        | (go_at_call 12; have hs4 := ssort_is p N c rows sk KN kc ks width w3 (hR.below hb3) hB.out hM.out (hK.below hb3) hKN; rw [hS.out] at hs4; refine hs4.mono ?_; clear hs4; rintro e w4 ⟨q4, c4, rfl, _, hR4, hb4'⟩; have hb4 := hb3.trans (hb4'.mono hb3.size))
        | (go_at_call_of 11 (Value.slice q4 N c4); refine (sameRows_is q4 N c4 q3 N c3 S S w4 hR4 (hW3.below hb4') hBS.out true (Lib.hid (by simp))).mono ?_; rintro e w5 ⟨rfl, hb5'⟩; have hb5 := hb4.trans (hb5'.mono hb4.size))
        | (go_at_call 13; have hs6 := top_is p N c rows sk KN kc ks width n w5 (hR.below hb5) hB.out hM.out (hK.below hb5) hKN hN; rw [hS.out, hSt.out] at hs6; refine hs6.mono ?_; clear hs6; rintro e w6 ⟨q6, m6, c6, rfl, hR6, hb6'⟩; have hb6 := hb5.trans (hb6'.mono hb5.size))
        | (go_at_call 11; have hx6 := hb6'; refine (sameRows_is q6 m6 c6 q3 N c3 S S w6 hR6 (((hW3.below hb4').below hb5').below hb6') hBS.out true (Lib.hid (by simp))).mono ?_; rintro e w7 ⟨rfl, hb7'⟩; have hb7 := hb6.trans (hb7'.mono hb6.size)))
      go_ret
      exact ⟨rfl, hb7⟩
end Go.Proofs.YtdapnemcdgjeeaaGreatDoor
