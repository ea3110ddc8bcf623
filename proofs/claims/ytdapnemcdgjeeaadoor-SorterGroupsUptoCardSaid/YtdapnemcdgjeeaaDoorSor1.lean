/- Walks: rows copied; the order as a function value (package sorter). -/
import Derived.Test.YtdapnemcdgjeeaaDoorRwo
set_option maxRecDepth 100000
set_option linter.unusedVariables false
set_option linter.unusedSimpArgs false
namespace Go.Proofs.YtdapnemcdgjeeaaDoor
open Go.RowKit
open Go.Proofs.YtdapnemcdgjeeaaDoor.Ord (atV firstV standV mayRow MRow)

/-- rows whose texts and lengths are bounded -/
def RowsB (rows : List (List Val.V)) : Prop := rows.length ≤ 8388608 ∧ ∀ r ∈ rows, r.length ≤ 1048576 ∧ ∀ v ∈ r, v.text.length ≤ 1048576
/-- what makes a slice of rows answers -/
def RowsP (N : Nat) (rows : List (List Val.V)) (w : World) (e : Ending) (w' : World) : Prop :=
  ∃ q c, e = .returned (.slice q N c) ∧ RowsOwn w' w.heap.size (.slice q N c) N rows ∧ Below w.heap.size w w'

set_option maxHeartbeats 1000000 in
theorem copies_is (p : Option Addr) (N c : Nat) (rows : List (List Val.V)) (w : World) (hR : RowsAt w p N rows) (hB : RowsB rows) :
    Calls Tryd.prog 22 #[.slice p N c] w (RowsP N rows w) := by
  have hlen := hR.1
  have hN : N ≤ 8388608 := by rw [← hlen]; exact hB.1
  replace hlen := Lib.hid hlen
  replace hB := Lib.hid hB
  go_enter Tryd.func22, Tryd.ntmps22
  go_wp2
  go_loopw [3, 8] (fun ov iv wr => ∃ (q : Option Addr) (i co : Nat), ov = .slice q i co ∧ iv = .int .i64 (i : Int) ∧ i ≤ N ∧ RowsOwn wr w.heap.size (.slice q i co) i (rows.take i) ∧ Below w.heap.size w wr) (fun _ iv _ => N - (intOf iv).toNat)
  case atStart => exact ⟨none, 0, 0, rfl, by go_num, by omega, RowsOwn.nil _ _, Below.refl _ _⟩
  case round =>
    obtain ⟨q, i, co, rfl, rfl, hi, hrow, hb⟩ := hrel
    by_cases hlt : i < N
    · have hlB : decide ((i : Int) < (N : Int)) = true := by simp; omega
      obtain ⟨r, b, off, q', c', hr, rfl, hbl, c0, hs, hv⟩ := (hR.below hb).at hlt
      have hrl := (hB.out.2 r (List.mem_of_getElem? hr)).1
      have hsn : rows.take (i + 1) = rows.take i ++ [r] := by rw [List.take_add_one, hr]; rfl
      have i0 : (0 : Int) ≤ (i : Int) := by omega
      have i1 : (i : Int) < (N : Int) := by omega
      have hX := hrow.le
      replace hsn := Lib.hid hsn
      replace hr := Lib.hid hr
      go_wp2_with (first
        | (go_at_call 28; refine (clone_is q' r.length c' r wr hv hs hrl).mono ?_; rintro e w1 ⟨q1, c1, rfl, hown1, hb1⟩)
        | (at_builtin; go_must (refine wpList_pushRow rfl rfl _ _ rfl w.heap.size (.slice q i co) i (rows.take i) rfl (hrow.below hb1) _ r (ElAt.own hown1 rfl (fun m hm => (hX m hm).2)) rfl (by omega) (Nat.le_trans hb.size hb1.size) ?_); intro q2 c2 w2 hown2 hb2 _))
      go_roundw
      case rel => exact ⟨q2, i + 1, c2, rfl, by go_num, by omega, by rw [hsn.out]; exact hown2, (hb.trans (hb1.mono hb.size)).trans hb2⟩
      case measure => simp [intOf]; omega
    · have hlB : decide ((i : Int) < (N : Int)) = false := by simp; omega
      obtain rfl : i = N := by omega
      rw [List.take_of_length_le (by rw [hlen.out]; omega)] at hrow
      go_wp2
      go_ret
      exact ⟨q, co, rfl, hrow, hb⟩
end Go.Proofs.YtdapnemcdgjeeaaDoor
