/- FuncsCall: what the reference's functions make, in plain words. Walks: the small functions of the reference of layer 18. Walks: Hex, Replace, Trim of the reference of layer 18. -/
import Derived.Test.YtmkgalcojoeniaaGreatDoorAgA
import Derived.Test.YtmkgalcojoeniaaGreatDoorCalcR3
import Derived.Test.YtmkgalcojoeniaaGreatDoorMatchR
import Derived.Deep.RegionHeld3
set_option maxRecDepth 100000
set_option linter.unusedVariables false
set_option linter.unusedSimpArgs false
namespace Go.Proofs.YtmkgalcojoeniaaGreatDoor
open Go.RowKit

theorem index_cases (s sub : List UInt8) : (Lib.index s sub = -1 ∧ ∀ j, j ≤ s.length → Lib.occAt s sub j = false) ∨ ∃ i : Nat, i ≤ s.length ∧ Lib.index s sub = (i : Int) ∧ Lib.occAt s sub i = true ∧ ∀ j, j < i → Lib.occAt s sub j = false := by
  by_cases h : ∃ i, i ≤ s.length ∧ Lib.occAt s sub i = true
  · obtain ⟨i, hi, ho⟩ := h
    right
    induction i using Nat.strongRecOn with
    | _ i ih =>
      by_cases h : ∃ j, j < i ∧ Lib.occAt s sub j = true
      · obtain ⟨j, hj, hjo⟩ := h
        exact ih j hj (by omega) hjo
      · have hj : ∀ j, j < i → Lib.occAt s sub j = false := fun j hj => by
          cases hb : Lib.occAt s sub j with
          | false => rfl
          | true => exact absurd ⟨j, hj, hb⟩ h
        exact ⟨i, hi, Lib.index_first hi ho hj, ho, hj⟩
  · left
    have hj : ∀ j, j ≤ s.length → Lib.occAt s sub j = false := fun j hj => by
      cases hb : Lib.occAt s sub j with
      | false => rfl
      | true => exact absurd ⟨j, hj, hb⟩ h
    exact ⟨Lib.index_none hj, hj⟩
/-- a text in which one that is not empty is replaced -/
def repAll (y z s : List UInt8) : List UInt8 := Lib.replaceK y z (Lib.count s y) s
theorem repAll_miss {y z s : List UInt8} (h : Lib.index s y = -1) : repAll y z s = s := by
  unfold repAll
  rw [Lib.count_miss h]
  rfl
theorem repAll_hit {y z s : List UInt8} (hy : y ≠ []) {i : Nat} (h : Lib.index s y = (i : Int)) : repAll y z s = s.take i ++ z ++ repAll y z (s.drop (i + y.length)) := by
  unfold repAll
  rw [Lib.count_hit hy h, Nat.add_comm, Lib.replaceK_hit _ _ _ _ _ h]
theorem repAll_same {y : List UInt8} (hy : y ≠ []) : ∀ (n : Nat) (s : List UInt8), s.length ≤ n → repAll y y s = s := by
  intro n
  induction n with
  | zero =>
    intro s hs
    rcases index_cases s y with ⟨h, _⟩ | ⟨i, hi, h, ho, _⟩
    · exact repAll_miss h
    · exfalso
      have := Lib.occAt_room ho
      have hyl : 0 < y.length := List.length_pos_iff.2 hy
      rcases this with h | h
      · omega
      · exact hy h
  | succ n ih =>
    intro s hs
    rcases index_cases s y with ⟨h, _⟩ | ⟨i, hi, h, ho, _⟩
    · exact repAll_miss h
    · have hyl : 0 < y.length := List.length_pos_iff.2 hy
      have hr : i + y.length ≤ s.length := by
        rcases Lib.occAt_room ho with h | h
        · exact h
        · exact absurd h hy
      rw [Lib.occAt_iff_take s y i hr, beq_iff_eq] at ho
      rw [repAll_hit hy h, ih _ (by rw [List.length_drop]; omega)]
      have e : s.drop i = y ++ s.drop (i + y.length) := by
        rw [← List.drop_drop]
        conv => lhs; rw [← List.take_append_drop y.length (s.drop i), ho]
      rw [List.append_assoc, ← e, List.take_append_drop]
theorem repT_all {x y z : List UInt8} (hy : y ≠ []) : repT x y z = repAll y z x := by
  unfold repT
  rw [if_neg hy]
  unfold Lib.replaceAll Lib.replace
  by_cases h : y = z
  · subst h
    rw [if_pos (by simp), repAll_same hy x.length x (Nat.le_refl _)]
  · rw [if_neg (by simpa using h)]
    unfold Lib.replaceNum repAll
    rw [if_pos (.inl (by decide))]
theorem ptext_two {a b : List UInt8} (h : a = b ∨ 400 < a.length ∧ 400 < b.length) : Val.ptext a = Val.ptext b := by
  rcases h with rfl | ⟨h1, h2⟩
  · rfl
  · unfold Val.ptext
    rw [if_pos h1, if_pos h2]

theorem clipN_lt {n : Int} {l i : Nat} (hi : i < l) : i < clipN n l ↔ (i : Int) < n := by
  unfold clipN
  split
  · omega
  · split <;> omega
theorem clipN_le18 {n : Int} {l : Nat} : clipN n l ≤ l := by
  unfold clipN
  split
  · omega
  · split <;> omega
/-- a piece as it grows -/
def grown (s : List UInt8) (b e : Int) (k : Nat) : List UInt8 := (s.take (min k (clipN e s.length))).drop (clipN b s.length)
theorem grown_zero (s : List UInt8) (b e : Int) : grown s b e 0 = [] := by unfold grown; simp
theorem grown_in {s : List UInt8} {b e : Int} {k : Nat} (hk : k < s.length) (h1 : b ≤ (k : Int)) (h2 : (k : Int) < e) : grown s b e (k + 1) = grown s b e k ++ [s[k]] := by
  have a1 : ¬ k < clipN b s.length := fun h => by have := (clipN_lt hk).1 h; omega
  have a2 : k < clipN e s.length := (clipN_lt hk).2 h2
  unfold grown
  rw [Nat.min_eq_left (by omega), Nat.min_eq_left (by omega), List.take_succ_eq_append_getElem hk, List.drop_append_of_le_length (by rw [List.length_take]; omega)]
theorem grown_out {s : List UInt8} {b e : Int} {k : Nat} (hk : k < s.length) (h : (k : Int) < b ∨ e ≤ (k : Int)) : grown s b e (k + 1) = grown s b e k := by
  unfold grown
  rcases h with h | h
  · have a1 : k < clipN b s.length := (clipN_lt hk).2 h
    rw [List.drop_eq_nil_of_le (by rw [List.length_take]; omega), List.drop_eq_nil_of_le (by rw [List.length_take]; omega)]
  · have a2 : ¬ k < clipN e s.length := fun h' => by have := (clipN_lt hk).1 h'; omega
    rw [Nat.min_eq_right (by omega), Nat.min_eq_right (by omega)]
theorem grown_all (s : List UInt8) (b e : Int) : grown s b e s.length = pieceT s b e := by
  have h1 := clipN_le18 (n := e) (l := s.length)
  unfold grown pieceT
  rw [Nat.min_eq_right h1]
  by_cases h : clipN b s.length ≤ clipN e s.length
  · rw [Nat.min_eq_left h, List.drop_take]
  · rw [Nat.min_eq_right (by omega), Nat.sub_self, List.take_zero, List.drop_eq_nil_of_le (by rw [List.length_take]; omega)]
theorem digU_dig (n : Nat) (h : n < 16) : upper (Tok.dig n) = digU n := by
  have all : ∀ m : Fin 16, upper (Tok.dig m.val) = digU m.val := by decide
  exact all ⟨n, h⟩
theorem hexU_digs (l : List UInt8) : (l.flatMap fun c => [Tok.dig (c.toNat / 16), Tok.dig (c.toNat % 16)]).map upper = hexU l := by
  unfold hexU
  induction l with
  | nil => rfl
  | cons c l ih =>
    have := c.toNat_lt
    simp only [List.flatMap_cons, List.map_append, List.map_cons, List.map_nil, ih]
    rw [digU_dig _ (by omega), digU_dig _ (by omega)]
theorem absV_neg {v : Val.V} {m : Int} (h : Val.num v = ⟨1, m, []⟩) (hm : m < 0) : absV v = Val.fit (0 - m) := by
  unfold absV
  rw [h, if_neg (show ¬ 0 ≤ m by omega)]
  unfold Val.unary
  rw [if_pos (.inl rfl), if_pos (by simp [Val.may]), if_pos rfl, Val.num_int (by simp [Val.may]) rfl]
  simp
end Go.Proofs.YtmkgalcojoeniaaGreatDoor

namespace Go.Proofs.YtmkgalcojoeniaaGreatDoor
open Go.RowKit
attribute [local go_sem] run_store_fn run_store_nofn

theorem rbytes18_is (k n : Int) (t : ByteArray) (w : World) (hi : Val.inr n) (hL : Lits w) (k' : Int) (t' : ByteArray) (hv : Hid (Val.pshow ⟨k, n, t.data.toList⟩ = ⟨k', 0, t'.data.toList⟩)) :
    Calls Tryz.prog 66 #[.agg #[.int .i64 k, .int .i64 n, .string t]] w fun e w' => e = .returned (.string t') ∧ Below w.heap.size w w' := by
  have hb0 := below_new w (.cells #[.int .i64 k, .int .i64 n, .string t] 25)
  have hih := Lib.hid hi
  clear hi
  go_enter Tryz.func66, Tryz.ntmps66
  go_wp2_with (go_at_call 48; refine (rshow_is _ _ _ _ hih.out.1 hih.out.2 (hL.alloc _) _ _ hv).mono ?_; rintro e w1 ⟨rfl, hb1⟩)
  go_ret
  exact ⟨rfl, (below_step hb0 hb0.size hb1).alloc (by have := hb0.size; have := hb1.size; omega) _⟩
theorem rkind18 (k : Int) (h : k = 0 ∨ k = 1 ∨ k = 2 ∨ k = 3) (w : World) : Calls Tryz.prog 62 #[.int .i64 k] w fun e w' => e = .returned (.string (bs (kindName k))) ∧ w = w' := by
  rcases h with rfl | rfl | rfl | rfl
  all_goals (
    go_enter Tryz.func62, Tryz.ntmps62
    go_wp2
    go_ret
    exact ⟨rfl, rfl⟩)
theorem rin18_any (s : ByteArray) (c : UInt8) (w : World) (hs : s.size ≤ 1048576) (r : Bool) (hr : Hid (Fit.inT s.data.toList c = r)) :
    Calls Tryz.prog 26 #[.string s, .int .u8 (c.toNat : Int)] w fun e w' => e = .returned (.bool r) ∧ w = w' := by
  go_enter Tryz.func26, Tryz.ntmps26
  go_wp2
  go_loop [5] (fun iv => ∃ i : Nat, iv = .int .i64 (i : Int) ∧ i ≤ s.size ∧ Hid (Fit.inT (s.data.toList.drop i) c = r)) (fun iv => s.size - (intOf iv).toNat)
  case atStart => exact ⟨0, by go_num, by omega, hr⟩
  case round =>
    obtain ⟨i, rfl, hi, hH⟩ := hrel
    clear hr
    have hH := hH.out
    by_cases hlt : i < s.size
    · have lB : decide ((i : Int) < (s.size : Int)) = true := by simp; omega
      have j0 : (0 : Int) ≤ (i : Int) := by omega
      have l0 : (i : Int) < (s.size : Int) := by omega
      rw [dropB1 s i hlt] at hH
      unfold Fit.inT at hH
      rw [List.any_cons] at hH
      have hcase : ∃ b : Bool, ((s[i].toNat : Int) == (c.toNat : Int)) = b ∧ (s[i] == c) = b := ⟨_, rfl, by
        rw [Bool.eq_iff_iff, beq_iff_eq, beq_iff_eq]; exact ⟨fun h => by rw [h], fun h => UInt8.toNat_inj.1 (by omega)⟩⟩
      obtain ⟨b, q0, hb⟩ := hcase
      rw [hb] at hH
      clear hb
      cases b with
      | true =>
        have hH : true = r := hH
        replace hH := Lib.hid hH
        go_wp2
        go_ret
        exact ⟨ret_bool hH.out, rfl⟩
      | false =>
        have hH : Fit.inT (s.data.toList.drop (i + 1)) c = r := hH
        replace hH := Lib.hid hH
        go_wp2
        go_round
        case rel => exact ⟨i + 1, by go_num, by omega, hH⟩
        case measure => simp [intOf]; omega
    · have lB : decide ((i : Int) < (s.size : Int)) = false := by simp; omega
      rw [dropB0 s i (by omega)] at hH
      have hH : false = r := hH
      replace hH := Lib.hid hH
      go_wp2
      go_ret
      exact ⟨ret_bool hH.out, rfl⟩

theorem take_snoc_up (s : ByteArray) (k : Nat) (h : k < s.size) : (s.data.toList.take (k + 1)).map upper = (s.data.toList.take k).map upper ++ [upper s[k]] := by
  have h' : k < s.data.toList.length := h
  rw [List.take_succ_eq_append_getElem h', List.map_append]
  rfl
set_option maxHeartbeats 800000 in
theorem rupper18_any (s : ByteArray) (w : World) (hs : s.size ≤ 4294967296) (t : ByteArray) (ht : Hid (bs (s.data.toList.map upper) = t)) :
    Calls Tryz.prog 70 #[.string s] w fun e w' => e = .returned (.string t) ∧ Below w.heap.size w w' := by
  go_enter Tryz.func70, Tryz.ntmps70
  go_wp2
  go_loopw [3, 4] (fun vv i wr => ∃ (v : Value) (k : Nat) (acc : List UInt8), v = vv ∧ k ≤ s.size ∧ acc.length ≤ k ∧ i = .int .i64 (k : Int) ∧ Hid (acc = (s.data.toList.take k).map upper) ∧ wr.ownsRow w.heap.size 5 1 v acc.length (bytesC acc) ∧ Below w.heap.size w wr) (fun _ i _ => s.size - (intOf i).toNat)
  case atStart => exact ⟨_, 0, [], rfl, by omega, by simp, by go_num, rfl, World.ownsRow_nil _ _ _ _, Below.refl _ _⟩
  case round =>
    obtain ⟨v, k, acc, rfl, hk, hacc, rfl, ha, hown, hb⟩ := hrel
    by_cases hlt : k < s.size
    · have hc8 := s[k].toNat_lt
      have hst := take_snoc_up s k hlt
      rw [← ha.out] at hst
      replace hst := Lib.hid hst
      by_cases hu : 97 ≤ s[k].toNat ∧ s[k].toNat ≤ 122
      · have hlo : ((upper s[k]).toNat : Int) = (s[k].toNat : Int) - 32 := by rw [upper_up hu]; omega
        have b1 : decide ((s[k].toNat : Int) ≥ 97) = true := by simp; omega
        have b2 : decide ((s[k].toNat : Int) ≤ 122) = true := by simp; omega
        replace hlo := Lib.hid hlo
        go_wp2_with (at_builtin; go_must (refine wpList_push rfl _ _ 99 rfl w.heap.size 5 Tryz.underlying99 fbyte_info rfl (by decide) _ _ _ rfl hown _ rfl rfl (fone_u8 _) (by omega) (by decide) hb.size ?_); intro v' w1 hown' hb' hv' _)
        go_roundw
        case rel => exact ⟨_, k + 1, acc ++ [upper s[k]], rfl, by omega, by simp; omega, by go_num, Lib.hid hst.out.symm, by rw [bytesC_snoc, hlo.out]; simpa using hown', hb.trans hb'⟩
        case measure => simp [intOf]; omega
      · have hlo := upper_no hu
        replace hlo := Lib.hid hlo
        go_wp2_with (at_builtin; go_must (refine wpList_push rfl _ _ 99 rfl w.heap.size 5 Tryz.underlying99 fbyte_info rfl (by decide) _ _ _ rfl hown _ rfl rfl (fone_u8 _) (by omega) (by decide) hb.size ?_); intro v' w1 hown' hb' hv' _)
        all_goals first
          | (exfalso; omega; done)
          | (go_roundw
             case rel => exact ⟨_, k + 1, acc ++ [upper s[k]], rfl, by omega, by simp; omega, by go_num, Lib.hid hst.out.symm, by rw [bytesC_snoc, hlo.out]; simpa using hown', hb.trans hb'⟩
             case measure => simp [intOf]; omega)
    · have hcv := run_string_own (P := Tryz.prog) 99 9 5 Tryz.underlying99 Tryz.underlying5 Tryz.underlying9 hown
      have hst := ha.out
      rw [List.take_of_length_le (Nat.le_of_not_lt hlt)] at hst
      subst hst
      go_wp2
      go_ret
      exact ⟨by rw [← ht.out]; rfl, hb⟩

set_option maxHeartbeats 800000 in
theorem rpiece18_any (s : ByteArray) (b e : Int) (w : World) (hs : s.size ≤ 1048576) (hbi : Val.inr b) (hei : Val.inr e) (t : ByteArray) (ht : Hid (bs (pieceT s.data.toList b e) = t)) :
    Calls Tryz.prog 68 #[.string s, .int .i64 b, .int .i64 e] w fun ed w' => ed = .returned (.string t) ∧ Below w.heap.size w w' := by
  replace hbi := Lib.hid hbi
  replace hei := Lib.hid hei
  go_enter Tryz.func68, Tryz.ntmps68
  go_wp2
  go_loopw [7, 8] (fun vv i wr => ∃ (v : Value) (k : Nat) (acc : List UInt8), v = vv ∧ k ≤ s.size ∧ acc.length ≤ k ∧ i = .int .i64 (k : Int) ∧ Hid (acc = grown s.data.toList b e k) ∧ wr.ownsRow w.heap.size 5 1 v acc.length (bytesC acc) ∧ Below w.heap.size w wr) (fun _ i _ => s.size - (intOf i).toNat)
  case atStart => exact ⟨_, 0, [], rfl, by omega, by simp, by go_num, (grown_zero _ _ _).symm, World.ownsRow_nil _ _ _ _, Below.refl _ _⟩
  case round =>
    obtain ⟨v, k, acc, rfl, hk, hacc, rfl, ha, hown, hb⟩ := hrel
    by_cases hlt : k < s.size
    · have hlk : k < s.data.toList.length := hlt
      have hc8 := s[k].toNat_lt
      by_cases h1 : b ≤ (k : Int)
      · have b1 : decide ((k : Int) ≥ b) = true := decide_eq_true h1
        by_cases h2 : (k : Int) < e
        · have b2 : decide ((k : Int) < e) = true := decide_eq_true h2
          have hst := grown_in hlk h1 h2
          rw [← ha.out] at hst
          replace hst := Lib.hid hst
          go_wp2_with (at_builtin; go_must (refine wpList_push rfl _ _ 99 rfl w.heap.size 5 Tryz.underlying99 fbyte_info rfl (by decide) _ _ _ rfl hown _ rfl rfl (fone_u8 _) (by omega) (by decide) hb.size ?_); intro v' w1 hown' hb' hv' _)
          go_roundw
          case rel => exact ⟨_, k + 1, acc ++ [s[k]], rfl, by omega, by simp; omega, by go_num, Lib.hid hst.out.symm, by rw [bytesC_snoc]; simpa using hown', hb.trans hb'⟩
          case measure => simp [intOf]; omega
        · have b2 : decide ((k : Int) < e) = false := decide_eq_false h2
          have hst := grown_out hlk (.inr (by omega : e ≤ (k : Int))) (b := b)
          rw [← ha.out] at hst
          replace hst := Lib.hid hst
          go_wp2
          go_roundw
          case rel => exact ⟨_, k + 1, acc, rfl, by omega, by omega, by go_num, Lib.hid hst.out.symm, hown, hb⟩
          case measure => simp [intOf]; omega
      · have b1 : decide ((k : Int) ≥ b) = false := decide_eq_false h1
        have hst := grown_out hlk (.inl (by omega : (k : Int) < b)) (e := e)
        rw [← ha.out] at hst
        replace hst := Lib.hid hst
        go_wp2
        go_roundw
        case rel => exact ⟨_, k + 1, acc, rfl, by omega, by omega, by go_num, Lib.hid hst.out.symm, hown, hb⟩
        case measure => simp [intOf]; omega
    · have hcv := run_string_own (P := Tryz.prog) 99 9 5 Tryz.underlying99 Tryz.underlying5 Tryz.underlying9 hown
      have hst := ha.out
      have hks : k = s.data.toList.length := by have : s.data.toList.length = s.size := rfl; omega
      rw [hks, grown_all] at hst
      subst hst
      clear hks
      go_wp2
      go_ret
      exact ⟨by rw [← ht.out]; rfl, hb⟩

theorem rsum18_is (x y : Int) (w : World) (hx : Val.inr x) (hy : Val.inr y) : Calls Tryz.prog 67 #[.int .i64 x, .int .i64 y] w fun e w' => e = .returned (.int .i64 (clampI (x + y))) ∧ Below w.heap.size w w' := by
  obtain ⟨r, hr⟩ : ∃ r, clampI (x + y) = r := ⟨_, rfl⟩
  rw [hr]
  unfold clampI at hr
  by_cases h1 : 9223372036854775807 < x + y
  · rw [if_pos h1] at hr
    subst hr
    obtain ⟨_, x1⟩ := id hx
    have b1 : decide (y > 0) = true := decide_eq_true (by omega)
    have hf : Val.fit (x + y) = ⟨0, 0, []⟩ := by unfold Val.fit; rw [if_neg (by omega)]; rfl
    replace hf := Lib.hid hf
    replace hx := Lib.hid hx
    replace hy := Lib.hid hy
    clear h1 x1
    go_enter Tryz.func67, Tryz.ntmps67
    go_wp2_with (go_at_call 125; refine (rsum_is _ _ _ hx.out hy.out _ _ hf).mono ?_; rintro e w1 ⟨rfl, hb1⟩)
    go_ret
    exact ⟨rfl, hb1.alloc hb1.size _⟩
  · rw [if_neg h1] at hr
    by_cases h2 : x + y < -9223372036854775808
    · rw [if_pos h2] at hr
      subst hr
      obtain ⟨x1, _⟩ := id hx
      have b1 : decide (y > 0) = false := decide_eq_false (by omega)
      have b1' : ¬ 0 < y := by omega
      have hf : Val.fit (x + y) = ⟨0, 0, []⟩ := by unfold Val.fit; rw [if_neg (by omega)]; rfl
      replace hf := Lib.hid hf
      replace hx := Lib.hid hx
      replace hy := Lib.hid hy
      clear h1 x1 h2
      go_enter Tryz.func67, Tryz.ntmps67
      go_wp2_with (go_at_call 125; refine (rsum_is _ _ _ hx.out hy.out _ _ hf).mono ?_; rintro e w1 ⟨rfl, hb1⟩)
      go_ret
      exact ⟨rfl, hb1.alloc hb1.size _⟩
    · rw [if_neg h2] at hr
      have hf : Val.fit (x + y) = ⟨1, r, []⟩ := by unfold Val.fit; rw [if_pos (by omega), hr]
      replace hf := Lib.hid hf
      replace hx := Lib.hid hx
      replace hy := Lib.hid hy
      replace hr := Lib.hid hr
      clear h1 h2
      go_enter Tryz.func67, Tryz.ntmps67
      go_wp2_with (go_at_call 125; refine (rsum_is _ _ _ hx.out hy.out _ _ hf).mono ?_; rintro e w1 ⟨rfl, hb1⟩)
      go_ret
      exact ⟨rfl, hb1.alloc hb1.size _⟩

theorem beq_lists (a b : ByteArray) : (a.toList == b.toList) = (a.data.toList == b.data.toList) := by rw [Lib.toList_data, Lib.toList_data]
set_option maxHeartbeats 1000000 in
theorem rfind18_any (s t : ByteArray) (w : World) (hs : s.size ≤ 1048576) (ht : t.size ≤ 1048576) (r : Int) (hr : Hid (Lib.index s.data.toList t.data.toList = r)) :
    Calls Tryz.prog 71 #[.string s, .string t] w fun e w' => e = .returned (.int .i64 r) ∧ w = w' := by
  have hls : s.data.toList.length = s.size := rfl
  have hlt : t.data.toList.length = t.size := rfl
  have hcases := index_cases s.data.toList t.data.toList
  rw [hr.out] at hcases
  replace hls := Lib.hid hls
  replace hlt := Lib.hid hlt
  replace hcases := Lib.hid hcases
  clear hr
  go_enter Tryz.func71, Tryz.ntmps71
  go_wp2
  go_loop [5] (fun iv => ∃ i : Nat, iv = .int .i64 (i : Int) ∧ i ≤ s.size + 1 ∧ Hid (∀ j, j < i → Lib.occAt s.data.toList t.data.toList j = false)) (fun iv => s.size + 1 - (intOf iv).toNat)
  case atStart => exact ⟨0, by go_num, by omega, Lib.hid (fun j hj => absurd hj (Nat.not_lt_zero j))⟩
  case round =>
    obtain ⟨i, rfl, hi, hH⟩ := hrel
    by_cases hin : i + t.size ≤ s.size
    · have b1 : decide ((i : Int) + (t.size : Int) ≤ (s.size : Int)) = true := by simp; omega
      have i0 : (0 : Int) ≤ (i : Int) := by omega
      have i1 : (i : Int) ≤ (i : Int) + (t.size : Int) := by omega
      have i2 : (i : Int) + (t.size : Int) ≤ (s.size : Int) := by omega
      have i3 : (0 : Int) ≤ (i : Int) + (t.size : Int) := by omega
      have i4 : ((i : Int) + (t.size : Int)).toNat = i + t.size := by omega
      have hoc := Lib.occAt_iff_take s.data.toList t.data.toList i (by rw [hls.out, hlt.out]; exact hin)
      obtain ⟨b, hb⟩ : ∃ b, Lib.occAt s.data.toList t.data.toList i = b := ⟨_, rfl⟩
      have he : ((s.extract i (i + t.size)).toList == t.toList) = b := by
        rw [beq_lists, Lib.extract_data, ← hb, hoc, hlt.out, show i + t.size - i = t.size by omega]
      clear hoc
      cases b with
      | true =>
        have hre : (i : Int) = r := by
          rcases hcases.out with ⟨_, h⟩ | ⟨j, hj, e, ho, hf⟩
          · exfalso
            rw [h i (by rw [hls.out]; omega)] at hb
            cases hb
          · rw [e]
            rcases Nat.lt_trichotomy i j with h | h | h
            · rw [hf i h] at hb; cases hb
            · rw [h]
            · rw [hH.out j h] at ho; cases ho
        replace hre := Lib.hid hre
        replace hb := Lib.hid hb
        replace hcases := Lib.hid hcases
        go_wp2
        go_ret
        exact ⟨ret_int hre.out, rfl⟩
      | false =>
        replace hb := Lib.hid hb
        go_wp2
        go_round
        case rel =>
          refine ⟨i + 1, by go_num, by omega, Lib.hid fun j hj => ?_⟩
          rcases Nat.lt_or_ge j i with h | h
          · exact hH.out j h
          · rw [show j = i by omega]; exact hb.out
        case measure => simp [intOf]; omega
    · have b1 : decide ((i : Int) + (t.size : Int) ≤ (s.size : Int)) = false := by simp; omega
      have hre : (-1 : Int) = r := by
        rcases hcases.out with ⟨e, _⟩ | ⟨j, hj, e, ho, hf⟩
        · exact e.symm
        · exfalso
          have hji : ¬ j < i := fun h => by rw [hH.out j h] at ho; cases ho
          rcases Lib.occAt_room ho with h | h
          · rw [hls.out, hlt.out] at h; omega
          · have : t.size = 0 := by rw [← hlt.out, h]; rfl
            rw [hls.out] at hj
            omega
      replace hre := Lib.hid hre
      go_wp2
      go_ret
      exact ⟨ret_int hre.out, rfl⟩

end Go.Proofs.YtmkgalcojoeniaaGreatDoor

namespace Go.Proofs.YtmkgalcojoeniaaGreatDoor
open Go.RowKit
attribute [local go_sem] run_store_fn run_store_nofn

def digsL (l : List UInt8) : List UInt8 := l.flatMap fun c => [Tok.dig (c.toNat / 16), Tok.dig (c.toNat % 16)]
theorem digsL_snoc (l : List UInt8) (c : UInt8) : digsL (l ++ [c]) = digsL l ++ [Tok.dig (c.toNat / 16), Tok.dig (c.toNat % 16)] := by simp [digsL]
theorem digsL_len (l : List UInt8) : (digsL l).length = 2 * l.length := by
  induction l with
  | nil => rfl
  | cons c l ih => simp only [digsL, List.flatMap_cons, List.length_append, List.length_cons, List.length_nil] at ih ⊢; omega
set_option maxHeartbeats 4000000 in
theorem rhex18_any (s : ByteArray) (w : World) (hs : s.size ≤ 1048576) (r : ByteArray) (hr : Hid (bs (hexU s.data.toList) = r)) :
    Calls Tryz.prog 69 #[.string s] w fun e w' => e = .returned (.string r) ∧ Below w.heap.size w w' := by
  go_enter Tryz.func69, Tryz.ntmps69
  go_wp2
  go_loopw [3, 4] (fun vv i wr => ∃ (v : Value) (k : Nat) (acc : List UInt8), v = vv ∧ k ≤ s.size ∧ i = .int .i64 (k : Int) ∧ Hid (acc = digsL (s.data.toList.take k)) ∧ wr.ownsRow w.heap.size 5 1 v acc.length (bytesC acc) ∧ Below w.heap.size w wr) (fun _ i _ => s.size - (intOf i).toNat)
  case atStart => exact ⟨_, 0, [], rfl, by omega, by go_num, Lib.hid rfl, World.ownsRow_nil _ _ _ _, Below.refl _ _⟩
  case round =>
    obtain ⟨v, k, acc, rfl, hk, rfl, ha, hown, hb⟩ := hrel
    by_cases hlt : k < s.size
    · have hl' : k < s.data.toList.length := hlt
      have hc8 := s[k].toNat_lt
      have hal : acc.length ≤ 2 * s.size := by rw [ha.out, digsL_len, List.length_take]; omega
      have hst : digsL (s.data.toList.take (k + 1)) = acc ++ [Tok.dig (s[k].toNat / 16), Tok.dig (s[k].toNat % 16)] := by
        rw [List.take_succ_eq_append_getElem hl', digsL_snoc, ha.out]; rfl
      have lB : decide ((k : Int) < (s.size : Int)) = true := by simp; omega
      have i0 : (0 : Int) ≤ (k : Int) := by omega
      have i1 : (k : Int) < (s.size : Int) := by omega
      have tm : (s[k].toNat : Int).tmod 16 = ((s[k].toNat % 16 : Nat) : Int) := by rw [Int.tmod_eq_emod_of_nonneg (by omega)]; omega
      replace tm := Lib.hid tm
      have tw : IntKind.u8.wrap ((s[k].toNat : Int) / 16) = ((s[k].toNat / 16 : Nat) : Int) := by rw [IntKind.wrap_u8]; omega
      replace tw := Lib.hid tw
      replace hst := Lib.hid hst
      go_wp2
      obtain ⟨W1, hW1⟩ : ∃ W, wr.drew = W := ⟨_, rfl⟩
      have hown1 := hown.drew
      rw [hW1] at hown1
      have hB1 : Below w.heap.size w W1 := by rw [← hW1]; exact hb.drew
      refine wp_region_held_drew (S := fun _ => True) (by kernel_rfl) trivial (fun hH => ?_)
      rw [hW1]
      have hz1 := hB1.size
      clear hW1 hown hb
      refine wpAnyH_take (i := 0) (v := ?_) rfl (by kernel_rfl) (by kernel_rfl) (by kernel_rfl) (fun _ _ _ h => h) (Or.inl ⟨by rfl, ?_⟩) hH ?_
      rotate_left
      · (intro W hSw; (try dsimp only at hSw); go_simp; try with_reducible rfl)
      try simp only [List.getElem_toArray, List.getElem_cons_zero, List.getElem_cons_succ, Act.put, List.setIfInBounds_toArray, List.set_cons_zero, List.set_cons_succ]
      refine wpAnyH_take (i := 1) (v := ?_) rfl (by kernel_rfl) (by kernel_rfl) (by kernel_rfl) (fun _ _ _ h => h) (Or.inl ⟨by rfl, ?_⟩) hH ?_
      rotate_left
      · (intro W hSw; (try dsimp only at hSw); go_simp; try with_reducible rfl)
      try simp only [List.getElem_toArray, List.getElem_cons_zero, List.getElem_cons_succ, Act.put, List.setIfInBounds_toArray, List.set_cons_zero, List.set_cons_succ]
      refine wpAnyH_take (i := 2) (v := ?_) rfl (by kernel_rfl) (by kernel_rfl) (by kernel_rfl) (fun _ _ _ h => h) (Or.inl ⟨by rfl, ?_⟩) hH ?_
      rotate_left
      · (intro W hSw; (try dsimp only at hSw); go_simp; try with_reducible rfl)
      try simp only [List.getElem_toArray, List.getElem_cons_zero, List.getElem_cons_succ, Act.put, List.setIfInBounds_toArray, List.set_cons_zero, List.set_cons_succ]
      refine wpAnyH_take (i := 3) (v := ?_) rfl (by kernel_rfl) (by kernel_rfl) (by kernel_rfl) (fun _ _ _ h => h) (Or.inl ⟨by rfl, ?_⟩) hH ?_
      rotate_left
      · (intro W hSw; (try dsimp only at hSw); go_simp; try with_reducible rfl)
      try simp only [List.getElem_toArray, List.getElem_cons_zero, List.getElem_cons_succ, Act.put, List.setIfInBounds_toArray, List.set_cons_zero, List.set_cons_succ]
      refine wpAnyH_take (i := 4) (v := ?_) rfl (by kernel_rfl) (by kernel_rfl) (by kernel_rfl) (fun _ _ _ h => h) (Or.inl ⟨by rfl, ?_⟩) hH ?_
      rotate_left
      · (intro W hSw; (try dsimp only at hSw); go_simp; try with_reducible rfl)
      try simp only [List.getElem_toArray, List.getElem_cons_zero, List.getElem_cons_succ, Act.put, List.setIfInBounds_toArray, List.set_cons_zero, List.set_cons_succ]
      refine wpAnyH_take (i := 6) (v := ?_) rfl (by kernel_rfl) (by kernel_rfl) (by kernel_rfl) (fun _ _ _ h => h) (Or.inl ⟨by rfl, ?_⟩) hH ?_
      rotate_left
      · (intro W hSw; (try dsimp only at hSw); go_simp; try with_reducible rfl)
      try simp only [List.getElem_toArray, List.getElem_cons_zero, List.getElem_cons_succ, Act.put, List.setIfInBounds_toArray, List.set_cons_zero, List.set_cons_succ]
      refine wpAnyH_take (i := 7) (v := ?_) rfl (by kernel_rfl) (by kernel_rfl) (by kernel_rfl) (fun _ _ _ h => h) (Or.inl ⟨by rfl, ?_⟩) hH ?_
      rotate_left
      · (intro W hSw; (try dsimp only at hSw); go_simp; try with_reducible rfl)
      try simp only [List.getElem_toArray, List.getElem_cons_zero, List.getElem_cons_succ, Act.put, List.setIfInBounds_toArray, List.set_cons_zero, List.set_cons_succ]
      refine wpAnyH_take (i := 8) (v := ?_) rfl (by kernel_rfl) (by kernel_rfl) (by kernel_rfl) (fun _ _ _ h => h) (Or.inl ⟨by rfl, ?_⟩) hH ?_
      rotate_left
      · (intro W hSw; (try dsimp only at hSw); go_simp; try with_reducible rfl)
      try simp only [List.getElem_toArray, List.getElem_cons_zero, List.getElem_cons_succ, Act.put, List.setIfInBounds_toArray, List.set_cons_zero, List.set_cons_succ]
      refine wpAnyH_take (i := 9) (v := ?_) rfl (by kernel_rfl) (by kernel_rfl) (by kernel_rfl) (fun _ _ _ h => h) (Or.inl ⟨by rfl, ?_⟩) hH ?_
      rotate_left
      · (intro W hSw; (try dsimp only at hSw); go_simp; try with_reducible rfl)
      try simp only [List.getElem_toArray, List.getElem_cons_zero, List.getElem_cons_succ, Act.put, List.setIfInBounds_toArray, List.set_cons_zero, List.set_cons_succ]
      refine wpAnyH_ready (rs := [5]) (by kernel_rfl) (by simp) ?_
      refine AllReadyH.cons rfl (fun K hK => ?_) AllReadyH.nil
      go_simp
      go_at_call 119; refine (rdigit_eq _ (s[k].toNat / 16) _ (by first | omega | exact tm.out | exact tw.out) (by omega)).mono ?_; rintro e w' ⟨rfl, rfl⟩
      refine hK.out _ _ trivial (fun _ => ?_)
      clear hK K
      try simp only [List.getElem_toArray, List.getElem_cons_zero, List.getElem_cons_succ, Act.put, List.setIfInBounds_toArray, List.set_cons_zero, List.set_cons_succ]
      refine wpAnyH_ready (rs := [10]) (by kernel_rfl) (by simp) ?_
      refine AllReadyH.cons rfl (fun K hK => ?_) AllReadyH.nil
      go_simp
      go_at_call 119; refine (rdigit_eq _ (s[k].toNat % 16) _ (by first | omega | exact tm.out | exact tw.out) (by omega)).mono ?_; rintro e w' ⟨rfl, rfl⟩
      refine hK.out _ _ trivial (fun _ => ?_)
      clear hK K
      try simp only [List.getElem_toArray, List.getElem_cons_zero, List.getElem_cons_succ, Act.put, List.setIfInBounds_toArray, List.set_cons_zero, List.set_cons_succ]
      refine wpAnyH_ready (rs := [11]) (by kernel_rfl) (by simp) ?_
      refine AllReadyH.cons rfl (fun K hK => ?_) AllReadyH.nil
      go_simp
      refine hK.out _ _ trivial (fun _ => ?_)
      clear hK K
      try simp only [List.getElem_toArray, List.getElem_cons_zero, List.getElem_cons_succ, Act.put, List.setIfInBounds_toArray, List.set_cons_zero, List.set_cons_succ]
      refine wpAnyH_ready (rs := [12]) (by kernel_rfl) (by simp) ?_
      refine AllReadyH.cons rfl (fun K hK => ?_) AllReadyH.nil
      refine step_pushM rfl rfl _ _ 99 rfl 2 w.heap.size 5 Tryz.underlying99 fbyte_info rfl (by decide) _ _ _ rfl hown1 _ rfl rfl (u8_two _ _) (by decide) (by omega) (by decide) hz1 ?_
      intro v' w2 hown2 hb2
      refine hK.out _ _ trivial (fun _ => ?_)
      clear hK K
      try simp only [List.getElem_toArray, List.getElem_cons_zero, List.getElem_cons_succ, Act.put, List.setIfInBounds_toArray, List.set_cons_zero, List.set_cons_succ]
      refine wpAnyH_take (i := 13) (v := ?_) rfl (by kernel_rfl) (by kernel_rfl) (by kernel_rfl) (fun _ _ _ h => h) (Or.inl ⟨by rfl, ?_⟩) hH ?_
      rotate_left
      · (intro W hSw; (try dsimp only at hSw); go_simp; try with_reducible rfl)
      try simp only [List.getElem_toArray, List.getElem_cons_zero, List.getElem_cons_succ, Act.put, List.setIfInBounds_toArray, List.set_cons_zero, List.set_cons_succ]
      refine wpAnyH_done (by kernel_rfl) ?_ _
      have hB2 := hB1.trans hb2
      clear hb2 hown1 hB1
      go_wp2
      go_roundw
      case rel => exact ⟨_, k + 1, acc ++ [Tok.dig (s[k].toNat / 16), Tok.dig (s[k].toNat % 16)], rfl, by omega, by go_num, Lib.hid hst.out.symm, by simpa [bytesC] using hown2, hB2⟩
      case measure => simp [intOf]; omega
    · have hcv := run_string_own (P := Tryz.prog) 99 9 5 Tryz.underlying99 Tryz.underlying5 Tryz.underlying9 hown
      have hst := ha.out
      rw [List.take_of_length_le (Nat.le_of_not_lt hlt)] at hst
      have hal : acc.length ≤ 2 * s.size := by rw [hst, digsL_len]; exact Nat.le_of_eq rfl
      have hup : bs ((bs acc).data.toList.map upper) = r := by
        rw [bs_data, hst]
        show bs ((s.data.toList.flatMap fun c => [Tok.dig (c.toNat / 16), Tok.dig (c.toNat % 16)]).map upper) = r
        rw [hexU_digs]; exact hr.out
      have hsz : (bs acc).size ≤ 4294967296 := by have : (bs acc).size = acc.length := by rw [← ByteArray.size_data]; rfl
                                                  omega
      obtain ⟨R, hR⟩ : ∃ R, bs acc = R := ⟨_, rfl⟩
      rw [hR] at hcv hup hsz
      replace hup := Lib.hid hup
      have lB : decide ((k : Int) < (s.size : Int)) = false := by simp; omega
      clear hst ha hR hal
      go_wp2_with (go_at_call 70; refine (rupper18_any _ _ hsz _ hup).mono ?_; rintro e w3 ⟨rfl, hb3⟩)
      go_ret
      exact ⟨rfl, below_step hb hb.size hb3⟩

theorem ext_take (x : ByteArray) (k : Nat) : (x.extract 0 k).data.toList = x.data.toList.take k := by rw [Lib.extract_data]; simp
theorem ext_drop (x : ByteArray) (k : Nat) : (x.extract k x.size).data.toList = x.data.toList.drop k := by
  rw [Lib.extract_data]
  exact List.take_of_length_le (by rw [List.length_drop]; exact Nat.le_refl _)
set_option maxHeartbeats 4000000 in
theorem rrepl18_some (x0 y z : ByteArray) (w : World) (hx : x0.size ≤ 400) (hy : y.size ≤ 400) (hz : z.size ≤ 400) (hy0 : y.data.toList ≠ []) (R : List UInt8) (hR : Hid (repAll y.data.toList z.data.toList x0.data.toList = R)) :
    Calls Tryz.prog 72 #[.string x0, .string y, .string z] w fun e w' => ∃ t : ByteArray, e = .returned (.string t) ∧ (t.data.toList = R ∨ 400 < t.size ∧ 400 < R.length) ∧ t.size ≤ 1200 ∧ w = w' := by
  have hyl : 0 < y.size := List.length_pos_iff.2 hy0
  have hye : (y.toList == (⟨#[]⟩ : ByteArray).toList) = false := by
    rw [beq_lists, beq_eq_false_iff_ne]; exact hy0
  have hye2 : y.toList.isEmpty = false := by rw [Lib.toList_data]; cases h : y.data.toList with
    | nil => exact absurd h hy0
    | cons _ _ => rfl
  replace hy0 := Lib.hid hy0
  go_enter Tryz.func72, Tryz.ntmps72
  go_wp2
  go_loop [0, 7] (fun xv ov => ∃ x o : ByteArray, xv = .string x ∧ ov = .string o ∧ x.size ≤ 400 ∧ o.size ≤ 1200 ∧ Hid (o.data.toList ++ repAll y.data.toList z.data.toList x.data.toList = R)) (fun xv _ => strSize' xv)
  case atStart => exact ⟨x0, ⟨#[]⟩, by go_num, by go_num, hx, by decide, hR⟩
  case round =>
    obtain ⟨x, o, rfl, rfl, hxs, hos, hH⟩ := hrel
    clear hR
    by_cases ho : o.size ≤ 400
    · have b1 : decide ((o.size : Int) ≤ 400) = true := by simp; omega
      obtain ⟨r, hr⟩ : ∃ r, Lib.index x.data.toList y.data.toList = r := ⟨_, rfl⟩
      have hc := index_cases x.data.toList y.data.toList
      rw [hr] at hc
      rcases hc with ⟨rfl, _⟩ | ⟨i, hi, rfl, hoc, _⟩
      · have hH := hH.out
        rw [repAll_miss hr] at hH
        have k1 : ¬ 9223372036854775807 < o.size + x.size := by omega
        replace hr := Lib.hid hr
        replace hH := Lib.hid hH
        go_wp2_with (go_at_call 71; refine (rfind18_any _ _ _ (by omega) (by omega) _ hr).mono ?_; rintro e w' ⟨rfl, rfl⟩)
        go_ret
        exact ⟨o ++ x, rfl, .inl (by rw [ByteArray.data_append, Array.toList_append]; exact hH.out), by rw [ByteArray.size_append]; omega, rfl⟩
      · have hH := hH.out
        rw [repAll_hit hy0.out hr] at hH
        have hroom : i + y.size ≤ x.size := by
          rcases Lib.occAt_room hoc with h | h
          · exact h
          · exact absurd h hy0.out
        have i0 : decide ((i : Int) < 0) = false := by simp
        have i1 : (0 : Int) ≤ (i : Int) := by omega
        have i2 : (i : Int) ≤ (x.size : Int) := by omega
        have i3 : (i : Int) + (y.size : Int) ≤ (x.size : Int) := by omega
        have i4 : (0 : Int) ≤ (i : Int) + (y.size : Int) := by omega
        have i5 : ((i : Int) + (y.size : Int)).toNat = i + y.size := by omega
        have i6 : i ≤ x.size := by omega
        have e1 : (x.extract 0 i).size = i := by rw [ByteArray.size_extract]; omega
        have k1 : ¬ 9223372036854775807 < o.size + (x.extract 0 i).size := by omega
        have k2 : ¬ 9223372036854775807 < (o ++ x.extract 0 i).size + z.size := by rw [ByteArray.size_append]; omega
        have hN : (o ++ x.extract 0 i ++ z).data.toList ++ repAll y.data.toList z.data.toList (x.extract (i + y.size) x.size).data.toList = R := by
          rw [ByteArray.data_append, Array.toList_append, ByteArray.data_append, Array.toList_append, ext_take, ext_drop]
          rw [show y.data.toList.length = y.size from rfl] at hH
          rw [← hH]
          simp
        have hsz : (o ++ x.extract 0 i ++ z).size ≤ 1200 := by rw [ByteArray.size_append, ByteArray.size_append]; omega
        have hxz : (x.extract (i + y.size) x.size).size = x.size - (i + y.size) := by rw [ByteArray.size_extract]; omega
        replace hr := Lib.hid hr
        replace hN := Lib.hid hN
        replace e1 := Lib.hid e1
        replace hxz := Lib.hid hxz
        clear hH hoc
        go_wp2_with (go_at_call 71; refine (rfind18_any _ _ _ (by omega) (by omega) _ hr).mono ?_; rintro e w' ⟨rfl, rfl⟩)
        go_round
        case rel => exact ⟨x.extract (i + y.size) x.size, o ++ x.extract 0 i ++ z, rfl, rfl, by have := hxz.out; omega, hsz, hN⟩
        case measure => simp only [strSize']; have := hxz.out; omega
    · have b1 : decide ((o.size : Int) ≤ 400) = false := by simp; omega
      have hl : 400 < R.length := by
        rw [← hH.out, List.length_append]
        have : o.data.toList.length = o.size := rfl
        omega
      replace hl := Lib.hid hl
      go_wp2
      go_ret
      exact ⟨o, rfl, .inr ⟨by omega, hl.out⟩, hos, rfl⟩
theorem index_nil (s : List UInt8) : Lib.index s [] = 0 := by
  cases s with
  | nil => rfl
  | cons b l => simp [Lib.index]
theorem rrepl18_none (x z : ByteArray) (w : World) (hx : x.size ≤ 400) :
    Calls Tryz.prog 72 #[.string x, .string ⟨#[]⟩, .string z] w fun e w' => e = .returned (.string x) ∧ w = w' := by
  have hr : Lib.index x.data.toList (⟨#[]⟩ : ByteArray).data.toList = 0 := index_nil _
  have k1 : ¬ 9223372036854775807 < (⟨#[]⟩ : ByteArray).size + x.size := by have : (⟨#[]⟩ : ByteArray).size = 0 := rfl; omega
  have k2 : (⟨#[]⟩ : ByteArray) ++ x = x := by apply ByteArray.ext; rw [ByteArray.data_append]; simp
  replace hr := Lib.hid hr
  go_enter Tryz.func72, Tryz.ntmps72
  go_wp2
  refine wp_loop_rounds 1 ?_
  rw [rounds_succ]
  go_wp2_with (go_at_call 71; refine (rfind18_any _ _ _ (by omega) (by decide) _ hr).mono ?_; rintro e w' ⟨rfl, rfl⟩)
  go_ret
  exact ⟨by first | rfl | rw [k2], rfl⟩

theorem trimL_drop (cut : List UInt8) (q : ByteArray) (h : 0 < q.size) : trimL cut q.data.toList = if Fit.inT cut q[0] = true then trimL cut (q.extract 1 q.size).data.toList else q.data.toList := by
  rw [ext_drop]
  conv => lhs; rw [dropB1' q h, trimL]
  split
  · rfl
  · exact (dropB1' q h).symm
theorem trimR_last (cut : List UInt8) (q : ByteArray) (h : 0 < q.size) : trimR cut q.data.toList = if Fit.inT cut q[q.size - 1] = true then trimR cut (q.extract 0 (q.size - 1)).data.toList else q.data.toList := by
  conv => lhs; rw [lastB q h, trimR_snoc]
  split
  · rfl
  · exact (lastB q h).symm
theorem nil_size {q : ByteArray} (h : ¬ 0 < q.size) : q.data.toList = [] := List.eq_nil_of_length_eq_zero (by have : q.data.toList.length = q.size := rfl; omega)
set_option maxHeartbeats 4000000 in
theorem rtrim18_any (s cut : ByteArray) (left right : Bool) (w : World) (hs : s.size ≤ 1048576) (hc : cut.size ≤ 1048576) (r : ByteArray) (hr : Hid (bs (trimT cut.data.toList left right s.data.toList) = r)) :
    Calls Tryz.prog 73 #[.string s, .string cut, .bool left, .bool right] w fun e w' => e = .returned (.string r) ∧ w = w' := by
  obtain ⟨m, hm⟩ : ∃ m : ByteArray, bs (if left = true then trimL cut.data.toList s.data.toList else s.data.toList) = m := ⟨_, rfl⟩
  have hml : m.size ≤ 1048576 := by
    rw [← hm, ← ByteArray.size_data]
    show (if left = true then trimL cut.data.toList s.data.toList else s.data.toList).length ≤ 1048576
    have e : s.data.toList.length = s.size := rfl
    split
    · have := trimL_len cut.data.toList s.data.toList; omega
    · omega
  have hmr : bs (if right = true then trimR cut.data.toList m.data.toList else m.data.toList) = r := by rw [← hm, ← hr.out]; rfl
  replace hm := Lib.hid hm
  replace hmr := Lib.hid hmr
  clear hr
  go_enter Tryz.func73, Tryz.ntmps73
  go_upto_block 0 with fail
  go_cut [0] from 9 to 22 (fun sv W => sv = .string m ∧ W = w)
  case first =>
    go_wp2_with fail
    go_loop [0] (fun sv => ∃ q : ByteArray, sv = .string q ∧ q.size ≤ 1048576 ∧ Hid (bs (if left = true then trimL cut.data.toList q.data.toList else q.data.toList) = m)) (fun sv => strSize' sv)
    case atStart => exact ⟨s, by go_num, hs, hm⟩
    case round =>
      obtain ⟨q, rfl, hqs, hq⟩ := hrel
      cases left with
      | false =>
        have hqm : q = m := by rw [← hq.out, if_neg (by simp), bs_of]
        replace hqm := Lib.hid hqm
        go_wp2
        go_meet
        exact ⟨by rw [hqm.out], rfl⟩
      | true =>
        have hq' := hq.out
        rw [if_pos rfl] at hq'
        by_cases h1 : 0 < q.size
        · have b1 : decide ((q.size : Int) > 0) = true := decide_eq_true (by omega)
          have n0 : (0 : Int) ≤ 0 := by omega
          have n1 : (0 : Int) < (q.size : Int) := by omega
          have s1 : (1 : Int) ≤ (q.size : Int) := by omega
          have s2 : 1 ≤ q.size := h1
          rw [trimL_drop _ q h1] at hq'
          cases hin : Fit.inT cut.data.toList q[0] with
          | true =>
            have hz : (q.extract 1 q.size).size = q.size - 1 := by rw [ByteArray.size_extract]; omega
            rw [if_pos hin] at hq'
            have hq2 : bs (if true = true then trimL cut.data.toList (q.extract 1 q.size).data.toList else (q.extract 1 q.size).data.toList) = m := by rw [if_pos rfl]; exact hq'
            replace hq2 := Lib.hid hq2
            replace hin := Lib.hid hin
            replace hz := Lib.hid hz
            clear hq' hq
            go_wp2_with (go_at_call 26; refine (rin18_any _ q[0] _ hc _ hin).mono ?_; rintro e w' ⟨rfl, rfl⟩)
            go_round
            case rel => exact ⟨q.extract 1 q.size, rfl, by have := hz.out; omega, hq2⟩
            case measure => simp only [strSize']; have := hz.out; omega
          | false =>
            rw [if_neg (by rw [hin]; simp)] at hq'
            have hqm : q = m := by rw [← hq', bs_of]
            replace hqm := Lib.hid hqm
            replace hin := Lib.hid hin
            clear hq' hq
            go_wp2_with (go_at_call 26; refine (rin18_any _ q[0] _ hc _ hin).mono ?_; rintro e w' ⟨rfl, rfl⟩)
            go_meet
            exact ⟨by rw [hqm.out], rfl⟩
        · have b1 : decide ((q.size : Int) > 0) = false := decide_eq_false (by omega)
          have hqm : q = m := by rw [← hq', ← bs_of q, nil_size h1]; rfl
          replace hqm := Lib.hid hqm
          clear hq' hq
          go_wp2
          go_meet
          exact ⟨by rw [hqm.out], rfl⟩
  case rest =>
    obtain ⟨rfl, hww⟩ := hcut
    subst hww
    go_wp2_with fail
    go_loop [0] (fun sv => ∃ q : ByteArray, sv = .string q ∧ q.size ≤ 1048576 ∧ Hid (bs (if right = true then trimR cut.data.toList q.data.toList else q.data.toList) = r)) (fun sv => strSize' sv)
    case atStart => exact ⟨m, by go_num, hml, hmr⟩
    case round =>
      obtain ⟨q, rfl, hqs, hq⟩ := hrel
      cases right with
      | false =>
        have hqm : q = r := by rw [← hq.out, if_neg (by simp), bs_of]
        replace hqm := Lib.hid hqm
        go_wp2
        go_ret
        exact ⟨congrArg (fun x : ByteArray => Ending.returned (Value.string x)) hqm.out, rfl⟩
      | true =>
        have hq' := hq.out
        rw [if_pos rfl] at hq'
        by_cases h1 : 0 < q.size
        · have b1 : decide ((q.size : Int) > 0) = true := decide_eq_true (by omega)
          have n0 : (0 : Int) ≤ (q.size : Int) - 1 := by omega
          have n1 : (q.size : Int) - 1 < (q.size : Int) := by omega
          have n2 : ((q.size : Int) - 1).toNat = q.size - 1 := by omega
          have n3 : (1 : Int) ≤ (q.size : Int) := by omega
          have n4 : (q.size : Int) - 1 ≤ (q.size : Int) := by omega
          rw [trimR_last _ q h1] at hq'
          cases hin : Fit.inT cut.data.toList q[q.size - 1] with
          | true =>
            have hz : (q.extract 0 (q.size - 1)).size = q.size - 1 := by rw [ByteArray.size_extract]; omega
            rw [if_pos hin] at hq'
            have hq2 : bs (if true = true then trimR cut.data.toList (q.extract 0 (q.size - 1)).data.toList else (q.extract 0 (q.size - 1)).data.toList) = r := by rw [if_pos rfl]; exact hq'
            replace hq2 := Lib.hid hq2
            replace hin := Lib.hid hin
            replace hz := Lib.hid hz
            clear hq' hq
            go_wp2_with (go_at_call 26; refine (rin18_any _ q[q.size - 1] _ hc _ hin).mono ?_; rintro e w' ⟨rfl, rfl⟩)
            go_round
            case rel => exact ⟨q.extract 0 (q.size - 1), rfl, by have := hz.out; omega, hq2⟩
            case measure => simp only [strSize']; have := hz.out; omega
          | false =>
            rw [if_neg (by rw [hin]; simp)] at hq'
            have hqm : q = r := by rw [← hq', bs_of]
            replace hqm := Lib.hid hqm
            replace hin := Lib.hid hin
            clear hq' hq
            go_wp2_with (go_at_call 26; refine (rin18_any _ q[q.size - 1] _ hc _ hin).mono ?_; rintro e w' ⟨rfl, rfl⟩)
            go_ret
            exact ⟨congrArg (fun x : ByteArray => Ending.returned (Value.string x)) hqm.out, rfl⟩
        · have b1 : decide ((q.size : Int) > 0) = false := decide_eq_false (by omega)
          have hqm : q = r := by rw [← hq', ← bs_of q, nil_size h1]; rfl
          replace hqm := Lib.hid hqm
          clear hq' hq
          go_wp2
          go_ret
          exact ⟨congrArg (fun x : ByteArray => Ending.returned (Value.string x)) hqm.out, rfl⟩

end Go.Proofs.YtmkgalcojoeniaaGreatDoor

