/- Walks: Fold of the reference, under any collation. -/
import Derived.Test.YtdapnemcdgjeeaaGreatDoorCmpA
import Derived.Test.YtdapnemcdgjeeaaGreatDoorProg
import Derived.Test.YtdapnemcdgjeeaaGreatDoorPlain
import Derived.Test.YtdapnemcdgjeeaaGreatDoorBase
set_option maxRecDepth 100000
set_option linter.unusedVariables false
set_option linter.unusedSimpArgs false
namespace Go.Proofs.YtdapnemcdgjeeaaGreatDoor
open Go.RowKit

theorem fbyte_info : (Tryz.prog.info? 5).map (fun i => (i.zero, i.size, i.bytes)) = some (some (.int .u8 0), 1, 1) := by kernel_rfl
theorem fone_u8 (n : Int) : ∀ u ∈ (#[Value.int .u8 n] : Array Value).toList, u.oneCell' = true := by intro u hu; simp at hu; subst hu; rfl
theorem take_snoc_map (s : ByteArray) (k : Nat) (h : k < s.size) : (s.data.toList.take (k + 1)).map Txt.lower = (s.data.toList.take k).map Txt.lower ++ [Txt.lower s[k]] := by
  have h' : k < s.data.toList.length := h
  rw [List.take_succ_eq_append_getElem h', List.map_append]
  rfl

set_option maxHeartbeats 800000 in
theorem fold_one (s : ByteArray) (w : World) (hs : s.size ≤ 4294967296) :
    Calls Tryz.prog 77 #[.string s, .int .i64 1] w fun e w' => e = .returned (.string (bs (s.data.toList.map Txt.lower))) ∧ Below w.heap.size w w' := by
  go_enter Tryz.func77, Tryz.ntmps77
  go_wp2
  go_loopw [5, 6, 7] (fun vv i _ wr => ∃ (v : Value) (k : Nat) (acc : List UInt8), v = vv ∧ k ≤ s.size ∧ acc.length ≤ k ∧ i = .int .i64 (k : Int) ∧ Hid (acc = (s.data.toList.take k).map Txt.lower) ∧ wr.ownsRow w.heap.size 5 1 v acc.length (bytesC acc) ∧ Below w.heap.size w wr) (fun _ i _ _ => s.size - (intOf i).toNat)
  case atStart => exact ⟨_, 0, [], rfl, by omega, by simp, by go_num, rfl, World.ownsRow_nil _ _ _ _, Below.refl _ _⟩
  case round =>
    obtain ⟨v, k, acc, rfl, hk, hacc, rfl, ha, hown, hb⟩ := hrel
    by_cases hlt : k < s.size
    · have hc8 := s[k].toNat_lt
      have hst := take_snoc_map s k hlt
      rw [← ha.out] at hst
      replace hst := Lib.hid hst
      by_cases hu : 65 ≤ s[k].toNat ∧ s[k].toNat ≤ 90
      · have hlo : ((Txt.lower s[k]).toNat : Int) = (s[k].toNat : Int) - 65 + 97 := by rw [Txt.lower_up hu]; omega
        have b1 : decide ((s[k].toNat : Int) ≥ 65) = true := by simp; omega
        have b2 : decide ((s[k].toNat : Int) ≤ 90) = true := by simp; omega
        replace hlo := Lib.hid hlo
        go_wp2_with (at_builtin; go_must (refine wpList_push rfl _ _ 144 rfl w.heap.size 5 Tryz.underlying144 fbyte_info rfl (by decide) _ _ _ rfl hown _ rfl rfl (fone_u8 _) (by omega) (by decide) hb.size ?_); intro v' w1 hown' hb' hv' _)
        go_roundw
        case rel => exact ⟨_, k + 1, acc ++ [Txt.lower s[k]], rfl, by omega, by simp; omega, by go_num, Lib.hid hst.out.symm, by rw [bytesC_snoc, hlo.out]; simpa using hown', hb.trans hb'⟩
        case measure => simp [intOf]; omega
      · have hlo := Txt.lower_no hu
        replace hlo := Lib.hid hlo
        go_wp2_with (at_builtin; go_must (refine wpList_push rfl _ _ 144 rfl w.heap.size 5 Tryz.underlying144 fbyte_info rfl (by decide) _ _ _ rfl hown _ rfl rfl (fone_u8 _) (by omega) (by decide) hb.size ?_); intro v' w1 hown' hb' hv' _)
        all_goals first
          | (exfalso; omega; done)
          | (go_roundw
             case rel => exact ⟨_, k + 1, acc ++ [Txt.lower s[k]], rfl, by omega, by simp; omega, by go_num, Lib.hid hst.out.symm, by rw [bytesC_snoc, hlo.out]; simpa using hown', hb.trans hb'⟩
             case measure => simp [intOf]; omega)
    · have hcv := run_string_own (P := Tryz.prog) 144 9 5 Tryz.underlying144 Tryz.underlying5 Tryz.underlying9 hown
      have hst := ha.out
      rw [List.take_of_length_le (Nat.le_of_not_lt hlt)] at hst
      replace hst := Lib.hid hst
      go_wp2
      go_ret
      exact ⟨by rw [hst.out]; rfl, hb⟩


theorem fold_plain (s : ByteArray) (c : Int) (w : World) (h1 : c ≠ 1) (h2 : c ≠ 2) :
    Calls Tryz.prog 77 #[.string s, .int .i64 c] w fun e w' => e = .returned (.string s) ∧ Below w.heap.size w w' := by
  have b1 : (c == 2) = false := by simp; omega
  have b2 : (c != 1) = true := by simp; omega
  clear h1 h2
  go_enter Tryz.func77, Tryz.ntmps77
  go_wp2
  go_ret
  exact ⟨rfl, Below.refl _ _⟩

theorem snoc_split (s : ByteArray) (h : 0 < s.size) : s.data.toList = (s.extract 0 (s.size - 1)).data.toList ++ [s[s.size - 1]] := by
  rw [Lib.extract_data]
  have h' : s.size - 1 < s.data.toList.length := by have : s.data.toList.length = s.size := rfl; omega
  have e := List.take_succ_eq_append_getElem h'
  rw [List.take_of_length_le (by have : s.data.toList.length = s.size := rfl; omega)] at e
  rw [e]
  simp
  rfl

theorem fold_trim (s0 : ByteArray) (w : World) (hs : s0.size ≤ 4294967296) (t : ByteArray) (ht : Hid (bs (Txt.rtrim s0.data.toList) = t)) :
    Calls Tryz.prog 77 #[.string s0, .int .i64 2] w fun e w' => e = .returned (.string t) ∧ Below w.heap.size w w' := by
  go_enter Tryz.func77, Tryz.ntmps77
  go_wp2
  go_loop [0] (fun v => ∃ s : ByteArray, v = .string s ∧ s.size ≤ 4294967296 ∧ Hid (bs (Txt.rtrim s.data.toList) = t)) (fun v => Lib.strSize v)
  case atStart => exact ⟨s0, rfl, hs, ht⟩
  case round =>
    obtain ⟨s, rfl, hz, hq⟩ := hrel
    by_cases h0 : 0 < s.size
    · have b0 : decide ((s.size : Int) > 0) = true := by simp; omega
      have hcut := snoc_split s h0
      have hlast : s.size - 1 < s.size := by omega
      have i1 : (s.size : Int) - 1 = ((s.size - 1 : Nat) : Int) := by omega
      by_cases h32 : (s[s.size - 1]).toNat = 32
      · have b1 : (((s[s.size - 1]).toNat : Int) == 32) = true := by simp; omega
        have hn : bs (Txt.rtrim (s.extract 0 (s.size - 1)).data.toList) = t := by
          rw [← hq.out]
          conv => rhs; rw [hcut, Txt.rtrim_blank _ _ h32]
        replace hn := Lib.hid hn
        clear hcut h32 hq
        go_wp2
        go_round
        case rel => exact ⟨s.extract 0 (s.size - 1), by first | rfl | (simp; done), by rw [ByteArray.size_extract]; omega, hn⟩
        case measure => simp [Lib.strSize]; omega
      · have b1 : (((s[s.size - 1]).toNat : Int) == 32) = false := by simp; omega
        have hn : s = t := by
          rw [← hq.out]
          conv => rhs; rw [hcut, Txt.rtrim_other _ _ h32, ← hcut, bs_of]
        replace hn := Lib.hid hn
        clear hcut h32 hq
        go_wp2
        go_ret
        exact ⟨by rw [← hn.out]; rfl, Below.refl _ _⟩
    · have b0 : decide ((s.size : Int) > 0) = false := decide_eq_false (by omega)
      have hn : s = t := by
        rw [← hq.out]
        have : s.data.toList = [] := List.eq_nil_of_length_eq_zero (by have : s.data.toList.length = s.size := rfl; omega)
        rw [this, Txt.rtrim_nil, ← this, bs_of]
      replace hn := Lib.hid hn
      clear hq
      go_wp2
      go_ret
      exact ⟨by rw [← hn.out]; rfl, Below.refl _ _⟩

theorem rfold_is (s : ByteArray) (c : Int) (w : World) (t : ByteArray) (hs : s.size ≤ 1048576) (ht : Hid (bs (Txt.fold s.data.toList c) = t)) :
    Calls Tryz.prog 77 #[.string s, .int .i64 c] w fun e w' => e = .returned (.string t) ∧ Below w.heap.size w w' := by
  by_cases h2 : c = 2
  · subst h2
    exact fold_trim s w (by omega) t (Lib.hid (by simpa [Txt.fold] using ht.out))
  · by_cases h1 : c = 1
    · subst h1
      refine (fold_one s w (by omega)).mono fun _ _ ⟨h1, h2⟩ => ⟨by rw [h1, ← ht.out]; simp [Txt.fold], h2⟩
    · refine (fold_plain s c w h1 h2).mono fun _ _ ⟨h3, h4⟩ => ⟨by rw [h3, ← ht.out]; simp [Txt.fold, h1, h2, bs_of], h4⟩

end Go.Proofs.YtdapnemcdgjeeaaGreatDoor
