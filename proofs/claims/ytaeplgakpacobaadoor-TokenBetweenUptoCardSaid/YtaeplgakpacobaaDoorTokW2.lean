/- Walks: skip. -/
import Derived.Test.YtaeplgakpacobaaDoorTokW1
set_option maxRecDepth 100000
set_option linter.unusedVariables false
set_option linter.unusedSimpArgs false
namespace Go.Proofs.YtaeplgakpacobaaDoor
open Go.RowKit

theorem blank_cases (c : UInt8) : Tok.blank c = decide ((c.toNat : Int) = 32 ∨ (c.toNat : Int) = 9 ∨ (c.toNat : Int) = 10 ∨ (c.toNat : Int) = 13) := by
  rw [Tok.blank, Bool.eq_iff_iff]; simp; omega

theorem skip_any (s : ByteArray) (a : Int) (w : World) (hs : s.size ≤ 4294967296) (h0 : 0 ≤ a) (h1 : a ≤ s.size) :
    Calls Tryd.prog 46 #[.string s, .int .i64 a] w fun e w' => e = .returned (.int .i64 (Tok.skip s.data.toList a.toNat)) ∧ w = w' := by
  obtain ⟨k0, rfl⟩ := Int.eq_ofNat_of_zero_le h0
  rw [Int.toNat_natCast]
  go_enter Tryd.func46, Tryd.ntmps46
  go_wp2
  go_step3
  go_wp2
  go_step3
  go_wp2
  go_loop [1] (fun i => ∃ k : Nat, k ≤ s.size ∧ i = .int .i64 k ∧ Hid (Tok.skip s.data.toList k = Tok.skip s.data.toList k0)) (fun i => s.size - (intOf i).toNat)
  case atStart => exact ⟨k0, by omega, rfl, rfl⟩
  case round =>
    obtain ⟨k, hk, rfl, hr⟩ := hrel
    by_cases hlt : k < s.size
    · have hlt' : k < s.data.toList.length := hlt
      have hc := s[k].toNat_lt
      have hdat : (s.extract k s.size).data.toList = s.data.toList.drop k := by
        rw [Lib.extract_data]; exact List.take_of_length_le (by simp)
      have hsz : (s.extract k s.size).size = s.size - k := by simp
      have hj := Tok.indexByte_lt (s.data.toList.drop k) 10
      have hj' : Lib.indexByte (s.data.toList.drop k) 10 < (s.size : Int) - k := by
        have : (s.data.toList.drop k).length = s.size - k := by simp
        omega
      clear hj
      replace hdat := Lib.hid hdat
      go_wp2_with (first
        | (go_at_call 60; refine (prefix_any _ _ _).mono ?_; rintro e w' ⟨rfl, rfl⟩; rw [hdat.out])
        | (go_at_call 61; refine (index_10 _ _).mono ?_; rintro e w' ⟨rfl, rfl⟩; rw [hdat.out]))
      all_goals first
        | (have hb : Tok.blank s[k] = true := by (rw [blank_cases]; simp_all; done)
           go_round
           case rel => exact ⟨k + 1, by omega, by go_num, (Tok.skip_blank hlt' hb).trans hr⟩
           case measure => simp [intOf]; omega)
        | (have hb : Tok.blank s[k] = false := by (rw [blank_cases]; simp_all; done)
           have hp : Lib.hasPrefix (s.data.toList.drop k) [45, 45] = true := by assumption
           have hn : Lib.indexByte (s.data.toList.drop k) 10 < 0 := by assumption
           rw [Exit.noGoto_ret]
           go_ret
           exact ⟨ret_int (by rw [← hr.out, Tok.skip_none hlt' hb hp hn]; rfl), rfl⟩)
        | (have hb : Tok.blank s[k] = false := by (rw [blank_cases]; simp_all; done)
           have hp : Lib.hasPrefix (s.data.toList.drop k) [45, 45] = true := by assumption
           have hn : 0 ≤ Lib.indexByte (s.data.toList.drop k) 10 := by assumption
           go_round
           case rel => exact ⟨k + ((Lib.indexByte (s.data.toList.drop k) 10).toNat + 1), by omega, by go_num, (Tok.skip_line hlt' hb hp hn).trans hr⟩
           case measure => simp [intOf]; omega)
        | (have hb : Tok.blank s[k] = false := by (rw [blank_cases]; simp_all; done)
           have hp : Lib.hasPrefix (s.data.toList.drop k) [45, 45] = false := by assumption
           rw [Exit.noGoto_ret]
           go_ret
           exact ⟨ret_int (by rw [← hr.out, Tok.skip_here hlt' hb hp]), rfl⟩)
    · have hlt' : s.data.toList.length ≤ k := Nat.le_of_not_lt hlt
      go_wp2
      go_ret
      exact ⟨ret_int (by rw [← hr.out, Tok.skip_end hlt']), rfl⟩

end Go.Proofs.YtaeplgakpacobaaDoor
