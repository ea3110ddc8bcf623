/- Walks: Number of the reference, of any short text. -/
import Derived.Test.YtmkgalcojoeniaaGreatDoorNumW
set_option maxRecDepth 100000
set_option linter.unusedVariables false
set_option linter.unusedSimpArgs false
namespace Go.Proofs.YtmkgalcojoeniaaGreatDoor
open Go.RowKit

theorem rnum_any (s : ByteArray) (w : World) (hs : s.size ≤ 1000) : Calls Tryz.prog 158 #[.string s] w (NumP (Val.number s.data.toList) w) := by
  by_cases h0 : s.size = 0
  · have e : s.data.toList = [] := List.eq_nil_of_length_eq_zero h0
    rw [e]
    have b0 : decide ((s.size : Int) > 0) = false := decide_eq_false (by omega)
    have b1 : ((0 : Int) == (s.size : Int)) = true := by simp; omega
    clear e h0
    go_enter Tryz.func158, Tryz.ntmps158
    go_wp2
    go_ret2
    exact ⟨rfl, rfl⟩
  · have hp : 0 < s.size := by omega
    have hd := dropc s 0 hp
    have hd0 : s.data.toList = s[0] :: s.data.toList.drop 1 := by simpa using hd
    have b0 : decide ((s.size : Int) > 0) = true := decide_eq_true (by omega)
    have hlen : s.data.toList.length = s.size := rfl
    by_cases h45 : (s[0]).toNat = 45
    · by_cases h1 : s.size = 1
      · have e : Val.number s.data.toList = none := by
          rw [hd0, Val.number, if_pos h45, if_pos (.inl (List.drop_of_length_le (by omega)))]
        rw [e]
        have b1 : (((s[0]).toNat : Int) == 45) = true := by simp; omega
        have b2 : ((1 : Int) == (s.size : Int)) = true := by simp; omega
        clear e hd hd0 hlen h0 h1 h45
        go_enter Tryz.func158, Tryz.ntmps158
        go_wp2
        go_ret2
        exact ⟨rfl, rfl⟩
      · have hp1 : 1 < s.size := by omega
        have hd1 := dropc s 1 hp1
        by_cases h48 : (s[1]).toNat = 48
        · have e : Val.number s.data.toList = none := by
            rw [hd0, Val.number, if_pos h45, if_pos (.inr (by rw [hd1]; simpa using h48))]
          rw [e]
          have b1 : (((s[0]).toNat : Int) == 45) = true := by simp; omega
          have b2 : ((1 : Int) == (s.size : Int)) = false := by simp; omega
          have b3 : (((s[1]).toNat : Int) == 48) = true := by simp; omega
          have b4 : decide ((s.size : Int) > 1) = true := decide_eq_true (by omega)
          clear e hd hd0 hd1 hlen h0 h1 h45 h48
          go_enter Tryz.func158, Tryz.ntmps158
          go_wp2
          go_ret2
          exact ⟨rfl, rfl⟩
        · have e : Val.number s.data.toList = Val.numFrom true 0 (s.data.toList.drop 1) := by
            conv => lhs; rw [hd0]
            rw [Val.number, if_pos h45, if_neg]
            rintro (h | h)
            · rw [hd1] at h; cases h
            · rw [hd1] at h; exact h48 (by simpa using h)
          rw [e]
          exact rnum_neg s w hs hp1 h45 h48 _ (Lib.hid rfl)
    · by_cases h48 : (s[0]).toNat = 48 ∧ 1 < s.size
      · have e : Val.number s.data.toList = none := by
          rw [hd0, Val.number, if_neg h45, if_pos ⟨h48.1, fun h => by have := congrArg List.length h; simp at this; omega⟩]
        rw [e]
        have b1 : (((s[0]).toNat : Int) == 45) = false := by simp; omega
        have b2 : ((0 : Int) == (s.size : Int)) = false := by simp; omega
        have b3 : (((s[0]).toNat : Int) == 48) = true := by simp; omega
        have b4 : decide ((s.size : Int) > 1) = true := decide_eq_true (by omega)
        clear e hd hd0 hlen h0 h45 h48
        go_enter Tryz.func158, Tryz.ntmps158
        go_wp2
        go_ret2
        exact ⟨rfl, rfl⟩
      · have e : Val.number s.data.toList = Val.numFrom false 0 (s.data.toList.drop 0) := by
          rw [List.drop_zero]
          conv => lhs; rw [hd0]
          rw [Val.number, if_neg h45, if_neg, ← hd0]
          rintro ⟨h, hr⟩
          exact h48 ⟨h, by
            apply Classical.byContradiction
            intro hh
            exact hr (List.drop_of_length_le (by omega))⟩
        rw [e]
        exact rnum_pos s w hs hp h45 h48 _ (Lib.hid rfl)

end Go.Proofs.YtmkgalcojoeniaaGreatDoor
