/- Aggregates by their names: Known, Lower, lower, counts, kind. -/
import Derived.Test.YtdapnemcdgjeeaaGreatDoorGat
import Derived.Test.YtdapnemcdgjeeaaGreatDoorEqual
import Derived.Test.YtdapnemcdgjeeaaGreatDoorFoldW
import Derived.Test.YtdapnemcdgjeeaaGreatDoorMapL
set_option maxRecDepth 100000
set_option linter.unusedVariables false
set_option linter.unusedSimpArgs false
namespace Go.Proofs.YtdapnemcdgjeeaaGreatDoor
open Go.RowKit

/-- the aggregates' names -/
def nm0 : List UInt8 := [99, 111, 117, 110, 116]
def nm1 : List UInt8 := [115, 117, 109]
def nm2 : List UInt8 := [109, 105, 110]
def nm3 : List UInt8 := [109, 97, 120]
def nm4 : List UInt8 := [103, 114, 111, 117, 112, 95, 99, 111, 110, 99, 97, 116]
/-- which aggregate a name in small letters is -/
def kindN (l : List UInt8) : Option Nat := if l = nm0 then some 0 else if l = nm1 then some 1 else if l = nm2 then some 2 else if l = nm3 then some 3 else if l = nm4 then some 4 else none
theorem kindN_cases (l : List UInt8) : (l = nm0 ∧ kindN l = some 0) ∨ (l = nm1 ∧ kindN l = some 1) ∨ (l = nm2 ∧ kindN l = some 2) ∨ (l = nm3 ∧ kindN l = some 3) ∨ (l = nm4 ∧ kindN l = some 4) ∨ (¬ l = nm0 ∧ ¬ l = nm1 ∧ ¬ l = nm2 ∧ ¬ l = nm3 ∧ ¬ l = nm4 ∧ kindN l = none) := by
  unfold kindN
  by_cases h0 : l = nm0
  · exact .inl ⟨h0, by rw [if_pos h0]⟩
  · by_cases h1 : l = nm1
    · exact .inr (.inl ⟨h1, by rw [if_neg h0, if_pos h1]⟩)
    · by_cases h2 : l = nm2
      · exact .inr (.inr (.inl ⟨h2, by rw [if_neg h0, if_neg h1, if_pos h2]⟩))
      · by_cases h3 : l = nm3
        · exact .inr (.inr (.inr (.inl ⟨h3, by rw [if_neg h0, if_neg h1, if_neg h2, if_pos h3]⟩)))
        · by_cases h4 : l = nm4
          · exact .inr (.inr (.inr (.inr (.inl ⟨h4, by rw [if_neg h0, if_neg h1, if_neg h2, if_neg h3, if_pos h4]⟩))))
          · exact .inr (.inr (.inr (.inr (.inr ⟨h0, h1, h2, h3, h4, by rw [if_neg h0, if_neg h1, if_neg h2, if_neg h3, if_neg h4]⟩))))
theorem known_is (t : ByteArray) (w : World) (b : Bool) (hb : Hid ((kindN t.toList).isSome = b)) :
    Calls Tryz.prog 47 #[.string t] w fun e w' => e = .returned (.bool b) ∧ w' = w := by
  have hb := hb.out
  rcases kindN_cases t.toList with ⟨h, hk⟩ | ⟨h, hk⟩ | ⟨h, hk⟩ | ⟨h, hk⟩ | ⟨h, hk⟩ | ⟨h0, h1, h2, h3, h4, hk⟩
  all_goals rw [hk] at hb
  all_goals (try unfold nm0 at *)
  all_goals (try unfold nm1 at *)
  all_goals (try unfold nm2 at *)
  all_goals (try unfold nm3 at *)
  all_goals (try unfold nm4 at *)
  all_goals (
    subst hb
    clear hk
    go_enter Tryz.func47, Tryz.ntmps47
    go_wp2
    go_ret
    refine ⟨?_, rfl⟩
    first
      | rfl
      | exact ret_bool (by simpa using h4))
theorem rlower19_is (s : ByteArray) (w : World) (hs : s.size ≤ 1048576) (t : ByteArray) (ht : Hid (bs (s.data.toList.map Txt.lower) = t)) : Calls Tryz.prog 46 #[.string s] w fun e w' => e = .returned (.string t) ∧ Below w.heap.size w w' := by
  have hf := fold_one s w (by omega)
  rw [ht.out] at hf
  go_enter Tryz.func46, Tryz.ntmps46
  go_wp2_with (go_at_call 77; refine hf.mono ?_; rintro e w1 ⟨rfl, hb1⟩)
  go_ret
  exact ⟨rfl, hb1⟩
theorem lowerR_is (x : Int) (h0 : 0 ≤ x) (h1 : x ≤ 1114111) (w : World) : Calls Tryz.prog 105 #[.int .i32 x] w fun e w' => e = .returned (.int .i32 (Quo.lowerR x)) ∧ w' = w := by
  by_cases h : 65 ≤ x
  · have g1 : decide (x ≥ 65) = true := by simpa using h
    by_cases h2 : x ≤ 90
    · have g2 : decide (x ≤ 90) = true := by simpa using h2
      have e : Quo.lowerR x = x + 32 := by unfold Quo.lowerR; rw [if_pos ⟨h, h2⟩]
      have w1 : IntKind.i32.wrap (x + 97) = x + 97 := by simp [IntKind.wrap, IntKind.bits, IntKind.signed]; omega
      have w2 : IntKind.i32.wrap (x + 97 - 65) = x + 97 - 65 := by simp [IntKind.wrap, IntKind.bits, IntKind.signed]; omega
      go_enter Tryz.func105, Tryz.ntmps105
      go_wp2
      go_ret
      exact ⟨by rw [e]; exact ret_int (by omega), rfl⟩
    · have g2 : decide (x ≤ 90) = false := by simpa using h2
      have e : Quo.lowerR x = x := by unfold Quo.lowerR; rw [if_neg (by omega)]
      go_enter Tryz.func105, Tryz.ntmps105
      go_wp2
      go_ret
      exact ⟨rfl, rfl⟩
  · have g1 : decide (x ≥ 65) = false := by simp; omega
    have g3 : ¬ 65 ≤ x := h
    have e : Quo.lowerR x = x := by unfold Quo.lowerR; rw [if_neg (by omega)]
    go_enter Tryz.func105, Tryz.ntmps105
    go_wp2
    go_ret
    exact ⟨rfl, rfl⟩
theorem enters_lower1 : ∀ args w, (callFunc 105 args).run Tryz.prog w = .ok (.enter 105 args) w := enters_of Tryz.func105 (by kernel_rfl) rfl
theorem lower_is (s : ByteArray) (w : World) (hs : s.size ≤ 1048576) (hT : Lib.Utf8Tabs 1 2 w) (t : ByteArray) (ht : Hid (bs (Lib.mapD Quo.lowerR s.data.toList) = t)) :
    Calls Tryz.prog 75 #[.string s] w fun e w' => e = .returned (.string t) ∧ Below w.heap.size w w' := by
  have hm := Tryz.strings_Map_grows 105 #[] enters_lower1 Quo.lowerR s w (by omega) (fun W x hx _ => (lowerR_is (x : Int) (by omega) (by omega) W).mono fun e w' ⟨he, hw⟩ => ⟨he, hw ▸ Below.refl _ _⟩) (fun x hx => by unfold Quo.lowerR; split <;> omega) hT
  have ht' : (⟨(Lib.mapD Quo.lowerR s.data.toList).toArray⟩ : ByteArray) = t := ht.out
  rw [ht'] at hm
  go_enter Tryz.func75, Tryz.ntmps75
  go_wp2_with (go_at_call 104; refine hm.mono ?_; rintro e w1 ⟨rfl, hb1⟩)
  go_ret
  exact ⟨rfl, hb1⟩
end Go.Proofs.YtdapnemcdgjeeaaGreatDoor
