/- The law AggHas. -/
import Derived.Test.YtdapnemcdgjeeaaGreatDoorAggHd
set_option maxRecDepth 100000
set_option linter.unusedVariables false
set_option linter.unusedSimpArgs false
namespace Go.Proofs.YtdapnemcdgjeeaaGreatDoor
open Go.RowKit

set_option maxHeartbeats 1000000 in
theorem agg_has (s : ByteArray) (args : Int) (d st : Bool) (w : World) (hs : s.size ≤ 1048576) (hT : U8 w) :
    Calls Tryz.prog 5 #[.string s, .int .i64 args, .bool d, .bool st] w fun e w' => e = .returned (.bool true) ∧ Below w.heap.size w w' := by
  have hN := new_at s d st 0 w hs hT
  obtain ⟨E, hE⟩ : ∃ E, newE (kindN (s.data.toList.map Txt.lower)) d st = E := ⟨_, rfl⟩
  obtain ⟨r, hr⟩ : ∃ r, hasV (kindN (s.data.toList.map Txt.lower)) args st = r := ⟨_, rfl⟩
  have hRN := fun W => rnew_is s d st W hs E (Lib.hid hE)
  have hH := fun W (h : Below w.heap.size w W) => has_at s args st W hs (Utf8Tabs_below hT h) r (Lib.hid hr)
  have hRH := fun W => rhas_is s args st W hs r (Lib.hid hr)
  have hhd := fun W (h : Below w.heap.size w W) => head19_is W (Utf8Tabs_below hT h)
  unfold NewP at hN
  rw [hE] at hN
  have hE2 : E = 0 ∨ E = 4 := by
    rw [← hE]
    unfold newE
    split
    · exact .inr rfl
    · split
      · exact .inr rfl
      · exact .inl rfl
  clear hE hr hT
  have hrr : (r == r) = true := by simp
  rcases hE2 with rfl | rfl
  · go_enter Tryz.func5, Tryz.ntmps5
    go_wp2_with (first
      | (go_at_call 18; refine hN.mono ?_; rintro e w1 ⟨sp, rfl, hb1, _, hy⟩; obtain ⟨s1, rfl, _⟩ := hy rfl)
      | (go_at_call 19; refine (hRN _).mono ?_; rintro e w2 ⟨rfl, hb2⟩; have hb12 := stepB hb1 hb2)
      | (go_at_call 17; refine (hhd _ hb12).mono ?_; rintro e w3 ⟨rfl, hb3⟩; have hb13 := stepB hb12 hb3)
      | (go_at_call 20; refine (hH _ hb13).mono ?_; rintro e w4 ⟨rfl, hb4⟩; have hb14 := stepB hb13 hb4)
      | (go_at_call 21; refine (hRH _).mono ?_; rintro e w5 ⟨rfl, hb5⟩; have hb15 := stepB hb14 hb5))
    go_ret
    exact ⟨rfl, hb15⟩
  · go_enter Tryz.func5, Tryz.ntmps5
    go_wp2_with (first
      | (go_at_call 18; refine hN.mono ?_; rintro e w1 ⟨sp, rfl, hb1, hno, _⟩; obtain rfl : sp = none := hno (by decide))
      | (go_at_call 19; refine (hRN _).mono ?_; rintro e w2 ⟨rfl, hb2⟩; have hb12 := stepB hb1 hb2)
      | (go_at_call 17; refine (hhd _ hb12).mono ?_; rintro e w3 ⟨rfl, hb3⟩; have hb13 := stepB hb12 hb3)
      | (go_at_call 20; refine (hH _ hb13).mono ?_; rintro e w4 ⟨rfl, hb4⟩; have hb14 := stepB hb13 hb4)
      | (go_at_call 21; refine (hRH _).mono ?_; rintro e w5 ⟨rfl, hb5⟩; have hb15 := stepB hb14 hb5))
    go_ret
    exact ⟨rfl, hb15⟩
end Go.Proofs.YtdapnemcdgjeeaaGreatDoor
