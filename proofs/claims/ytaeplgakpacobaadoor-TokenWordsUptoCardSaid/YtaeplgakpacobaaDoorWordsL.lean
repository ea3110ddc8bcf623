/- The law TokenWords: the program's answers and the reference's are the same. -/
import Derived.Test.YtaeplgakpacobaaDoorWordsW
import Derived.Test.YtaeplgakpacobaaDoorWordsR
set_option maxRecDepth 100000
set_option linter.unusedVariables false
set_option linter.unusedSimpArgs false
namespace Go.Proofs.YtaeplgakpacobaaDoor
open Go.RowKit Go.Lib

set_option maxHeartbeats 1000000 in
theorem token_words (s : ByteArray) (w : World) (hU : Upper w) (hs : s.size ≤ 1048576) :
    Calls Tryd.prog 4 #[.string s] w fun e w' => e = .returned (.bool true) ∧ Below w.heap.size w w' := by
  have k1 := fun W (h : Upper W) => keyword_any s W h hs
  have k2 := fun W => rkeyword_any s W hs
  have k3 := fun W (h : Upper W) => name_any s W h hs
  have k4 := fun W => rname_any s W hs
  obtain ⟨kt, hkt⟩ : ∃ kt, bs (Tok.kwText s.data.toList) = kt := ⟨_, rfl⟩
  obtain ⟨a, ha⟩ : ∃ a, Tok.isKw s.data.toList = a := ⟨_, rfl⟩
  obtain ⟨b, hb⟩ : ∃ b, Tok.name s.data.toList = b := ⟨_, rfl⟩
  rw [hkt, ha] at k1 k2
  rw [hb] at k3 k4
  clear hkt ha hb
  go_enter Tryd.func4, Tryd.ntmps4
  go_wp2_with (first
    | (go_at_call 11; refine (k1 _ hU).mono ?_; rintro e w1 ⟨rfl, hb1⟩)
    | (go_at_call 12; refine (k2 _).mono ?_; rintro e w2 ⟨rfl, hb2⟩)
    | (go_at_call 8; refine (head_any _).mono ?_; rintro e w3 ⟨rfl, hb3⟩; have hB3 := (hb1.trans (hb2.mono hb1.size)).trans (hb3.mono (Nat.le_trans hb1.size hb2.size)))
    | (go_at_call 13; refine (k3 _ (hU.below hB3)).mono ?_; rintro e w4 ⟨rfl, hb4⟩)
    | (go_at_call 14; refine (k4 _).mono ?_; rintro e w5 ⟨rfl, hb5⟩))
  go_ret
  exact ⟨by simp, (hB3.trans (hb4.mono hB3.size)).trans (hb5.mono (Nat.le_trans hB3.size hb4.size))⟩

end Go.Proofs.YtaeplgakpacobaaDoor
