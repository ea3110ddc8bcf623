/- Walks: head of the statements of layer 15. -/
import Derived.Test.YtaeplgakpacobaaDoorTokW8
set_option maxRecDepth 100000
set_option linter.unusedVariables false
set_option linter.unusedSimpArgs false
namespace Go.Proofs.YtaeplgakpacobaaDoor
open Go.RowKit

theorem scan_head1 : Tok.scan [97, 60, 61, 49, 45, 45, 120] = ([⟨1, 0, [97]⟩, ⟨6, 1, [60, 61]⟩, ⟨2, 3, [49]⟩], 0, 0) := by decide +kernel
theorem scan_head2 : Tok.scan [97, 32, 35] = ([], 2, 250) := by decide +kernel

theorem scan1 (w : World) : Calls Tryd.prog 7 #[.string ⟨#[97, 60, 61, 49, 45, 45, 120]⟩] w fun e w' => ∃ g cap, e = .returned (.tuple #[.slice (some ⟨g, 0, none⟩) 3 cap, .int .i64 0, .int .i64 0]) ∧
    (w'.cell? ⟨g, 3, none⟩ = some (.int .i64 6) ∧ w'.cell? ⟨g, 4, none⟩ = some (.int .i64 1) ∧ w'.cell? ⟨g, 5, none⟩ = some (.string ⟨#[60, 61]⟩)) ∧ g < w'.heap.size ∧ Below w.heap.size w w' := by
  refine (scan_any _ w (by decide)).mono ?_
  rintro e w' ⟨v, rfl, hown, hb⟩
  have hsc : Tok.scan (ByteArray.mk #[97, 60, 61, 49, 45, 45, 120]).data.toList = ([⟨1, 0, [97]⟩, ⟨6, 1, [60, 61]⟩, ⟨2, 3, [49]⟩], 0, 0) := scan_head1
  rw [hsc] at hown ⊢
  obtain ⟨g, cap, rfl, _, hlt⟩ := hown.form (by decide)
  refine ⟨g, cap, rfl, ⟨?_, ?_, ?_⟩, hlt, hb⟩
  · exact (hown.cellAt 3 (by decide)).trans rfl
  · exact (hown.cellAt 4 (by decide)).trans rfl
  · exact (hown.cellAt 5 (by decide)).trans rfl

theorem scan2 (w : World) : Calls Tryd.prog 7 #[.string ⟨#[97, 32, 35]⟩] w fun e w' => ∃ v, e = .returned (.tuple #[v, .int .i64 2, .int .i64 250]) ∧ Below w.heap.size w w' := by
  refine (scan_any _ w (by decide)).mono ?_
  rintro e w' ⟨v, rfl, hown, hb⟩
  have hsc : Tok.scan (ByteArray.mk #[97, 32, 35]).data.toList = ([], 2, 250) := scan_head2
  rw [hsc]
  exact ⟨v, rfl, hb⟩

theorem head_any (w : World) : Calls Tryd.prog 8 #[] w fun e w' => e = .returned (.bool true) ∧ Below w.heap.size w w' := by
  go_enter Tryd.func8, Tryd.ntmps8
  go_wp2_with fail
  refine (scan1 w).mono ?_
  rintro e w1 ⟨g, cap, rfl, ⟨c3, c4, c5⟩, hlt, hb⟩
  go_wp2_with fail
  refine (scan2 w1).mono ?_
  rintro e w2 ⟨v, rfl, hb2⟩
  have d3 := (hb2.cell (p := ⟨g, 3, none⟩) hlt).trans c3
  have d4 := (hb2.cell (p := ⟨g, 4, none⟩) hlt).trans c4
  have d5 := (hb2.cell (p := ⟨g, 5, none⟩) hlt).trans c5
  have hbb := hb.trans (hb2.mono hb.size)
  go_wp2
  go_ret
  exact ⟨rfl, hbb⟩

end Go.Proofs.YtaeplgakpacobaaDoor
