/- A slice of numbers that came in. -/
import Derived.Test.YtiiaamkmnbegdaaGreatDoorOpenVals
import Derived.Test.YtiiaamkmnbegdaaGreatDoorRowsW3
import Derived.ChangeSlices
namespace Go.Proofs.YtiiaamkmnbegdaaGreatDoor
set_option maxRecDepth 100000
set_option linter.unusedVariables false
set_option linter.unusedSimpArgs false
open Go.ChangeShapes Go.WideShapes Go.ChangeAt Go.RowKit Go.Deep

theorem intCellsC : Tryz.prog.cellsOf 3 = 1 := by kernel_rfl

theorem open_colls {H : Type} {enc : TypeId × Value → H} {W : World} {q : Option Addr} {N c : Nat} {d : DataW H} {ps : List MemPlace} (hd : DataW.Trod enc Tryz.prog W 0 (fun _ => true) true 23 (.slice q N c) d ps) (hb : Rows.uptoBulk d ≤ 1048576) :
    ∃ cs, CollsAt W q N cs ∧ N ≤ 1048576 := by
  obtain ⟨n, hn⟩ := hd
  rcases open_ints Tryz.underlying23 Tryz.underlying3 intCellsC hn with ⟨hc, _⟩ | ⟨a, len, cap, zs, hc, _, hl, hm, hlen, hx, hcell, _⟩
  · simp [Value.cells] at hc
    obtain ⟨rfl, rfl, rfl⟩ := hc
    exact ⟨[], ⟨rfl, .inl rfl⟩, by omega⟩
  · simp [Value.cells] at hc
    obtain ⟨rfl, rfl, rfl⟩ := hc
    simp only [if_true] at hlen
    have htl : (zs.take N).length = N := by rw [List.length_take]; omega
    have hN : N ≤ 1048576 := by
      have hxd := (Prod.mk.inj hx).1
      rw [hxd] at hb
      simp only [Rows.uptoBulk] at hb
      have h1 := bulk_lenV (Go.ChangeShapes.lits (H := H) .i64 (zs.take N))
      have h2 : (Go.ChangeShapes.lits (H := H) .i64 (zs.take N)).length = N := by simp [Go.ChangeShapes.lits]; omega
      omega
    refine ⟨zs.take N, ⟨htl, ?_⟩, hN⟩
    by_cases h0 : N = 0
    · left; subst h0; rfl
    · right
      obtain ⟨b, off, spot⟩ := a
      have hz0 := hcell 0 (by omega)
      have hspot : spot = none := by simpa [Addr.add] using World.cell?_spot hz0
      subst hspot
      refine ⟨b, off, rfl, by have := cell_ltV hz0; simpa [Addr.add_lit] using this, fun k g hk => ?_⟩
      have hkl : k < N := by
        have := (List.getElem?_eq_some_iff.1 hk).1
        omega
      have hck := hcell k (by omega)
      rw [Addr.add_lit] at hck
      rw [List.getElem?_take, if_pos hkl] at hk
      rw [hck]
      simp [List.getD, hk]

end Go.Proofs.YtiiaamkmnbegdaaGreatDoor
