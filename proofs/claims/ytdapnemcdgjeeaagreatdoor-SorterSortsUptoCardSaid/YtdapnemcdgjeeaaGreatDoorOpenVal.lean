/- A value that came in as an argument; what the listed variables give. -/
import Derived.Test.YtdapnemcdgjeeaaGreatDoorBelow
import Derived.Test.YtdapnemcdgjeeaaGreatDoorLits
import Derived.Deep.Slices
import Derived.Deep.Strs
import Derived.LaidMore
import Derived.Lib.LaidTab
import Derived.Clock
set_option maxRecDepth 100000
set_option linter.unusedVariables false
set_option linter.unusedSimpArgs false
namespace Go.Proofs.YtdapnemcdgjeeaaGreatDoor
open Go.ChangeShapes Go.WideShapes Go.ChangeAt Go.RowKit Go.Deep

theorem vbulk_one {H : Type} (d : DataW H) : 1 ≤ Rows.uptoBulk d := by
  cases d with
  | lit l => cases l <;> simp [Rows.uptoBulk]
  | nil => simp [Rows.uptoBulk]
  | ptr d => simp [Rows.uptoBulk]
  | slice elems spare => simp [Rows.uptoBulk]
  | agg parts => simp [Rows.uptoBulk]
  | iface t d => simp [Rows.uptoBulk]
  | map entries => simp [Rows.uptoBulk]
  | held h => simp [Rows.uptoBulk]

theorem valCells : Tryz.prog.cellsOf 33 = 3 := by kernel_rfl
theorem kindCells2 : Tryz.prog.cellsOf 31 = 1 := by kernel_rfl
theorem int64Cells : Tryz.prog.cellsOf 2 = 1 := by kernel_rfl
theorem strCells2 : Tryz.prog.cellsOf 9 = 1 := by kernel_rfl
theorem three2 {α : Type} {l : List α} (h : l.length = 3) : ∃ x y z, l = [x, y, z] := by
  match l, h with
  | [x, y, z], _ => exact ⟨x, y, z, rfl⟩

/-- what is read of one value -/
def ValD {H : Type} (k n : Int) (t : ByteArray) (d : DataW H) : Prop := d = .agg [.lit (.int .i64 k), .lit (.int .i64 n), .lit (.string t.data.toList)] ∧ -9223372036854775808 ≤ n ∧ n ≤ 9223372036854775807

set_option maxRecDepth 100000 in
theorem open_cells {H : Type} {enc : TypeId × Value → H} {W : World} {base n' : Nat} {sp : Nat → Bool} {hd : Bool} {cs : List Value} {x : DataW H × List MemPlace} (h : DataW.trod enc Tryz.prog W base sp hd n' 33 cs = some x) :
    ∃ k n t, cs = [.int .i64 k, .int .i64 n, .string t] ∧ ValD k n t x.1 := by
  obtain ⟨y0, y1, y2, m, hx, hlen, g0, g1, g2⟩ := trod_struct3 Tryz.underlying33 h
  rw [valCells] at hlen
  obtain ⟨v0, v1, v2, rfl⟩ := three2 hlen
  simp only [kindCells2, int64Cells, strCells2, List.drop, List.take] at g0 g1 g2
  obtain ⟨z0, i0, j0, _⟩ := DataW.trod_int Tryz.underlying31 g0
  obtain ⟨z1, i1, j1, w1⟩ := DataW.trod_int Tryz.underlying2 g1
  obtain ⟨z2, i2, j2, _⟩ := DataW.trod_string Tryz.underlying9 g2
  simp only [List.cons.injEq, and_true] at i0 i1 i2
  subst i0 i1 i2
  subst j0 j1 j2
  have hw : -9223372036854775808 ≤ z1 ∧ z1 ≤ 9223372036854775807 := by simpa [Lit.wf, IntKind.min, IntKind.max, IntKind.signed, IntKind.bits] using w1
  exact ⟨z0, z1, z2, rfl, by rw [hx], hw.1, hw.2⟩

set_option maxRecDepth 100000 in
theorem open_val {H : Type} {enc : TypeId × Value → H} {W : World} {r : Reach} {b0 : Nat} {v : Value} {d : DataW H} {ps : List MemPlace} (hval : Value.okWide Tryz.prog W r b0 33 v) (hd : DataW.Trod enc Tryz.prog W 0 (fun _ => true) true 33 v d ps) :
    ∃ k n t, v = .agg #[.int .i64 k, .int .i64 n, .string t] ∧ ValD k n t d := by
  obtain ⟨cs, rfl, _⟩ := okWide_struct Tryz.underlying33 hval
  obtain ⟨m, hm⟩ := hd
  obtain ⟨k, n, t, hc, h⟩ := open_cells hm
  have hcs : cs.toList = [.int .i64 k, .int .i64 n, .string t] := hc
  have : cs = #[.int .i64 k, .int .i64 n, .string t] := by rw [← Array.toList_inj, hcs]
  exact ⟨k, n, t, by rw [this], h⟩

theorem val_bulk {H : Type} {k n : Int} {t : ByteArray} {d : DataW H} (h : ValD k n t d) : Rows.uptoBulk d = t.size + 4 := by
  have e : t.data.toList.length = t.size := rfl
  rw [h.1]
  simp only [Rows.uptoBulk, Rows.uptoBulkAll]
  omega

end Go.Proofs.YtdapnemcdgjeeaaGreatDoor
