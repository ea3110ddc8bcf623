/- What the listed variables of a row of layer 20 give. -/
import Derived.Test.YtdapnemcdgjeeaaGreatDoorOpenVal
import Derived.Test.YtdapnemcdgjeeaaGreatDoorMkA
import Derived.Test.YtdapnemcdgjeeaaGreatDoorRows
import Derived.PinnedBridge
import Derived.Lib.LaidU8T
set_option maxRecDepth 100000
set_option linter.unusedVariables false
set_option linter.unusedSimpArgs false
namespace Go.Proofs.YtdapnemcdgjeeaaGreatDoor
open Go.ChangeShapes Go.WideShapes Go.ChangeAt Go.RowKit Go.Deep

theorem pow_laid {W : World} {laid : List (String × DataW Unit)} (h : laidMet Tryz.prog laid W) (h1 : ("internal/strconv.uint64pow10", Rows.laid_internal_strconv_uint64pow10) ∈ laid) : Lib.TabIs Tryz.prog W "internal/strconv.uint64pow10" .u64 Lib.pow10Tab := by
  obtain ⟨g, t, cs, fuel, p, hg, ht, hv, hd⟩ := Lib.laidMet.reads h h1
  obtain rfl := Option.some.inj ((show Tryz.prog.globalNamed "internal/strconv.uint64pow10" = some 3 by kernel_rfl).symm.trans hg)
  obtain rfl := Option.some.inj ((show (Tryz.prog.globals[3]?).map (·.type) = some 233 by kernel_rfl).symm.trans ht)
  have e : Rows.laid_internal_strconv_uint64pow10 = (Lib.tabData .u64 Lib.pow10Tab : DataW Unit) := by kernel_rfl
  rw [e] at hd
  have := Lib.cells_of_tab Tryz.underlying233 Tryz.underlying128 (by kernel_rfl) (by kernel_rfl) hd
  unfold Lib.TabIs
  rw [hv, ← this]
theorem tabs_laid {W : World} {laid : List (String × DataW Unit)} (h : laidMet Tryz.prog laid W) (h0 : ("internal/strconv.uint64pow10", Rows.laid_internal_strconv_uint64pow10) ∈ laid) (h1 : ("unicode/utf8.acceptRanges", Rows.laid_unicode_utf8_acceptRanges) ∈ laid) (h2 : ("unicode/utf8.first", Rows.laid_unicode_utf8_first) ∈ laid)
    (h3 : ("strconv.isPrint16", Rows.laid_strconv_isPrint16) ∈ laid) (h4 : ("strconv.isNotPrint16", Rows.laid_strconv_isNotPrint16) ∈ laid) (h5 : ("strconv.isPrint32", Rows.laid_strconv_isPrint32) ∈ laid) (h6 : ("strconv.isNotPrint32", Rows.laid_strconv_isNotPrint32) ∈ laid) : Tabs Lib.goPrintTabs W := by
  have r1 := Lib.laidMet.reads h h1
  have r2 := Lib.laidMet.reads h h2
  have r3 := Lib.laidMet.reads h h3
  have r4 := Lib.laidMet.reads h h4
  have r5 := Lib.laidMet.reads h h5
  have r6 := Lib.laidMet.reads h h6
  have e1 : Rows.laid_unicode_utf8_acceptRanges = Lib.acceptData := by kernel_rfl
  have e2 : Rows.laid_unicode_utf8_first = Lib.firstData := (show Rows.laid_unicode_utf8_first = Go.Pinned.utf8First by kernel_rfl).trans Go.Pinned.utf8First_eq
  have e3 : Rows.laid_strconv_isPrint16 = Lib.sliceData .u16 Lib.goPrintTabs.p16 := (show Rows.laid_strconv_isPrint16 = Go.Pinned.isPrint16 by kernel_rfl).trans Go.Pinned.isPrint16_eq
  have e4 : Rows.laid_strconv_isNotPrint16 = Lib.sliceData .u16 Lib.goPrintTabs.n16 := (show Rows.laid_strconv_isNotPrint16 = Go.Pinned.isNotPrint16 by kernel_rfl).trans Go.Pinned.isNotPrint16_eq
  have e5 : Rows.laid_strconv_isPrint32 = Lib.sliceData .u32 Lib.goPrintTabs.p32 := (show Rows.laid_strconv_isPrint32 = Go.Pinned.isPrint32 by kernel_rfl).trans Go.Pinned.isPrint32_eq
  have e6 : Rows.laid_strconv_isNotPrint32 = Lib.sliceData .u16 Lib.goPrintTabs.n32 := (show Rows.laid_strconv_isNotPrint32 = Go.Pinned.isNotPrint32 by kernel_rfl).trans Go.Pinned.isNotPrint32_eq
  rw [e1] at r1
  rw [e2] at r2
  rw [e3] at r3
  rw [e4] at r4
  rw [e5] at r5
  rw [e6] at r6
  exact ⟨pow_laid h h0,
    printTabs_of_reads (ρ := Tryz.lays339_ren) Tryz.lays339 ⟨by kernel_rfl, by kernel_rfl, by kernel_rfl, by kernel_rfl, by kernel_rfl, by kernel_rfl, by kernel_rfl, by kernel_rfl, by kernel_rfl, by kernel_rfl⟩ r3 r4 r5 r6,
    utf8Tabs_of_reads (ρ := Tryz.lays260_ren) Tryz.lays260 ⟨by kernel_rfl, by kernel_rfl, by kernel_rfl, by kernel_rfl, by kernel_rfl, by kernel_rfl, by kernel_rfl⟩ r2 r1⟩
end Go.Proofs.YtdapnemcdgjeeaaGreatDoor
