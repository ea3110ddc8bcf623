/- What the listed variables of a row of layer 2 give. -/
import Derived.Test.YtmkgalcojoeniaaGreatDoorOpenVal
import Derived.Test.YtmkgalcojoeniaaGreatDoorRows
import Derived.Lib.LaidU8
set_option maxRecDepth 100000
set_option linter.unusedVariables false
set_option linter.unusedSimpArgs false
namespace Go.Proofs.YtmkgalcojoeniaaGreatDoor
open Go.ChangeShapes Go.WideShapes Go.ChangeAt Go.RowKit Go.Deep

theorem iface_of_trod {H : Type} {enc : TypeId × Value → H} {P : Program} {w : World} {base : Nat} {sp : Nat → Bool} {held : Bool} {fuel : Nat} {t : TypeId} {ms : Array (String × TypeId)} {cs : List Value} {nm : String} {d : DataW H} {p : List MemPlace}
    (ht : P.underlying t = some (.interface ms)) (h : DataW.trod enc P w base sp held fuel t cs = some (.iface nm d, p)) : ∃ u v, cs = [.iface u v] := by
  cases fuel with
  | zero => simp [DataW.trod] at h
  | succ n =>
    rw [DataW.trod_step] at h
    unfold DataW.trodStep at h
    split at h
    all_goals first
      | exact ⟨_, _, rfl⟩
      | (exfalso; simp_all)

theorem tab_laid {W : World} {laid : List (String × DataW Unit)} (h : laidMet Tryz.prog laid W) (h1 : ("internal/strconv.uint64pow10", Rows.laid_internal_strconv_uint64pow10) ∈ laid) : Lib.TabIs Tryz.prog W "internal/strconv.uint64pow10" .u64 Lib.pow10Tab := by
  obtain ⟨g, t, cs, fuel, p, hg, ht, hv, hd⟩ := Lib.laidMet.reads h h1
  obtain rfl := Option.some.inj ((show Tryz.prog.globalNamed "internal/strconv.uint64pow10" = some 3 by kernel_rfl).symm.trans hg)
  obtain rfl := Option.some.inj ((show (Tryz.prog.globals[3]?).map (·.type) = some 191 by kernel_rfl).symm.trans ht)
  have e : Rows.laid_internal_strconv_uint64pow10 = (Lib.tabData .u64 Lib.pow10Tab : DataW Unit) := by kernel_rfl
  rw [e] at hd
  have := Lib.cells_of_tab Tryz.underlying191 Tryz.underlying161 (by kernel_rfl) (by kernel_rfl) hd
  unfold Lib.TabIs
  rw [hv, ← this]
theorem err_laid {W : World} {laid : List (String × DataW Unit)} {n nm : String} {d : DataW Unit} {g : Nat} (h : laidMet Tryz.prog laid W) (h1 : (n, DataW.iface nm d) ∈ laid) (hn : Tryz.prog.globalNamed n = some g) (hT : (Tryz.prog.globals[g]?).map (·.type) = some 106) : ∃ tp p, W.var? Tryz.prog n = some #[.iface tp p] := by
  obtain ⟨g', t, cs, fuel, p, hg, ht, hv, hd⟩ := Lib.laidMet.reads h h1
  obtain rfl := Option.some.inj (hn.symm.trans hg)
  obtain rfl := Option.some.inj (hT.symm.trans ht)
  obtain ⟨u, v, hc⟩ := iface_of_trod Tryz.underlying106 hd
  have : cs = #[.iface u v] := by rw [← Array.toList_inj, hc]
  exact ⟨u, v, by rw [hv, this]⟩
theorem lits_laid {W : World} {laid : List (String × DataW Unit)} (hsh : W.ShapedOpen Tryz.prog) (h : laidMet Tryz.prog laid W) (h1 : ("internal/strconv.uint64pow10", Rows.laid_internal_strconv_uint64pow10) ∈ laid) (h2 : ("strconv.ErrSyntax", Rows.laid_strconv_ErrSyntax) ∈ laid) (h3 : ("strconv.ErrRange", Rows.laid_strconv_ErrRange) ∈ laid) : Lits W :=
  ⟨maxL_shaped hsh, tab_laid h h1, err_laid h h2 (g := 1) (by kernel_rfl) (by kernel_rfl), err_laid h h3 (g := 2) (by kernel_rfl) (by kernel_rfl)⟩

end Go.Proofs.YtmkgalcojoeniaaGreatDoor
