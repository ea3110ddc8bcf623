/- What the walks of package value ask of the package-level variables. -/
import Derived.Test.YtdapnemcdgjeeaaGreatDoorLib
import Derived.Lib.LaidTab
import Derived.Lib.AppendIntMem
import Derived.Lib.Itoa
import Derived.Lib.AtoiErrMem
import Derived.Shelf.Vars
set_option maxRecDepth 100000
set_option linter.unusedVariables false
set_option linter.unusedSimpArgs false
namespace Go.Proofs.YtdapnemcdgjeeaaGreatDoor
open Go.RowKit

theorem maxL_shaped {w : World} (h : w.ShapedOpen Tryz.prog) : MaxL w := by
  obtain ⟨m, hm⟩ := Go.Proofs.cell_of_shapedOpen_int (zero := #[.int .i64 0]) (t := 3) (g := 0) h (of_decide_eq_true (by kernel_rfl)) (by kernel_rfl) rfl (by kernel_rfl) (by kernel_rfl) Tryz.underlying3
  refine ⟨m, hm, ?_⟩
  rcases Nat.lt_or_ge 0 w.heap.size with h' | h'
  · exact h'
  · simp [World.cell?, Array.getElem?_eq_none h'] at hm

theorem var_below {P : Program} {w w' : World} {n : String} {cs : Array Value} (h : w.var? P n = some cs) (hb : Below w.heap.size w w') : w'.var? P n = some cs := by
  unfold World.var? at h ⊢
  cases hg : P.globalNamed n with
  | none => rw [hg] at h; cases h
  | some g =>
    rw [hg] at h
    simp only [Option.bind_some] at h ⊢
    have hl : g < w.heap.size := by
      cases hh : w.heap[g]? with
      | none => rw [hh] at h; cases h
      | some o => exact (Array.getElem?_eq_some_iff.1 hh).1
    rw [hb.block g hl]; exact h

/-- the library's variables hold what the program's text lays -/
structure Lits (w : World) : Prop where
  maxl : MaxL w
  tab : Lib.TabIs Tryz.prog w "internal/strconv.uint64pow10" .u64 Lib.pow10Tab
  syn : ∃ tp p, w.var? Tryz.prog "strconv.ErrSyntax" = some #[.iface tp p]
  rng : ∃ tp p, w.var? Tryz.prog "strconv.ErrRange" = some #[.iface tp p]
theorem Lits.below {w w' : World} (h : Lits w) (hb : Below w.heap.size w w') : Lits w' := by
  obtain ⟨h1, h2, ⟨t3, p3, h3⟩, ⟨t4, p4, h4⟩⟩ := h
  exact ⟨h1.below hb, var_below h2 hb, ⟨t3, p3, var_below h3 hb⟩, ⟨t4, p4, var_below h4 hb⟩⟩
theorem Lits.alloc {w : World} (h : Lits w) (o : Obj) : Lits (w.alloc o) := h.below ((Below.refl _ w).alloc (Nat.le_refl _) o)

theorem format_any (n : Int) (w : World) (h0 : -9223372036854775808 ≤ n) (h1 : n ≤ 9223372036854775807) (hL : Lits w) :
    Calls Tryz.prog 135 #[.int .i64 n, .int .i64 10] w fun e w' => e = .returned (.string (bs (Lib.itoa n))) ∧ Below w.heap.size w w' :=
  (Tryz.strconv_FormatInt_10 n h0 h1 w hL.tab).mono fun _ _ ⟨h, k, os, hw⟩ => ⟨h, by rw [hw]; exact Lib.below_grow _ _ (Nat.le_refl _) k os⟩

/-- what ParseInt answers, as far as its callers look -/
theorem parse_any (s : ByteArray) (w : World) (hs : s.size ≤ 1048576) (hL : Lits w) :
    Calls Tryz.prog 218 #[.string s, .int .i64 10, .int .i64 64] w fun e w' => Below w.heap.size w w' ∧
      ((∃ n, Lib.parseIntB 64 s.data.toList = .ok n ∧ e = .returned (.tuple #[.int .i64 n, .nilIface])) ∨
       ((∀ n, Lib.parseIntB 64 s.data.toList ≠ .ok n) ∧ ∃ n T v, e = .returned (.tuple #[.int .i64 n, .iface T v]))) := by
  cases hp : Lib.parseIntB 64 s.data.toList
  case ok n =>
    refine (Tryz.strconv_ParseInt_10_at64_ok s (by omega) n hp w).mono fun e w' ⟨he, hw⟩ => ⟨?_, .inl ⟨n, rfl, he⟩⟩
    rcases hw with rfl | ⟨t, rfl⟩
    · exact Below.refl _ _
    · exact Lib.bytesWorld_below w _ t
  all_goals first
    | (obtain ⟨tp, p, hv⟩ := hL.syn
       exact (Any.strconv_ParseInt_10_at64_syntax_var Tryz.laysC174 s (by omega) hp tp p w hv).mono fun e w' ⟨N, he, _, _, hb⟩ => ⟨hb, .inr ⟨(fun n h => by cases h), _, _, _, he⟩⟩)
    | (obtain ⟨tp, p, hv⟩ := hL.rng
       exact (Any.strconv_ParseInt_10_at64_range_var Tryz.laysC174 s (by omega) hp tp p w hv).mono fun e w' ⟨N, he, _, _, hb⟩ => ⟨hb, .inr ⟨(fun n h => by cases h), _, _, _, he⟩⟩)

end Go.Proofs.YtdapnemcdgjeeaaGreatDoor
