/- Walks: comparisons. -/
import Derived.Test.YthdpgekjbkpomaaGreatDoorCalcB3
import Derived.Test.YthdpgekjbkpomaaGreatDoorPlain
import Derived.Test.YthdpgekjbkpomaaGreatDoorCalcT3
set_option maxRecDepth 100000
set_option linter.unusedVariables false
set_option linter.unusedSimpArgs false
namespace Go.Proofs.YthdpgekjbkpomaaGreatDoor
open Go.RowKit

/-- a comparison, and the collation that it goes by, in cells -/
def CmpdP (fid : Nat) (c : Int) (w : World) (e : Ending) (w' : World) : Prop := ∃ g1 g2, e = .returned (.func (Fn.func 122) #[] #[.pointer (some ⟨g1, 0, none⟩), .pointer (some ⟨g2, 0, none⟩)]) ∧ w'.cell? ⟨g1, 0, none⟩ = some (.func (Fn.func fid) #[] #[]) ∧ w'.cell? ⟨g2, 0, none⟩ = some (.int .i64 c) ∧ g1 < w'.heap.size ∧ g2 < w'.heap.size ∧ Below w.heap.size w w'
theorem compared_any (fid : Nat) (c : Int) (w : World) : Calls Tryz.prog 86 #[.int .i64 c, .func (Fn.func fid) #[] #[]] w (CmpdP fid c w) := by
  go_enter Tryz.func86, Tryz.ntmps86
  go_wp2
  go_ret
  obtain ⟨h1, h2⟩ := heap_two w (.cells #[.int .i64 c] 39) (.cells #[.func (Fn.func fid) #[] #[]] 96)
  exact ⟨w.heap.size + 1, w.heap.size, rfl, cell_of_row _ _ 0 _ 96 _ h2, cell_of_row _ _ 0 _ 39 _ h1, by simp, by simp; omega, ((Below.refl _ _).alloc (Nat.le_refl _) _).alloc (by simp) _⟩
set_option maxHeartbeats 4000000 in
theorem compared_null2 (fid : Nat) (eg : ∀ args w, (callFunc fid args).run Tryz.prog w = .ok (.enter fid args) w) (ka na : Int) (ta : ByteArray) (kb nb : Int) (tb : ByteArray) (c : Int) (g1 g2 : Nat) (w : World) (hg1 : w.cell? ⟨g1, 0, none⟩ = some (.func (Fn.func fid) #[] #[])) (hg2 : w.cell? ⟨g2, 0, none⟩ = some (.int .i64 c)) (l1 : g1 < w.heap.size) (l2 : g2 < w.heap.size) (hsa : ta.size ≤ 1048576) (hsb : tb.size ≤ 1048576) (r : Int) (hr : Hid (Val.cmp ⟨ka, na, ta.data.toList⟩ ⟨kb, nb, tb.data.toList⟩ c = r)) (b : Bool) (hp : ∀ w', Calls Tryz.prog fid #[.int .i64 r] w' fun e w'' => e = .returned (.bool b) ∧ w' = w'') (hk : ka ≠ 0) (hk2 : kb = 0) :
    Calls Tryz.prog 122 #[.agg #[.int .i64 ka, .int .i64 na, .string ta], .agg #[.int .i64 kb, .int .i64 nb, .string tb], .pointer (some ⟨g1, 0, none⟩), .pointer (some ⟨g2, 0, none⟩)] w (VRet 0 0 ⟨#[]⟩ w) := by
  have hS0 := ofS2 (start3 w (.int .i64 ka) (.int .i64 na) (.string ta) (.int .i64 kb) (.int .i64 nb) (.string tb) (.int .i64 0) (.int .i64 0) (.string ⟨#[]⟩) 24 24 24)
  have hS := And.intro hS0 (And.intro (((belowP2 hS0).cell (p := ⟨g1, 0, none⟩) l1).trans hg1) (((belowP2 hS0).cell (p := ⟨g2, 0, none⟩) l2).trans hg2))
  clear hS0
  have q1 : (ka != 0) = true := by simp [hk]
  have q2 : (kb != 0) = false := by simp [hk2]
  clear hk hk2
  go_enter Tryz.func122, Tryz.ntmps122
  go_wp2_with fail
  go_region_held3 (fun W => (W.cell? ⟨w.heap.size, 0, none⟩ = some (.int .i64 ka) ∧ W.cell? ⟨w.heap.size, 1, none⟩ = some (.int .i64 na) ∧ W.cell? ⟨w.heap.size, 2, none⟩ = some (.string ta) ∧ W.frozen? ⟨w.heap.size, 0, none⟩ = false ∧ W.frozen? ⟨w.heap.size, 1, none⟩ = false ∧ W.frozen? ⟨w.heap.size, 2, none⟩ = false ∧ W.cell? ⟨w.heap.size + 1, 0, none⟩ = some (.int .i64 kb) ∧ W.cell? ⟨w.heap.size + 1, 1, none⟩ = some (.int .i64 nb) ∧ W.cell? ⟨w.heap.size + 1, 2, none⟩ = some (.string tb) ∧ W.frozen? ⟨w.heap.size + 1, 0, none⟩ = false ∧ W.frozen? ⟨w.heap.size + 1, 1, none⟩ = false ∧ W.frozen? ⟨w.heap.size + 1, 2, none⟩ = false ∧ W.cell? ⟨w.heap.size + 1 + 1, 0, none⟩ = some (peek W (w.heap.size + 1 + 1) 0) ∧ W.cell? ⟨w.heap.size + 1 + 1, 1, none⟩ = some (peek W (w.heap.size + 1 + 1) 1) ∧ W.cell? ⟨w.heap.size + 1 + 1, 2, none⟩ = some (peek W (w.heap.size + 1 + 1) 2) ∧ W.frozen? ⟨w.heap.size + 1 + 1, 0, none⟩ = false ∧ W.frozen? ⟨w.heap.size + 1 + 1, 1, none⟩ = false ∧ W.frozen? ⟨w.heap.size + 1 + 1, 2, none⟩ = false ∧ w.heap.size + 1 + 1 < W.heap.size ∧ Below w.heap.size w W) ∧ W.cell? ⟨g1, 0, none⟩ = some (.func (Fn.func fid) #[] #[]) ∧ W.cell? ⟨g2, 0, none⟩ = some (.int .i64 c)) (first | assumption | exact keepPc2 (by assumption) (by assumption) l1 l2 | exact keepPcd2 (by assumption) | exact putPc2 (by assumption) l1 l2) (first
    | (go_at_call 62; refine (vcmp_is _ _ _ _ _ _ _ _ hsa hsb _ hr).mono ?_; rintro e w1 ⟨rfl, hb1⟩)
    | (go_at_call 54; refine (cthree_no _ _).mono ?_; rintro e w2 ⟨rfl, hb2⟩; have hP2 := keepP2 (w := w) (And.left (by assumption)) hb2)
    | (refine (hp _).mono ?_; rintro e w4 ⟨rfl, rfl⟩))
  all_goals (
    rename_i hh
    have hB := belowP2 hh.1
    clear hh
    obtain ⟨cb0, cb1, cb2, cb3, cb4, cb5, cb6, cb7, cb8, cb9, cb10, cb11, cb12, cb13, cb14, cb15, cb16, cb17, hz2, hB2⟩ := hP2
    go_wp2
    exact bodyPost_ret (v := .agg #[.int .i64 0, .int .i64 0, .string ⟨#[]⟩]) (by simp only [results, Tryz.results122]; go_simp) rfl ⟨rfl, hB⟩)
set_option maxHeartbeats 4000000 in
theorem compared_yes (fid : Nat) (eg : ∀ args w, (callFunc fid args).run Tryz.prog w = .ok (.enter fid args) w) (ka na : Int) (ta : ByteArray) (kb nb : Int) (tb : ByteArray) (c : Int) (g1 g2 : Nat) (w : World) (hg1 : w.cell? ⟨g1, 0, none⟩ = some (.func (Fn.func fid) #[] #[])) (hg2 : w.cell? ⟨g2, 0, none⟩ = some (.int .i64 c)) (l1 : g1 < w.heap.size) (l2 : g2 < w.heap.size) (hsa : ta.size ≤ 1048576) (hsb : tb.size ≤ 1048576) (r : Int) (hr : Hid (Val.cmp ⟨ka, na, ta.data.toList⟩ ⟨kb, nb, tb.data.toList⟩ c = r)) (b : Bool) (hp : ∀ w', Calls Tryz.prog fid #[.int .i64 r] w' fun e w'' => e = .returned (.bool b) ∧ w' = w'') (hk : ka ≠ 0) (hk2 : kb ≠ 0) (m : Int) (hm : Hid ((if b = true then (1 : Int) else 0) = m)) :
    Calls Tryz.prog 122 #[.agg #[.int .i64 ka, .int .i64 na, .string ta], .agg #[.int .i64 kb, .int .i64 nb, .string tb], .pointer (some ⟨g1, 0, none⟩), .pointer (some ⟨g2, 0, none⟩)] w (VRet 1 m ⟨#[]⟩ w) := by
  have hS0 := ofS2 (start3 w (.int .i64 ka) (.int .i64 na) (.string ta) (.int .i64 kb) (.int .i64 nb) (.string tb) (.int .i64 0) (.int .i64 0) (.string ⟨#[]⟩) 24 24 24)
  have hS := And.intro hS0 (And.intro (((belowP2 hS0).cell (p := ⟨g1, 0, none⟩) l1).trans hg1) (((belowP2 hS0).cell (p := ⟨g2, 0, none⟩) l2).trans hg2))
  clear hS0
  have q1 : (ka != 0) = true := by simp [hk]
  have q2 : (kb != 0) = true := by simp [hk2]
  clear hk hk2
  go_enter Tryz.func122, Tryz.ntmps122
  go_wp2_with fail
  go_region_held3 (fun W => (W.cell? ⟨w.heap.size, 0, none⟩ = some (.int .i64 ka) ∧ W.cell? ⟨w.heap.size, 1, none⟩ = some (.int .i64 na) ∧ W.cell? ⟨w.heap.size, 2, none⟩ = some (.string ta) ∧ W.frozen? ⟨w.heap.size, 0, none⟩ = false ∧ W.frozen? ⟨w.heap.size, 1, none⟩ = false ∧ W.frozen? ⟨w.heap.size, 2, none⟩ = false ∧ W.cell? ⟨w.heap.size + 1, 0, none⟩ = some (.int .i64 kb) ∧ W.cell? ⟨w.heap.size + 1, 1, none⟩ = some (.int .i64 nb) ∧ W.cell? ⟨w.heap.size + 1, 2, none⟩ = some (.string tb) ∧ W.frozen? ⟨w.heap.size + 1, 0, none⟩ = false ∧ W.frozen? ⟨w.heap.size + 1, 1, none⟩ = false ∧ W.frozen? ⟨w.heap.size + 1, 2, none⟩ = false ∧ W.cell? ⟨w.heap.size + 1 + 1, 0, none⟩ = some (peek W (w.heap.size + 1 + 1) 0) ∧ W.cell? ⟨w.heap.size + 1 + 1, 1, none⟩ = some (peek W (w.heap.size + 1 + 1) 1) ∧ W.cell? ⟨w.heap.size + 1 + 1, 2, none⟩ = some (peek W (w.heap.size + 1 + 1) 2) ∧ W.frozen? ⟨w.heap.size + 1 + 1, 0, none⟩ = false ∧ W.frozen? ⟨w.heap.size + 1 + 1, 1, none⟩ = false ∧ W.frozen? ⟨w.heap.size + 1 + 1, 2, none⟩ = false ∧ w.heap.size + 1 + 1 < W.heap.size ∧ Below w.heap.size w W) ∧ W.cell? ⟨g1, 0, none⟩ = some (.func (Fn.func fid) #[] #[]) ∧ W.cell? ⟨g2, 0, none⟩ = some (.int .i64 c)) (first | assumption | exact keepPc2 (by assumption) (by assumption) l1 l2 | exact keepPcd2 (by assumption) | exact putPc2 (by assumption) l1 l2) (first
    | (go_at_call 62; refine (vcmp_is _ _ _ _ _ _ _ _ hsa hsb _ hr).mono ?_; rintro e w1 ⟨rfl, hb1⟩)
    | (go_at_call 54; refine (cthree_yes _ _ hm _).mono ?_; rintro e w2 ⟨rfl, hb2⟩; have hP2 := keepP2 (w := w) (And.left (by assumption)) hb2)
    | (refine (hp _).mono ?_; rintro e w4 ⟨rfl, rfl⟩))
  all_goals (
    rename_i hh
    have hB := belowP2 hh.1
    clear hh
    obtain ⟨cb0, cb1, cb2, cb3, cb4, cb5, cb6, cb7, cb8, cb9, cb10, cb11, cb12, cb13, cb14, cb15, cb16, cb17, hz2, hB2⟩ := hP2
    go_wp2
    exact bodyPost_ret (v := .agg #[.int .i64 1, .int .i64 m, .string ⟨#[]⟩]) (by simp only [results, Tryz.results122]; go_simp) rfl ⟨rfl, hB⟩)

end Go.Proofs.YthdpgekjbkpomaaGreatDoor
