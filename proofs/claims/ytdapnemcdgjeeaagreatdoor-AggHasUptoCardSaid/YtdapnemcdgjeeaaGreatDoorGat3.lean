/- Gatherers in memory: what the summer answers. -/
import Derived.Test.YtdapnemcdgjeeaaGreatDoorGat
import Derived.Test.YtdapnemcdgjeeaaGreatDoorValW
set_option maxRecDepth 100000
set_option linter.unusedVariables false
set_option linter.unusedSimpArgs false
namespace Go.Proofs.YtdapnemcdgjeeaaGreatDoor
open Go.RowKit

theorem set3_below {w W : World} {g : Nat} (h : Below w.heap.size w W) (hg : w.heap.size ≤ g) (a b c : Value) : Below w.heap.size w (((W.setCell ⟨g, 0, none⟩ a).setCell ⟨g, 1, none⟩ b).setCell ⟨g, 2, none⟩ c) :=
  ((h.setCell (p := ⟨g, 0, none⟩) hg _).setCell (p := ⟨g, 1, none⟩) hg _).setCell (p := ⟨g, 2, none⟩) hg _
set_option maxHeartbeats 1000000 in
theorem sum_answer_none (b : Nat) (hi lo : Nat) (W : World) (hB : Blk W b 130 #[.int .u64 (hi : Int), .int .u64 (lo : Int), .bool false]) :
    Calls Tryz.prog 206 #[.pointer (some ⟨b, 0, none⟩)] W (ValR 0 0 ⟨#[]⟩ W) := by
  have hb0 := newB W (.cells #[.int .i64 0, .int .i64 0, .string ⟨#[]⟩] 33)
  have hG0 := Blk.new W 33 #[.int .i64 0, .int .i64 0, .string ⟨#[]⟩]
  have hB0 := hB.alloc (.cells #[.int .i64 0, .int .i64 0, .string ⟨#[]⟩] 33)
  obtain ⟨g, hg⟩ : ∃ g, W.heap.size = g := ⟨_, rfl⟩
  obtain ⟨W0, hW0⟩ : ∃ x, W.alloc (.cells #[.int .i64 0, .int .i64 0, .string ⟨#[]⟩] 33) = x := ⟨_, rfl⟩
  rw [hg] at hG0
  rw [hW0] at hG0 hb0 hB0
  have c0 := hB0.cell 0
  have c1 := hB0.cell 1
  have c2 := hB0.cell 2
  simp only [List.getElem?_toArray, List.getElem?_cons_zero, List.getElem?_cons_succ] at c0 c1 c2
  have hg' : W.heap.size ≤ g := by omega
  go_enter Tryz.func206, Tryz.ntmps206
  go_wp2_with fail
  go_quiet (fail)
  have hb1 := below_drewN (Below.refl W0.heap.size W0) nq
  have hG1 := hG0.on hb1
  generalize W0.drewN nq = W1 at hb1 hG1 ⊢
  have y0 := hG1.cell 0
  have y1 := hG1.cell 1
  have y2 := hG1.cell 2
  have f0 := hG1.free 0
  have f1 := hG1.free 1
  have f2 := hG1.free 2
  simp only [List.getElem?_toArray, List.getElem?_cons_zero, List.getElem?_cons_succ] at y0 y1 y2
  go_wp2
  refine bodyPost_ret (v := .agg #[.int .i64 0, .int .i64 0, .string ⟨#[]⟩]) (by simp only [results, Tryz.results206]; go_simp) rfl ⟨rfl, ?_⟩
  exact set3_below (stepB hb0 hb1) hg' _ _ _
set_option maxHeartbeats 1000000 in
theorem sum_answer_some (b : Nat) (hi lo : Nat) (n : Int) (s : Nat) (W : World) (hn : IntKind.i64.wrap (lo : Int) = n) (hs : IntKind.u64.wrap (n / 9223372036854775808) = (s : Int)) (r : Bool) (hr : Hid (((hi : Int) == (s : Int)) = r)) (hB : Blk W b 130 #[.int .u64 (hi : Int), .int .u64 (lo : Int), .bool true]) :
    Calls Tryz.prog 206 #[.pointer (some ⟨b, 0, none⟩)] W (if r = true then ValR 1 n ⟨#[]⟩ W else ValR 0 0 ⟨#[]⟩ W) := by
  have hb0 := newB W (.cells #[.int .i64 0, .int .i64 0, .string ⟨#[]⟩] 33)
  have hG0 := Blk.new W 33 #[.int .i64 0, .int .i64 0, .string ⟨#[]⟩]
  have hB0 := hB.alloc (.cells #[.int .i64 0, .int .i64 0, .string ⟨#[]⟩] 33)
  obtain ⟨g, hg⟩ : ∃ g, W.heap.size = g := ⟨_, rfl⟩
  obtain ⟨W0, hW0⟩ : ∃ x, W.alloc (.cells #[.int .i64 0, .int .i64 0, .string ⟨#[]⟩] 33) = x := ⟨_, rfl⟩
  rw [hg] at hG0
  rw [hW0] at hG0 hb0 hB0
  have c0 := hB0.cell 0
  have c1 := hB0.cell 1
  have c2 := hB0.cell 2
  simp only [List.getElem?_toArray, List.getElem?_cons_zero, List.getElem?_cons_succ] at c0 c1 c2
  have hg' : W.heap.size ≤ g := by omega
  have hr := hr.out
  go_enter Tryz.func206, Tryz.ntmps206
  cases r with
  | true =>
    go_wp2_with fail
    go_quiet (fail)
    have hb1 := below_drewN (Below.refl W0.heap.size W0) nq
    have hG1 := hG0.on hb1
    have hB1 := hB0.on hb1
    generalize W0.drewN nq = W1 at hb1 hG1 hB1 ⊢
    have d1 := hB1.cell 1
    simp only [List.getElem?_toArray, List.getElem?_cons_zero, List.getElem?_cons_succ] at d1
    go_wp2_with (go_at_call 205; refine (vint_any n _).mono ?_; rintro e w1 ⟨rfl, hb2⟩; have hG2 := hG1.on hb2; have y0 := hG2.cell 0; have y1 := hG2.cell 1; have y2 := hG2.cell 2; have f0 := hG2.free 0; have f1 := hG2.free 1; have f2 := hG2.free 2; simp only [List.getElem?_toArray, List.getElem?_cons_zero, List.getElem?_cons_succ] at y0 y1 y2)
    refine bodyPost_ret (v := .agg #[.int .i64 1, .int .i64 n, .string ⟨#[]⟩]) (by simp only [results, Tryz.results206]; go_simp) rfl ⟨rfl, ?_⟩
    exact set3_below (stepB (stepB hb0 hb1) hb2) hg' _ _ _
  | false =>
    go_wp2_with fail
    go_quiet (fail)
    have hb1 := below_drewN (Below.refl W0.heap.size W0) nq
    have hG1 := hG0.on hb1
    generalize W0.drewN nq = W1 at hb1 hG1 ⊢
    have y0 := hG1.cell 0
    have y1 := hG1.cell 1
    have y2 := hG1.cell 2
    have f0 := hG1.free 0
    have f1 := hG1.free 1
    have f2 := hG1.free 2
    simp only [List.getElem?_toArray, List.getElem?_cons_zero, List.getElem?_cons_succ] at y0 y1 y2
    go_wp2
    refine bodyPost_ret (v := .agg #[.int .i64 0, .int .i64 0, .string ⟨#[]⟩]) (by simp only [results, Tryz.results206]; go_simp) rfl ⟨rfl, ?_⟩
    exact set3_below (stepB hb0 hb1) hg' _ _ _
end Go.Proofs.YtdapnemcdgjeeaaGreatDoor
