/- Walks: which function an operator of two values is, and what it answers. -/
import Derived.Test.YthdpgekjbkpomaaGreatDoorCalcB4
import Derived.Test.YthdpgekjbkpomaaGreatDoorCalcB6
import Derived.Test.YthdpgekjbkpomaaGreatDoorCalcB7
import Derived.Test.YthdpgekjbkpomaaGreatDoorCalcB8
import Derived.Test.YthdpgekjbkpomaaGreatDoorCalcB9
import Derived.Test.YthdpgekjbkpomaaGreatDoorCalcM
set_option maxRecDepth 100000
set_option linter.unusedVariables false
set_option linter.unusedSimpArgs false
namespace Go.Proofs.YthdpgekjbkpomaaGreatDoor
open Go.RowKit

/-- a function value is not nil -/
theorem func_not_nil (fid : Nat) (caps : Array Value) (W : World) : (binOp .eql 66 (.func (Fn.func fid) #[] caps) .nilFunc).run Tryz.prog W = .ok (.bool false) W := by kernel_rfl
theorem nil_nil (W : World) : (binOp .eql 66 .nilFunc .nilFunc).run Tryz.prog W = .ok (.bool true) W := by kernel_rfl
/-- a function value, of 0 cells, that makes a value of two -/
def Does0 (fid : Nat) (ka na : Int) (ta : ByteArray) (kb nb : Int) (tb : ByteArray) (k n : Int) (t : ByteArray) (w : World) (e : Ending) (w' : World) : Prop := e = .returned (.func (Fn.func fid) #[] #[]) ∧ (∀ W, Below w'.heap.size w' W → Lits W → Calls Tryz.prog fid #[.agg #[.int .i64 ka, .int .i64 na, .string ta], .agg #[.int .i64 kb, .int .i64 nb, .string tb]] W (VRet k n t W)) ∧ Below w.heap.size w w'
set_option maxHeartbeats 2000000 in
theorem cbinary_0 (op : Int) (fid : Nat) (eg : ∀ args w, (callFunc fid args).run Tryz.prog w = .ok (.enter fid args) w) (ka na : Int) (ta : ByteArray) (kb nb : Int) (tb : ByteArray) (c : Int) (k n : Int) (t : ByteArray) (w : World) (hL : Lits w) (hm1 : Val.may ⟨ka, na, ta.data.toList⟩ = true) (hm2 : Val.may ⟨kb, nb, tb.data.toList⟩ = true) (hd : ∀ w0, Calls Tryz.prog 56 #[.int .i64 op, .int .i64 c] w0 (Does0 fid ka na ta kb nb tb k n t w0)) :
    Calls Tryz.prog 20 #[.int .i64 op, .agg #[.int .i64 ka, .int .i64 na, .string ta], .agg #[.int .i64 kb, .int .i64 nb, .string tb], .int .i64 c] w (VRet2 k n t 0 w) := by
  have hS := start3 w (.int .i64 ka) (.int .i64 na) (.string ta) (.int .i64 kb) (.int .i64 nb) (.string tb) (.int .i64 0) (.int .i64 0) (.string ⟨#[]⟩) 24 24 24
  have hL0 : Lits (((w.alloc (.cells #[.int .i64 ka, .int .i64 na, .string ta] 24)).alloc (.cells #[.int .i64 kb, .int .i64 nb, .string tb] 24)).alloc (.cells #[.int .i64 0, .int .i64 0, .string ⟨#[]⟩] 24)) := ((hL.alloc _).alloc _).alloc _
  have fnn := func_not_nil
  replace hm1 := Lib.hid hm1
  replace hm2 := Lib.hid hm2
  go_enter Tryz.func20, Tryz.ntmps20
  go_wp2_with (first
    | (go_at_call 56; refine (hd _).mono ?_; rintro e w1 ⟨rfl, hf, hb1⟩; have hS1 := keep3 hS hb1; obtain ⟨ca0, ca1, ca2, ca3, ca4, ca5, ca6, ca7, ca8, ca9, ca10, ca11, ca12, ca13, ca14, ca15, ca16, ca17, hz, hB⟩ := id hS1; have hL1 := hL0.below hb1)
    | (go_at_call 37; first
      | (have hq := hS2; refine (may_is _ _ _ _ hm2).mono ?_; rintro e w3 ⟨rfl, hb3⟩; have hS3 := keep3 hS2 hb3; obtain ⟨cc0, cc1, cc2, cc3, cc4, cc5, cc6, cc7, cc8, cc9, cc10, cc11, cc12, cc13, cc14, cc15, cc16, cc17, hz3, hB3⟩ := id hS3; have hL3 := hL2.below hb3)
      | (refine (may_is _ _ _ _ hm1).mono ?_; rintro e w2 ⟨rfl, hb2⟩; have hS2 := keep3 hS1 hb2; obtain ⟨cb0, cb1, cb2, cb3, cb4, cb5, cb6, cb7, cb8, cb9, cb10, cb11, cb12, cb13, cb14, cb15, cb16, cb17, hz2, hB2⟩ := id hS2; have hL2 := hL1.below hb2)))
  have hS3d := keepd3 hS3
  all_goals (
    go_wp2_with (refine (hf _ (hb2.trans (hb3.mono hb2.size)) hL3).mono ?_; rintro e w4 ⟨rfl, hb4⟩; have hS4 := keep3 hS3 hb4; obtain ⟨cd0, cd1, cd2, cd3, cd4, cd5, cd6, cd7, cd8, cd9, cd10, cd11, cd12, cd13, cd14, cd15, cd16, cd17, hz4, hB4⟩ := id hS4)
    exact bodyPost_ret (v := .tuple #[.agg #[.int .i64 k, .int .i64 n, .string t], .int .i64 0]) (by simp only [results, Tryz.results20]; go_simp) rfl ⟨rfl, below_setg hB4 (by omega)⟩)

/-- a function value, of 1 cells, that makes a value of two -/
def Does1 (fid : Nat) (ka na : Int) (ta : ByteArray) (kb nb : Int) (tb : ByteArray) (k n : Int) (t : ByteArray) (w : World) (e : Ending) (w' : World) : Prop := ∃ g1, e = .returned (.func (Fn.func fid) #[] #[.pointer (some ⟨g1, 0, none⟩)]) ∧ (∀ W, Below w'.heap.size w' W → Lits W → Calls Tryz.prog fid #[.agg #[.int .i64 ka, .int .i64 na, .string ta], .agg #[.int .i64 kb, .int .i64 nb, .string tb], .pointer (some ⟨g1, 0, none⟩)] W (VRet k n t W)) ∧ Below w.heap.size w w'
set_option maxHeartbeats 2000000 in
theorem cbinary_1 (op : Int) (fid : Nat) (eg : ∀ args w, (callFunc fid args).run Tryz.prog w = .ok (.enter fid args) w) (ka na : Int) (ta : ByteArray) (kb nb : Int) (tb : ByteArray) (c : Int) (k n : Int) (t : ByteArray) (w : World) (hL : Lits w) (hm1 : Val.may ⟨ka, na, ta.data.toList⟩ = true) (hm2 : Val.may ⟨kb, nb, tb.data.toList⟩ = true) (hd : ∀ w0, Calls Tryz.prog 56 #[.int .i64 op, .int .i64 c] w0 (Does1 fid ka na ta kb nb tb k n t w0)) :
    Calls Tryz.prog 20 #[.int .i64 op, .agg #[.int .i64 ka, .int .i64 na, .string ta], .agg #[.int .i64 kb, .int .i64 nb, .string tb], .int .i64 c] w (VRet2 k n t 0 w) := by
  have hS := start3 w (.int .i64 ka) (.int .i64 na) (.string ta) (.int .i64 kb) (.int .i64 nb) (.string tb) (.int .i64 0) (.int .i64 0) (.string ⟨#[]⟩) 24 24 24
  have hL0 : Lits (((w.alloc (.cells #[.int .i64 ka, .int .i64 na, .string ta] 24)).alloc (.cells #[.int .i64 kb, .int .i64 nb, .string tb] 24)).alloc (.cells #[.int .i64 0, .int .i64 0, .string ⟨#[]⟩] 24)) := ((hL.alloc _).alloc _).alloc _
  have fnn := func_not_nil
  replace hm1 := Lib.hid hm1
  replace hm2 := Lib.hid hm2
  go_enter Tryz.func20, Tryz.ntmps20
  go_wp2_with (first
    | (go_at_call 56; refine (hd _).mono ?_; rintro e w1 ⟨g1, rfl, hf, hb1⟩; have hS1 := keep3 hS hb1; obtain ⟨ca0, ca1, ca2, ca3, ca4, ca5, ca6, ca7, ca8, ca9, ca10, ca11, ca12, ca13, ca14, ca15, ca16, ca17, hz, hB⟩ := id hS1; have hL1 := hL0.below hb1)
    | (go_at_call 37; first
      | (have hq := hS2; refine (may_is _ _ _ _ hm2).mono ?_; rintro e w3 ⟨rfl, hb3⟩; have hS3 := keep3 hS2 hb3; obtain ⟨cc0, cc1, cc2, cc3, cc4, cc5, cc6, cc7, cc8, cc9, cc10, cc11, cc12, cc13, cc14, cc15, cc16, cc17, hz3, hB3⟩ := id hS3; have hL3 := hL2.below hb3)
      | (refine (may_is _ _ _ _ hm1).mono ?_; rintro e w2 ⟨rfl, hb2⟩; have hS2 := keep3 hS1 hb2; obtain ⟨cb0, cb1, cb2, cb3, cb4, cb5, cb6, cb7, cb8, cb9, cb10, cb11, cb12, cb13, cb14, cb15, cb16, cb17, hz2, hB2⟩ := id hS2; have hL2 := hL1.below hb2)))
  have hS3d := keepd3 hS3
  all_goals (
    go_wp2_with (refine (hf _ (hb2.trans (hb3.mono hb2.size)) hL3).mono ?_; rintro e w4 ⟨rfl, hb4⟩; have hS4 := keep3 hS3 hb4; obtain ⟨cd0, cd1, cd2, cd3, cd4, cd5, cd6, cd7, cd8, cd9, cd10, cd11, cd12, cd13, cd14, cd15, cd16, cd17, hz4, hB4⟩ := id hS4)
    exact bodyPost_ret (v := .tuple #[.agg #[.int .i64 k, .int .i64 n, .string t], .int .i64 0]) (by simp only [results, Tryz.results20]; go_simp) rfl ⟨rfl, below_setg hB4 (by omega)⟩)

/-- a function value, of 2 cells, that makes a value of two -/
def Does2 (fid : Nat) (ka na : Int) (ta : ByteArray) (kb nb : Int) (tb : ByteArray) (k n : Int) (t : ByteArray) (w : World) (e : Ending) (w' : World) : Prop := ∃ g1 g2, e = .returned (.func (Fn.func fid) #[] #[.pointer (some ⟨g1, 0, none⟩), .pointer (some ⟨g2, 0, none⟩)]) ∧ (∀ W, Below w'.heap.size w' W → Lits W → Calls Tryz.prog fid #[.agg #[.int .i64 ka, .int .i64 na, .string ta], .agg #[.int .i64 kb, .int .i64 nb, .string tb], .pointer (some ⟨g1, 0, none⟩), .pointer (some ⟨g2, 0, none⟩)] W (VRet k n t W)) ∧ Below w.heap.size w w'
set_option maxHeartbeats 2000000 in
theorem cbinary_2 (op : Int) (fid : Nat) (eg : ∀ args w, (callFunc fid args).run Tryz.prog w = .ok (.enter fid args) w) (ka na : Int) (ta : ByteArray) (kb nb : Int) (tb : ByteArray) (c : Int) (k n : Int) (t : ByteArray) (w : World) (hL : Lits w) (hm1 : Val.may ⟨ka, na, ta.data.toList⟩ = true) (hm2 : Val.may ⟨kb, nb, tb.data.toList⟩ = true) (hd : ∀ w0, Calls Tryz.prog 56 #[.int .i64 op, .int .i64 c] w0 (Does2 fid ka na ta kb nb tb k n t w0)) :
    Calls Tryz.prog 20 #[.int .i64 op, .agg #[.int .i64 ka, .int .i64 na, .string ta], .agg #[.int .i64 kb, .int .i64 nb, .string tb], .int .i64 c] w (VRet2 k n t 0 w) := by
  have hS := start3 w (.int .i64 ka) (.int .i64 na) (.string ta) (.int .i64 kb) (.int .i64 nb) (.string tb) (.int .i64 0) (.int .i64 0) (.string ⟨#[]⟩) 24 24 24
  have hL0 : Lits (((w.alloc (.cells #[.int .i64 ka, .int .i64 na, .string ta] 24)).alloc (.cells #[.int .i64 kb, .int .i64 nb, .string tb] 24)).alloc (.cells #[.int .i64 0, .int .i64 0, .string ⟨#[]⟩] 24)) := ((hL.alloc _).alloc _).alloc _
  have fnn := func_not_nil
  replace hm1 := Lib.hid hm1
  replace hm2 := Lib.hid hm2
  go_enter Tryz.func20, Tryz.ntmps20
  go_wp2_with (first
    | (go_at_call 56; refine (hd _).mono ?_; rintro e w1 ⟨g1, g2, rfl, hf, hb1⟩; have hS1 := keep3 hS hb1; obtain ⟨ca0, ca1, ca2, ca3, ca4, ca5, ca6, ca7, ca8, ca9, ca10, ca11, ca12, ca13, ca14, ca15, ca16, ca17, hz, hB⟩ := id hS1; have hL1 := hL0.below hb1)
    | (go_at_call 37; first
      | (have hq := hS2; refine (may_is _ _ _ _ hm2).mono ?_; rintro e w3 ⟨rfl, hb3⟩; have hS3 := keep3 hS2 hb3; obtain ⟨cc0, cc1, cc2, cc3, cc4, cc5, cc6, cc7, cc8, cc9, cc10, cc11, cc12, cc13, cc14, cc15, cc16, cc17, hz3, hB3⟩ := id hS3; have hL3 := hL2.below hb3)
      | (refine (may_is _ _ _ _ hm1).mono ?_; rintro e w2 ⟨rfl, hb2⟩; have hS2 := keep3 hS1 hb2; obtain ⟨cb0, cb1, cb2, cb3, cb4, cb5, cb6, cb7, cb8, cb9, cb10, cb11, cb12, cb13, cb14, cb15, cb16, cb17, hz2, hB2⟩ := id hS2; have hL2 := hL1.below hb2)))
  have hS3d := keepd3 hS3
  all_goals (
    go_wp2_with (refine (hf _ (hb2.trans (hb3.mono hb2.size)) hL3).mono ?_; rintro e w4 ⟨rfl, hb4⟩; have hS4 := keep3 hS3 hb4; obtain ⟨cd0, cd1, cd2, cd3, cd4, cd5, cd6, cd7, cd8, cd9, cd10, cd11, cd12, cd13, cd14, cd15, cd16, cd17, hz4, hB4⟩ := id hS4)
    exact bodyPost_ret (v := .tuple #[.agg #[.int .i64 k, .int .i64 n, .string t], .int .i64 0]) (by simp only [results, Tryz.results20]; go_simp) rfl ⟨rfl, below_setg hB4 (by omega)⟩)

theorem makes_arith {op : Int} {q : Int → Int → Int × Bool} (hop : 7 ≤ op ∧ op ≤ 11) (hq : ∀ x y, Val.inr x → Val.inr y → doV (q x y) = Val.arith op x y) {a b : Val.V} {c : Int} (ha : Val.fits a) (hb : Val.fits b) :
    Val.makes op a b c = if (Val.num a).kind = 0 ∨ (Val.num b).kind = 0 then Val.zero else doV (q (Val.num a).int (Val.num b).int) := by
  rw [Val.makes, if_pos (by omega), hq _ _ (Val.num_fits ha) (Val.num_fits hb)]
theorem heap_first (w : World) (c : Int) : (w.alloc (.cells #[.int .i64 c] 39)).cell? ⟨w.heap.size, 0, none⟩ = some (.int .i64 c) := by
  have := heap_new w (.cells #[.int .i64 c] 39)
  exact cell_of_row _ _ 0 _ 39 _ this
set_option maxHeartbeats 1000000 in
theorem does_add (ka na : Int) (ta : ByteArray) (kb nb : Int) (tb : ByteArray) (c : Int) (ha : Val.inr na) (hb : Val.inr nb) (hm1 : Val.may ⟨ka, na, ta.data.toList⟩ = true) (hm2 : Val.may ⟨kb, nb, tb.data.toList⟩ = true) (k n : Int) (hv : Hid (Val.makes 7 ⟨ka, na, ta.data.toList⟩ ⟨kb, nb, tb.data.toList⟩ c = ⟨k, n, []⟩)) (w0 : World) : Calls Tryz.prog 56 #[.int .i64 7, .int .i64 c] w0 (Does1 119 ka na ta kb nb tb k n ⟨#[]⟩ w0) := by
  have hv' := (makes_arith (op := 7) (q := qadd) (by decide) (fun x y _ _ => by rw [doV_add, Val.arith, if_pos rfl]) (a := ⟨ka, na, ta.data.toList⟩) (b := ⟨kb, nb, tb.data.toList⟩) (c := c) ha hb).symm.trans hv.out
  replace hv' := Lib.hid hv'
  clear hv
  go_enter Tryz.func56, Tryz.ntmps56
  go_wp2_with (go_at_call 79; refine (both_any _ _).mono ?_; rintro e w1 ⟨g, rfl, hg, hgl, hb1⟩)
  go_ret
  exact ⟨g, rfl, fun W hW hL => both_is 81 qadd (fun _ _ => by kernel_rfl) (fun x y w hx hy => cadd_any x y w hx hy) _ _ _ _ _ _ g W hL ((hW.cell (p := ⟨g, 0, none⟩) hgl).trans hg) (Nat.lt_of_lt_of_le hgl hW.size) ha hb k n hv', ((below_new w0 _).trans (hb1.mono (below_new w0 _).size))⟩
set_option maxHeartbeats 1000000 in
theorem does_mul (ka na : Int) (ta : ByteArray) (kb nb : Int) (tb : ByteArray) (c : Int) (ha : Val.inr na) (hb : Val.inr nb) (hm1 : Val.may ⟨ka, na, ta.data.toList⟩ = true) (hm2 : Val.may ⟨kb, nb, tb.data.toList⟩ = true) (k n : Int) (hv : Hid (Val.makes 9 ⟨ka, na, ta.data.toList⟩ ⟨kb, nb, tb.data.toList⟩ c = ⟨k, n, []⟩)) (w0 : World) : Calls Tryz.prog 56 #[.int .i64 9, .int .i64 c] w0 (Does1 119 ka na ta kb nb tb k n ⟨#[]⟩ w0) := by
  have hv' := (makes_arith (op := 9) (q := qmul) (by decide) (fun x y _ _ => by rw [doV_mul, Val.arith, if_neg (by decide), if_neg (by decide), if_pos rfl]) (a := ⟨ka, na, ta.data.toList⟩) (b := ⟨kb, nb, tb.data.toList⟩) (c := c) ha hb).symm.trans hv.out
  replace hv' := Lib.hid hv'
  clear hv
  go_enter Tryz.func56, Tryz.ntmps56
  go_wp2_with (go_at_call 79; refine (both_any _ _).mono ?_; rintro e w1 ⟨g, rfl, hg, hgl, hb1⟩)
  go_ret
  exact ⟨g, rfl, fun W hW hL => both_is 82 qmul (fun _ _ => by kernel_rfl) (fun x y w hx hy => cmul_any x y w hx hy) _ _ _ _ _ _ g W hL ((hW.cell (p := ⟨g, 0, none⟩) hgl).trans hg) (Nat.lt_of_lt_of_le hgl hW.size) ha hb k n hv', ((below_new w0 _).trans (hb1.mono (below_new w0 _).size))⟩
set_option maxHeartbeats 1000000 in
theorem does_div (ka na : Int) (ta : ByteArray) (kb nb : Int) (tb : ByteArray) (c : Int) (ha : Val.inr na) (hb : Val.inr nb) (hm1 : Val.may ⟨ka, na, ta.data.toList⟩ = true) (hm2 : Val.may ⟨kb, nb, tb.data.toList⟩ = true) (k n : Int) (hv : Hid (Val.makes 10 ⟨ka, na, ta.data.toList⟩ ⟨kb, nb, tb.data.toList⟩ c = ⟨k, n, []⟩)) (w0 : World) : Calls Tryz.prog 56 #[.int .i64 10, .int .i64 c] w0 (Does1 119 ka na ta kb nb tb k n ⟨#[]⟩ w0) := by
  have hv' := (makes_arith (op := 10) (q := qdiv) (by decide) (fun x y hx _ => by rw [doV_div hx, Val.arith]; simp) (a := ⟨ka, na, ta.data.toList⟩) (b := ⟨kb, nb, tb.data.toList⟩) (c := c) ha hb).symm.trans hv.out
  replace hv' := Lib.hid hv'
  clear hv
  go_enter Tryz.func56, Tryz.ntmps56
  go_wp2_with (go_at_call 79; refine (both_any _ _).mono ?_; rintro e w1 ⟨g, rfl, hg, hgl, hb1⟩)
  go_ret
  exact ⟨g, rfl, fun W hW hL => both_is 83 qdiv (fun _ _ => by kernel_rfl) (fun x y w hx hy => cdiv_any x y w hx hy) _ _ _ _ _ _ g W hL ((hW.cell (p := ⟨g, 0, none⟩) hgl).trans hg) (Nat.lt_of_lt_of_le hgl hW.size) ha hb k n hv', ((below_new w0 _).trans (hb1.mono (below_new w0 _).size))⟩
set_option maxHeartbeats 1000000 in
theorem does_rem (ka na : Int) (ta : ByteArray) (kb nb : Int) (tb : ByteArray) (c : Int) (ha : Val.inr na) (hb : Val.inr nb) (hm1 : Val.may ⟨ka, na, ta.data.toList⟩ = true) (hm2 : Val.may ⟨kb, nb, tb.data.toList⟩ = true) (k n : Int) (hv : Hid (Val.makes 11 ⟨ka, na, ta.data.toList⟩ ⟨kb, nb, tb.data.toList⟩ c = ⟨k, n, []⟩)) (w0 : World) : Calls Tryz.prog 56 #[.int .i64 11, .int .i64 c] w0 (Does1 119 ka na ta kb nb tb k n ⟨#[]⟩ w0) := by
  have hv' := (makes_arith (op := 11) (q := qrem) (by decide) (fun x y _ _ => by rw [doV_rem, Val.arith]; simp) (a := ⟨ka, na, ta.data.toList⟩) (b := ⟨kb, nb, tb.data.toList⟩) (c := c) ha hb).symm.trans hv.out
  replace hv' := Lib.hid hv'
  clear hv
  go_enter Tryz.func56, Tryz.ntmps56
  go_wp2_with (go_at_call 79; refine (both_any _ _).mono ?_; rintro e w1 ⟨g, rfl, hg, hgl, hb1⟩)
  go_ret
  exact ⟨g, rfl, fun W hW hL => both_is 84 qrem (fun _ _ => by kernel_rfl) (fun x y w hx hy => crem_any x y w hx hy) _ _ _ _ _ _ g W hL ((hW.cell (p := ⟨g, 0, none⟩) hgl).trans hg) (Nat.lt_of_lt_of_le hgl hW.size) ha hb k n hv', ((below_new w0 _).trans (hb1.mono (below_new w0 _).size))⟩
set_option maxHeartbeats 1000000 in
theorem does_sub (ka na : Int) (ta : ByteArray) (kb nb : Int) (tb : ByteArray) (c : Int) (ha : Val.inr na) (hb : Val.inr nb) (hm1 : Val.may ⟨ka, na, ta.data.toList⟩ = true) (hm2 : Val.may ⟨kb, nb, tb.data.toList⟩ = true) (k n : Int) (hv : Hid (Val.makes 8 ⟨ka, na, ta.data.toList⟩ ⟨kb, nb, tb.data.toList⟩ c = ⟨k, n, []⟩)) (w0 : World) : Calls Tryz.prog 56 #[.int .i64 8, .int .i64 c] w0 (Does0 51 ka na ta kb nb tb k n ⟨#[]⟩ w0) := by
  have hv' := (makes_arith (op := 8) (q := qsub) (by decide) (fun x y _ _ => by rw [doV_sub, Val.arith, if_neg (by decide), if_pos rfl]) (a := ⟨ka, na, ta.data.toList⟩) (b := ⟨kb, nb, tb.data.toList⟩) (c := c) ha hb).symm.trans hv.out
  replace hv' := Lib.hid hv'
  clear hv
  go_enter Tryz.func56, Tryz.ntmps56
  go_wp2
  go_ret
  exact ⟨rfl, fun W hW hL => csub_is _ _ _ _ _ _ W hL ha hb k n hv', below_new w0 _⟩
theorem cconcat_is (ka na : Int) (ta : ByteArray) (kb nb : Int) (tb : ByteArray) (c : Int) (w : World) (hL : Lits w) (ha : Val.inr na) (hb : Val.inr nb) (hm1 : Val.may ⟨ka, na, ta.data.toList⟩ = true) (hm2 : Val.may ⟨kb, nb, tb.data.toList⟩ = true) (k n : Int) (t : ByteArray) (hv : Hid (Val.makes 12 ⟨ka, na, ta.data.toList⟩ ⟨kb, nb, tb.data.toList⟩ c = ⟨k, n, t.data.toList⟩)) :
    Calls Tryz.prog 85 #[.agg #[.int .i64 ka, .int .i64 na, .string ta], .agg #[.int .i64 kb, .int .i64 nb, .string tb]] w (VRet k n t w) := by
  have hv' := hv.out
  rw [Val.makes, if_neg (by decide), if_pos rfl] at hv'
  simp only at hv'
  have hz : ∀ {k n : Int} {t : ByteArray}, Val.zero = ⟨k, n, t.data.toList⟩ → k = 0 ∧ n = 0 ∧ t = ⟨#[]⟩ := by
    intro k n t h
    simp only [Val.zero, Val.V.mk.injEq] at h
    exact ⟨h.1.symm, h.2.1.symm, text_nil h.2.2.symm⟩
  by_cases h1 : ka = 0
  · rw [if_pos (.inl h1)] at hv'
    obtain ⟨rfl, rfl, rfl⟩ := hz hv'
    have e1 : Val.pshow ⟨ka, na, ta.data.toList⟩ = ⟨0, 0, (⟨#[]⟩ : ByteArray).data.toList⟩ := Val.pshow_not (.inr h1)
    by_cases h2 : kb = 0
    · have e2 : Val.pshow ⟨kb, nb, tb.data.toList⟩ = ⟨0, 0, (⟨#[]⟩ : ByteArray).data.toList⟩ := Val.pshow_not (.inr h2)
      exact cconcat_null1 _ _ _ _ _ _ w hL ha hb _ _ _ (Lib.hid e1) (Lib.hid e2)
    · obtain ⟨s2, e2, _⟩ := pshow_may hm2 hb h2
      exact cconcat_null1 _ _ _ _ _ _ w hL ha hb _ _ _ (Lib.hid e1) (Lib.hid e2)
  · obtain ⟨s1, e1, l1⟩ := pshow_may hm1 ha h1
    by_cases h2 : kb = 0
    · rw [if_pos (.inr h2)] at hv'
      obtain ⟨rfl, rfl, rfl⟩ := hz hv'
      have e2 : Val.pshow ⟨kb, nb, tb.data.toList⟩ = ⟨0, 0, (⟨#[]⟩ : ByteArray).data.toList⟩ := Val.pshow_not (.inr h2)
      exact cconcat_null2 _ _ _ _ _ _ w hL ha hb _ _ (Lib.hid e1) (Lib.hid e2)
    · obtain ⟨s2, e2, l2⟩ := pshow_may hm2 hb h2
      rw [if_neg (by rintro (h | h) <;> contradiction), e1, e2] at hv'
      simp only at hv'
      rw [← append_data, Val.ptext] at hv'
      have hsz : (s1 ++ s2).data.toList.length = s1.size + s2.size := by
        have : (s1 ++ s2).data.toList.length = (s1 ++ s2).size := rfl
        rw [this, ByteArray.size_append]
      rw [hsz] at hv'
      by_cases h4 : 400 < s1.size + s2.size
      · rw [if_pos h4] at hv'
        obtain ⟨rfl, rfl, rfl⟩ := hz hv'
        exact cconcat_long _ _ _ _ _ _ w hL ha hb s1 s2 (Lib.hid e1) (Lib.hid e2) h4 (by omega)
      · rw [if_neg h4] at hv'
        simp only [Val.V.mk.injEq] at hv'
        obtain ⟨rfl, rfl, ht⟩ := hv'
        have := bytes_inj' ht
        subst this
        exact cconcat_ok _ _ _ _ _ _ w hL ha hb s1 s2 (Lib.hid e1) (Lib.hid e2) (by omega)
set_option maxHeartbeats 1000000 in
theorem does_concat (ka na : Int) (ta : ByteArray) (kb nb : Int) (tb : ByteArray) (c : Int) (ha : Val.inr na) (hb : Val.inr nb) (hm1 : Val.may ⟨ka, na, ta.data.toList⟩ = true) (hm2 : Val.may ⟨kb, nb, tb.data.toList⟩ = true) (k n : Int) (t : ByteArray) (hv : Hid (Val.makes 12 ⟨ka, na, ta.data.toList⟩ ⟨kb, nb, tb.data.toList⟩ c = ⟨k, n, t.data.toList⟩)) (w0 : World) : Calls Tryz.prog 56 #[.int .i64 12, .int .i64 c] w0 (Does0 85 ka na ta kb nb tb k n t w0) := by
  go_enter Tryz.func56, Tryz.ntmps56
  go_wp2
  go_ret
  exact ⟨rfl, fun W hW hL => cconcat_is _ _ _ _ _ _ c W hL ha hb hm1 hm2 k n t hv, below_new w0 _⟩
/-- WHAT 'compared' MAKES OF A COMPARISON -/
theorem compared_is (op : Int) (hop : 13 ≤ op ∧ op ≤ 18) (fid : Nat) (eg : ∀ args w, (callFunc fid args).run Tryz.prog w = .ok (.enter fid args) w) (hf : ∀ r w, Calls Tryz.prog fid #[.int .i64 r] w fun e w' => e = .returned (.bool (Val.compare op r)) ∧ w = w') (ka na : Int) (ta : ByteArray) (kb nb : Int) (tb : ByteArray) (c : Int) (ha : Val.inr na) (hb : Val.inr nb) (hm1 : Val.may ⟨ka, na, ta.data.toList⟩ = true) (hm2 : Val.may ⟨kb, nb, tb.data.toList⟩ = true) (k n : Int) (hv : Hid (Val.makes op ⟨ka, na, ta.data.toList⟩ ⟨kb, nb, tb.data.toList⟩ c = ⟨k, n, []⟩)) (g1 g2 : Nat) (w : World) (hg1 : w.cell? ⟨g1, 0, none⟩ = some (.func (Fn.func fid) #[] #[])) (hg2 : w.cell? ⟨g2, 0, none⟩ = some (.int .i64 c)) (l1 : g1 < w.heap.size) (l2 : g2 < w.heap.size) :
    Calls Tryz.prog 122 #[.agg #[.int .i64 ka, .int .i64 na, .string ta], .agg #[.int .i64 kb, .int .i64 nb, .string tb], .pointer (some ⟨g1, 0, none⟩), .pointer (some ⟨g2, 0, none⟩)] w (VRet k n ⟨#[]⟩ w) := by
  have hv' := (makes_cmp hop).symm.trans hv.out
  simp only at hv'
  have s1 := may_len hm1
  have s2 := may_len hm2
  have hp := fun w' => hf (Val.cmp ⟨ka, na, ta.data.toList⟩ ⟨kb, nb, tb.data.toList⟩ c) w'
  by_cases h1 : ka = 0
  · rw [if_pos (.inl h1)] at hv'
    obtain ⟨rfl, rfl⟩ := mk_zero' hv'
    exact compared_null1 fid eg _ _ _ _ _ _ c g1 g2 w hg1 hg2 l1 l2 (by omega) (by omega) _ (Lib.hid rfl) _ hp h1
  · by_cases h2 : kb = 0
    · rw [if_pos (.inr h2)] at hv'
      obtain ⟨rfl, rfl⟩ := mk_zero' hv'
      exact compared_null2 fid eg _ _ _ _ _ _ c g1 g2 w hg1 hg2 l1 l2 (by omega) (by omega) _ (Lib.hid rfl) _ hp h1 h2
    · rw [if_neg (by rintro (h | h) <;> contradiction)] at hv'
      simp only [Val.pbool, Val.V.mk.injEq, and_true] at hv'
      obtain ⟨rfl, hn⟩ := hv'
      exact compared_yes fid eg _ _ _ _ _ _ c g1 g2 w hg1 hg2 l1 l2 (by omega) (by omega) _ (Lib.hid rfl) _ hp h1 h2 _ (Lib.hid hn)
set_option maxHeartbeats 1000000 in
theorem does_13 (ka na : Int) (ta : ByteArray) (kb nb : Int) (tb : ByteArray) (c : Int) (ha : Val.inr na) (hb : Val.inr nb) (hm1 : Val.may ⟨ka, na, ta.data.toList⟩ = true) (hm2 : Val.may ⟨kb, nb, tb.data.toList⟩ = true) (k n : Int) (hv : Hid (Val.makes 13 ⟨ka, na, ta.data.toList⟩ ⟨kb, nb, tb.data.toList⟩ c = ⟨k, n, []⟩)) (w0 : World) : Calls Tryz.prog 56 #[.int .i64 13, .int .i64 c] w0 (Does2 122 ka na ta kb nb tb k n ⟨#[]⟩ w0) := by
  go_enter Tryz.func56, Tryz.ntmps56
  go_wp2_with (go_at_call 86; refine (compared_any _ _ _).mono ?_; rintro e w1 ⟨g1, g2, rfl, hg1, hg2, l1, l2, hb1⟩)
  go_ret
  exact ⟨g1, g2, rfl, fun W hW hL => compared_is 13 (by decide) 87 (fun _ _ => by kernel_rfl) (fun r w => does1_any r w) _ _ _ _ _ _ c ha hb hm1 hm2 k n hv g1 g2 W ((hW.cell (p := ⟨g1, 0, none⟩) l1).trans hg1) ((hW.cell (p := ⟨g2, 0, none⟩) l2).trans hg2) (Nat.lt_of_lt_of_le l1 hW.size) (Nat.lt_of_lt_of_le l2 hW.size), ((below_new w0 _).trans (hb1.mono (below_new w0 _).size))⟩
set_option maxHeartbeats 1000000 in
theorem does_14 (ka na : Int) (ta : ByteArray) (kb nb : Int) (tb : ByteArray) (c : Int) (ha : Val.inr na) (hb : Val.inr nb) (hm1 : Val.may ⟨ka, na, ta.data.toList⟩ = true) (hm2 : Val.may ⟨kb, nb, tb.data.toList⟩ = true) (k n : Int) (hv : Hid (Val.makes 14 ⟨ka, na, ta.data.toList⟩ ⟨kb, nb, tb.data.toList⟩ c = ⟨k, n, []⟩)) (w0 : World) : Calls Tryz.prog 56 #[.int .i64 14, .int .i64 c] w0 (Does2 122 ka na ta kb nb tb k n ⟨#[]⟩ w0) := by
  go_enter Tryz.func56, Tryz.ntmps56
  go_wp2_with (go_at_call 86; refine (compared_any _ _ _).mono ?_; rintro e w1 ⟨g1, g2, rfl, hg1, hg2, l1, l2, hb1⟩)
  go_ret
  exact ⟨g1, g2, rfl, fun W hW hL => compared_is 14 (by decide) 88 (fun _ _ => by kernel_rfl) (fun r w => does2_any r w) _ _ _ _ _ _ c ha hb hm1 hm2 k n hv g1 g2 W ((hW.cell (p := ⟨g1, 0, none⟩) l1).trans hg1) ((hW.cell (p := ⟨g2, 0, none⟩) l2).trans hg2) (Nat.lt_of_lt_of_le l1 hW.size) (Nat.lt_of_lt_of_le l2 hW.size), ((below_new w0 _).trans (hb1.mono (below_new w0 _).size))⟩
set_option maxHeartbeats 1000000 in
theorem does_15 (ka na : Int) (ta : ByteArray) (kb nb : Int) (tb : ByteArray) (c : Int) (ha : Val.inr na) (hb : Val.inr nb) (hm1 : Val.may ⟨ka, na, ta.data.toList⟩ = true) (hm2 : Val.may ⟨kb, nb, tb.data.toList⟩ = true) (k n : Int) (hv : Hid (Val.makes 15 ⟨ka, na, ta.data.toList⟩ ⟨kb, nb, tb.data.toList⟩ c = ⟨k, n, []⟩)) (w0 : World) : Calls Tryz.prog 56 #[.int .i64 15, .int .i64 c] w0 (Does2 122 ka na ta kb nb tb k n ⟨#[]⟩ w0) := by
  go_enter Tryz.func56, Tryz.ntmps56
  go_wp2_with (go_at_call 86; refine (compared_any _ _ _).mono ?_; rintro e w1 ⟨g1, g2, rfl, hg1, hg2, l1, l2, hb1⟩)
  go_ret
  exact ⟨g1, g2, rfl, fun W hW hL => compared_is 15 (by decide) 89 (fun _ _ => by kernel_rfl) (fun r w => does3_any r w) _ _ _ _ _ _ c ha hb hm1 hm2 k n hv g1 g2 W ((hW.cell (p := ⟨g1, 0, none⟩) l1).trans hg1) ((hW.cell (p := ⟨g2, 0, none⟩) l2).trans hg2) (Nat.lt_of_lt_of_le l1 hW.size) (Nat.lt_of_lt_of_le l2 hW.size), ((below_new w0 _).trans (hb1.mono (below_new w0 _).size))⟩
set_option maxHeartbeats 1000000 in
theorem does_16 (ka na : Int) (ta : ByteArray) (kb nb : Int) (tb : ByteArray) (c : Int) (ha : Val.inr na) (hb : Val.inr nb) (hm1 : Val.may ⟨ka, na, ta.data.toList⟩ = true) (hm2 : Val.may ⟨kb, nb, tb.data.toList⟩ = true) (k n : Int) (hv : Hid (Val.makes 16 ⟨ka, na, ta.data.toList⟩ ⟨kb, nb, tb.data.toList⟩ c = ⟨k, n, []⟩)) (w0 : World) : Calls Tryz.prog 56 #[.int .i64 16, .int .i64 c] w0 (Does2 122 ka na ta kb nb tb k n ⟨#[]⟩ w0) := by
  go_enter Tryz.func56, Tryz.ntmps56
  go_wp2_with (go_at_call 86; refine (compared_any _ _ _).mono ?_; rintro e w1 ⟨g1, g2, rfl, hg1, hg2, l1, l2, hb1⟩)
  go_ret
  exact ⟨g1, g2, rfl, fun W hW hL => compared_is 16 (by decide) 90 (fun _ _ => by kernel_rfl) (fun r w => does4_any r w) _ _ _ _ _ _ c ha hb hm1 hm2 k n hv g1 g2 W ((hW.cell (p := ⟨g1, 0, none⟩) l1).trans hg1) ((hW.cell (p := ⟨g2, 0, none⟩) l2).trans hg2) (Nat.lt_of_lt_of_le l1 hW.size) (Nat.lt_of_lt_of_le l2 hW.size), ((below_new w0 _).trans (hb1.mono (below_new w0 _).size))⟩
set_option maxHeartbeats 1000000 in
theorem does_17 (ka na : Int) (ta : ByteArray) (kb nb : Int) (tb : ByteArray) (c : Int) (ha : Val.inr na) (hb : Val.inr nb) (hm1 : Val.may ⟨ka, na, ta.data.toList⟩ = true) (hm2 : Val.may ⟨kb, nb, tb.data.toList⟩ = true) (k n : Int) (hv : Hid (Val.makes 17 ⟨ka, na, ta.data.toList⟩ ⟨kb, nb, tb.data.toList⟩ c = ⟨k, n, []⟩)) (w0 : World) : Calls Tryz.prog 56 #[.int .i64 17, .int .i64 c] w0 (Does2 122 ka na ta kb nb tb k n ⟨#[]⟩ w0) := by
  go_enter Tryz.func56, Tryz.ntmps56
  go_wp2_with (go_at_call 86; refine (compared_any _ _ _).mono ?_; rintro e w1 ⟨g1, g2, rfl, hg1, hg2, l1, l2, hb1⟩)
  go_ret
  exact ⟨g1, g2, rfl, fun W hW hL => compared_is 17 (by decide) 91 (fun _ _ => by kernel_rfl) (fun r w => does5_any r w) _ _ _ _ _ _ c ha hb hm1 hm2 k n hv g1 g2 W ((hW.cell (p := ⟨g1, 0, none⟩) l1).trans hg1) ((hW.cell (p := ⟨g2, 0, none⟩) l2).trans hg2) (Nat.lt_of_lt_of_le l1 hW.size) (Nat.lt_of_lt_of_le l2 hW.size), ((below_new w0 _).trans (hb1.mono (below_new w0 _).size))⟩
set_option maxHeartbeats 1000000 in
theorem does_18 (ka na : Int) (ta : ByteArray) (kb nb : Int) (tb : ByteArray) (c : Int) (ha : Val.inr na) (hb : Val.inr nb) (hm1 : Val.may ⟨ka, na, ta.data.toList⟩ = true) (hm2 : Val.may ⟨kb, nb, tb.data.toList⟩ = true) (k n : Int) (hv : Hid (Val.makes 18 ⟨ka, na, ta.data.toList⟩ ⟨kb, nb, tb.data.toList⟩ c = ⟨k, n, []⟩)) (w0 : World) : Calls Tryz.prog 56 #[.int .i64 18, .int .i64 c] w0 (Does2 122 ka na ta kb nb tb k n ⟨#[]⟩ w0) := by
  go_enter Tryz.func56, Tryz.ntmps56
  go_wp2_with (go_at_call 86; refine (compared_any _ _ _).mono ?_; rintro e w1 ⟨g1, g2, rfl, hg1, hg2, l1, l2, hb1⟩)
  go_ret
  exact ⟨g1, g2, rfl, fun W hW hL => compared_is 18 (by decide) 92 (fun _ _ => by kernel_rfl) (fun r w => does6_any r w) _ _ _ _ _ _ c ha hb hm1 hm2 k n hv g1 g2 W ((hW.cell (p := ⟨g1, 0, none⟩) l1).trans hg1) ((hW.cell (p := ⟨g2, 0, none⟩) l2).trans hg2) (Nat.lt_of_lt_of_le l1 hW.size) (Nat.lt_of_lt_of_le l2 hW.size), ((below_new w0 _).trans (hb1.mono (below_new w0 _).size))⟩
set_option maxHeartbeats 1000000 in
theorem does_19 (ka na : Int) (ta : ByteArray) (kb nb : Int) (tb : ByteArray) (c : Int) (ha : Val.inr na) (hb : Val.inr nb) (hm1 : Val.may ⟨ka, na, ta.data.toList⟩ = true) (hm2 : Val.may ⟨kb, nb, tb.data.toList⟩ = true) (k n : Int) (hv : Hid (Val.makes 19 ⟨ka, na, ta.data.toList⟩ ⟨kb, nb, tb.data.toList⟩ c = ⟨k, n, []⟩)) (w0 : World) : Calls Tryz.prog 56 #[.int .i64 19, .int .i64 c] w0 (Does1 93 ka na ta kb nb tb k n ⟨#[]⟩ w0) := by
  have hv' := (makes_is (op := 19) (by decide)).symm.trans hv.out
  simp only [Val.pbool, Val.V.mk.injEq, and_true] at hv'
  obtain ⟨rfl, hn⟩ := hv'
  have s1 := may_len hm1
  have s2 := may_len hm2
  replace hn := Lib.hid hn
  clear hv
  go_enter Tryz.func56, Tryz.ntmps56
  go_wp2
  go_ret
  exact ⟨w0.heap.size, rfl, fun W hW hL => does7_is _ _ _ _ _ _ c w0.heap.size W ((hW.cell (p := ⟨w0.heap.size, 0, none⟩) (by simp)).trans (heap_first w0 c)) (Nat.lt_of_lt_of_le (by simp) hW.size) (by omega) (by omega) _ hn, below_new w0 _⟩
set_option maxHeartbeats 1000000 in
theorem does_20 (ka na : Int) (ta : ByteArray) (kb nb : Int) (tb : ByteArray) (c : Int) (ha : Val.inr na) (hb : Val.inr nb) (hm1 : Val.may ⟨ka, na, ta.data.toList⟩ = true) (hm2 : Val.may ⟨kb, nb, tb.data.toList⟩ = true) (k n : Int) (hv : Hid (Val.makes 20 ⟨ka, na, ta.data.toList⟩ ⟨kb, nb, tb.data.toList⟩ c = ⟨k, n, []⟩)) (w0 : World) : Calls Tryz.prog 56 #[.int .i64 20, .int .i64 c] w0 (Does1 94 ka na ta kb nb tb k n ⟨#[]⟩ w0) := by
  have hv' := (makes_is (op := 20) (by decide)).symm.trans hv.out
  simp only [Val.pbool, Val.V.mk.injEq, and_true] at hv'
  obtain ⟨rfl, hn⟩ := hv'
  have s1 := may_len hm1
  have s2 := may_len hm2
  replace hn := Lib.hid hn
  clear hv
  go_enter Tryz.func56, Tryz.ntmps56
  go_wp2
  go_ret
  exact ⟨w0.heap.size, rfl, fun W hW hL => does8_is _ _ _ _ _ _ c w0.heap.size W ((hW.cell (p := ⟨w0.heap.size, 0, none⟩) (by simp)).trans (heap_first w0 c)) (Nat.lt_of_lt_of_le (by simp) hW.size) (by omega) (by omega) _ hn, below_new w0 _⟩
set_option maxHeartbeats 1000000 in
theorem does_21 (ka na : Int) (ta : ByteArray) (kb nb : Int) (tb : ByteArray) (c : Int) (ha : Val.inr na) (hb : Val.inr nb) (hm1 : Val.may ⟨ka, na, ta.data.toList⟩ = true) (hm2 : Val.may ⟨kb, nb, tb.data.toList⟩ = true) (k n : Int) (hv : Hid (Val.makes 21 ⟨ka, na, ta.data.toList⟩ ⟨kb, nb, tb.data.toList⟩ c = ⟨k, n, []⟩)) (w0 : World) : Calls Tryz.prog 56 #[.int .i64 21, .int .i64 c] w0 (Does1 123 ka na ta kb nb tb k n ⟨#[]⟩ w0) := by
  have hv' := hv.out
  rw [Val.makes, if_neg (by decide), if_neg (by decide), if_pos rfl] at hv'
  replace hv' := Lib.hid hv'
  clear hv
  go_enter Tryz.func56, Tryz.ntmps56
  go_wp2_with (go_at_call 95; refine (logic_any _ _).mono ?_; rintro e w1 ⟨g, rfl, hg, hgl, hb1⟩)
  go_ret
  exact ⟨g, rfl, fun W hW hL => logic_is false 0 (by decide) _ _ _ _ _ _ g W hL ha hb ((hW.cell (p := ⟨g, 0, none⟩) hgl).trans hg) (Nat.lt_of_lt_of_le hgl hW.size) _ _ (Lib.hid rfl) (Lib.hid rfl) k n hv', ((below_new w0 _).trans (hb1.mono (below_new w0 _).size))⟩
set_option maxHeartbeats 1000000 in
theorem does_22 (ka na : Int) (ta : ByteArray) (kb nb : Int) (tb : ByteArray) (c : Int) (ha : Val.inr na) (hb : Val.inr nb) (hm1 : Val.may ⟨ka, na, ta.data.toList⟩ = true) (hm2 : Val.may ⟨kb, nb, tb.data.toList⟩ = true) (k n : Int) (hv : Hid (Val.makes 22 ⟨ka, na, ta.data.toList⟩ ⟨kb, nb, tb.data.toList⟩ c = ⟨k, n, []⟩)) (w0 : World) : Calls Tryz.prog 56 #[.int .i64 22, .int .i64 c] w0 (Does1 123 ka na ta kb nb tb k n ⟨#[]⟩ w0) := by
  have hv' := hv.out
  rw [Val.makes, if_neg (by decide), if_neg (by decide), if_neg (by decide), if_pos rfl] at hv'
  replace hv' := Lib.hid hv'
  clear hv
  go_enter Tryz.func56, Tryz.ntmps56
  go_wp2_with (go_at_call 95; refine (logic_any _ _).mono ?_; rintro e w1 ⟨g, rfl, hg, hgl, hb1⟩)
  go_ret
  exact ⟨g, rfl, fun W hW hL => logic_is true 1 (by decide) _ _ _ _ _ _ g W hL ha hb ((hW.cell (p := ⟨g, 0, none⟩) hgl).trans hg) (Nat.lt_of_lt_of_le hgl hW.size) _ _ (Lib.hid rfl) (Lib.hid rfl) k n hv', ((below_new w0 _).trans (hb1.mono (below_new w0 _).size))⟩
theorem does_none (op c : Int) (h : ¬ (7 ≤ op ∧ op ≤ 22)) (w0 : World) : Calls Tryz.prog 56 #[.int .i64 op, .int .i64 c] w0 fun e w' => e = .returned .nilFunc ∧ Below w0.heap.size w0 w' := by
  have b7 : (op == 7) = false := by simp; omega
  have b8 : (op == 8) = false := by simp; omega
  have b9 : (op == 9) = false := by simp; omega
  have b10 : (op == 10) = false := by simp; omega
  have b11 : (op == 11) = false := by simp; omega
  have b12 : (op == 12) = false := by simp; omega
  have b13 : (op == 13) = false := by simp; omega
  have b14 : (op == 14) = false := by simp; omega
  have b15 : (op == 15) = false := by simp; omega
  have b16 : (op == 16) = false := by simp; omega
  have b17 : (op == 17) = false := by simp; omega
  have b18 : (op == 18) = false := by simp; omega
  have b19 : (op == 19) = false := by simp; omega
  have b20 : (op == 20) = false := by simp; omega
  have b21 : (op == 21) = false := by simp; omega
  have b22 : (op == 22) = false := by simp; omega
  clear h
  go_enter Tryz.func56, Tryz.ntmps56
  go_wp2
  go_ret
  exact ⟨rfl, below_new w0 _⟩
set_option maxHeartbeats 2000000 in
theorem cbinary_none (op : Int) (ka na : Int) (ta : ByteArray) (kb nb : Int) (tb : ByteArray) (c : Int) (w : World) (h : ¬ (7 ≤ op ∧ op ≤ 22)) :
    Calls Tryz.prog 20 #[.int .i64 op, .agg #[.int .i64 ka, .int .i64 na, .string ta], .agg #[.int .i64 kb, .int .i64 nb, .string tb], .int .i64 c] w (VRet2 0 0 ⟨#[]⟩ 130 w) := by
  have hS := start3 w (.int .i64 ka) (.int .i64 na) (.string ta) (.int .i64 kb) (.int .i64 nb) (.string tb) (.int .i64 0) (.int .i64 0) (.string ⟨#[]⟩) 24 24 24
  have fnn := nil_nil
  go_enter Tryz.func20, Tryz.ntmps20
  go_wp2_with (first
    | (go_at_call 56; refine (does_none _ _ h _).mono ?_; rintro e w1 ⟨rfl, hb1⟩; have hS1 := keep3 hS hb1)
    | (go_at_call 38; refine (cnull_any _).mono ?_; rintro e w2 ⟨rfl, hb2⟩; have hS2 := keep3 hS1 hb2; obtain ⟨cb0, cb1, cb2, cb3, cb4, cb5, cb6, cb7, cb8, cb9, cb10, cb11, cb12, cb13, cb14, cb15, cb16, cb17, hz2, hB2⟩ := id hS2))
  exact bodyPost_ret (v := .tuple #[.agg #[.int .i64 0, .int .i64 0, .string ⟨#[]⟩], .int .i64 130]) (by simp only [results, Tryz.results20]; go_simp) rfl ⟨rfl, below_setg hB2 (by omega)⟩
set_option maxHeartbeats 2000000 in
theorem cbinary_bad1_0 (op : Int) (fid : Nat) (ka na : Int) (ta : ByteArray) (kb nb : Int) (tb : ByteArray) (c : Int) (w : World) (hm1 : Val.may ⟨ka, na, ta.data.toList⟩ = false) (hd : ∀ w0, Calls Tryz.prog 56 #[.int .i64 op, .int .i64 c] w0 fun e w' => e = .returned (.func (Fn.func fid) #[] #[]) ∧ Below w0.heap.size w0 w') :
    Calls Tryz.prog 20 #[.int .i64 op, .agg #[.int .i64 ka, .int .i64 na, .string ta], .agg #[.int .i64 kb, .int .i64 nb, .string tb], .int .i64 c] w (VRet2 0 0 ⟨#[]⟩ 2 w) := by
  have hS := start3 w (.int .i64 ka) (.int .i64 na) (.string ta) (.int .i64 kb) (.int .i64 nb) (.string tb) (.int .i64 0) (.int .i64 0) (.string ⟨#[]⟩) 24 24 24
  have fnn := func_not_nil
  replace hm1 := Lib.hid hm1
  go_enter Tryz.func20, Tryz.ntmps20
  go_wp2_with (first
    | (go_at_call 56; refine (hd _).mono ?_; rintro e w1 ⟨rfl, hb1⟩; have hS1 := keep3 hS hb1; obtain ⟨ca0, ca1, ca2, ca3, ca4, ca5, ca6, ca7, ca8, ca9, ca10, ca11, ca12, ca13, ca14, ca15, ca16, ca17, hz, hB⟩ := id hS1)
    | (go_at_call 37; (refine (may_is _ _ _ _ hm1).mono ?_; rintro e w2 ⟨rfl, hb2⟩; have hS2 := keep3 hS1 hb2; obtain ⟨cb0, cb1, cb2, cb3, cb4, cb5, cb6, cb7, cb8, cb9, cb10, cb11, cb12, cb13, cb14, cb15, cb16, cb17, hz2, hB2⟩ := id hS2))
    | (go_at_call 38; refine (cnull_any _).mono ?_; rintro e w4 ⟨rfl, hb4⟩; have hS4 := keep3 hS2 hb4; obtain ⟨cd0, cd1, cd2, cd3, cd4, cd5, cd6, cd7, cd8, cd9, cd10, cd11, cd12, cd13, cd14, cd15, cd16, cd17, hz4, hB4⟩ := id hS4))
  exact bodyPost_ret (v := .tuple #[.agg #[.int .i64 0, .int .i64 0, .string ⟨#[]⟩], .int .i64 2]) (by simp only [results, Tryz.results20]; go_simp) rfl ⟨rfl, below_setg hB4 (by omega)⟩
set_option maxHeartbeats 2000000 in
theorem cbinary_bad1_1 (op : Int) (fid : Nat) (ka na : Int) (ta : ByteArray) (kb nb : Int) (tb : ByteArray) (c : Int) (w : World) (hm1 : Val.may ⟨ka, na, ta.data.toList⟩ = false) (hd : ∀ w0, Calls Tryz.prog 56 #[.int .i64 op, .int .i64 c] w0 fun e w' => ∃ g1, e = .returned (.func (Fn.func fid) #[] #[.pointer (some ⟨g1, 0, none⟩)]) ∧ Below w0.heap.size w0 w') :
    Calls Tryz.prog 20 #[.int .i64 op, .agg #[.int .i64 ka, .int .i64 na, .string ta], .agg #[.int .i64 kb, .int .i64 nb, .string tb], .int .i64 c] w (VRet2 0 0 ⟨#[]⟩ 2 w) := by
  have hS := start3 w (.int .i64 ka) (.int .i64 na) (.string ta) (.int .i64 kb) (.int .i64 nb) (.string tb) (.int .i64 0) (.int .i64 0) (.string ⟨#[]⟩) 24 24 24
  have fnn := func_not_nil
  replace hm1 := Lib.hid hm1
  go_enter Tryz.func20, Tryz.ntmps20
  go_wp2_with (first
    | (go_at_call 56; refine (hd _).mono ?_; rintro e w1 ⟨g1, rfl, hb1⟩; have hS1 := keep3 hS hb1; obtain ⟨ca0, ca1, ca2, ca3, ca4, ca5, ca6, ca7, ca8, ca9, ca10, ca11, ca12, ca13, ca14, ca15, ca16, ca17, hz, hB⟩ := id hS1)
    | (go_at_call 37; (refine (may_is _ _ _ _ hm1).mono ?_; rintro e w2 ⟨rfl, hb2⟩; have hS2 := keep3 hS1 hb2; obtain ⟨cb0, cb1, cb2, cb3, cb4, cb5, cb6, cb7, cb8, cb9, cb10, cb11, cb12, cb13, cb14, cb15, cb16, cb17, hz2, hB2⟩ := id hS2))
    | (go_at_call 38; refine (cnull_any _).mono ?_; rintro e w4 ⟨rfl, hb4⟩; have hS4 := keep3 hS2 hb4; obtain ⟨cd0, cd1, cd2, cd3, cd4, cd5, cd6, cd7, cd8, cd9, cd10, cd11, cd12, cd13, cd14, cd15, cd16, cd17, hz4, hB4⟩ := id hS4))
  exact bodyPost_ret (v := .tuple #[.agg #[.int .i64 0, .int .i64 0, .string ⟨#[]⟩], .int .i64 2]) (by simp only [results, Tryz.results20]; go_simp) rfl ⟨rfl, below_setg hB4 (by omega)⟩
set_option maxHeartbeats 2000000 in
theorem cbinary_bad1_2 (op : Int) (fid : Nat) (ka na : Int) (ta : ByteArray) (kb nb : Int) (tb : ByteArray) (c : Int) (w : World) (hm1 : Val.may ⟨ka, na, ta.data.toList⟩ = false) (hd : ∀ w0, Calls Tryz.prog 56 #[.int .i64 op, .int .i64 c] w0 fun e w' => ∃ g1 g2, e = .returned (.func (Fn.func fid) #[] #[.pointer (some ⟨g1, 0, none⟩), .pointer (some ⟨g2, 0, none⟩)]) ∧ Below w0.heap.size w0 w') :
    Calls Tryz.prog 20 #[.int .i64 op, .agg #[.int .i64 ka, .int .i64 na, .string ta], .agg #[.int .i64 kb, .int .i64 nb, .string tb], .int .i64 c] w (VRet2 0 0 ⟨#[]⟩ 2 w) := by
  have hS := start3 w (.int .i64 ka) (.int .i64 na) (.string ta) (.int .i64 kb) (.int .i64 nb) (.string tb) (.int .i64 0) (.int .i64 0) (.string ⟨#[]⟩) 24 24 24
  have fnn := func_not_nil
  replace hm1 := Lib.hid hm1
  go_enter Tryz.func20, Tryz.ntmps20
  go_wp2_with (first
    | (go_at_call 56; refine (hd _).mono ?_; rintro e w1 ⟨g1, g2, rfl, hb1⟩; have hS1 := keep3 hS hb1; obtain ⟨ca0, ca1, ca2, ca3, ca4, ca5, ca6, ca7, ca8, ca9, ca10, ca11, ca12, ca13, ca14, ca15, ca16, ca17, hz, hB⟩ := id hS1)
    | (go_at_call 37; (refine (may_is _ _ _ _ hm1).mono ?_; rintro e w2 ⟨rfl, hb2⟩; have hS2 := keep3 hS1 hb2; obtain ⟨cb0, cb1, cb2, cb3, cb4, cb5, cb6, cb7, cb8, cb9, cb10, cb11, cb12, cb13, cb14, cb15, cb16, cb17, hz2, hB2⟩ := id hS2))
    | (go_at_call 38; refine (cnull_any _).mono ?_; rintro e w4 ⟨rfl, hb4⟩; have hS4 := keep3 hS2 hb4; obtain ⟨cd0, cd1, cd2, cd3, cd4, cd5, cd6, cd7, cd8, cd9, cd10, cd11, cd12, cd13, cd14, cd15, cd16, cd17, hz4, hB4⟩ := id hS4))
  exact bodyPost_ret (v := .tuple #[.agg #[.int .i64 0, .int .i64 0, .string ⟨#[]⟩], .int .i64 2]) (by simp only [results, Tryz.results20]; go_simp) rfl ⟨rfl, below_setg hB4 (by omega)⟩
set_option maxHeartbeats 2000000 in
theorem cbinary_bad2_0 (op : Int) (fid : Nat) (ka na : Int) (ta : ByteArray) (kb nb : Int) (tb : ByteArray) (c : Int) (w : World) (hm1 : Val.may ⟨ka, na, ta.data.toList⟩ = true) (hm2 : Val.may ⟨kb, nb, tb.data.toList⟩ = false) (hd : ∀ w0, Calls Tryz.prog 56 #[.int .i64 op, .int .i64 c] w0 fun e w' => e = .returned (.func (Fn.func fid) #[] #[]) ∧ Below w0.heap.size w0 w') :
    Calls Tryz.prog 20 #[.int .i64 op, .agg #[.int .i64 ka, .int .i64 na, .string ta], .agg #[.int .i64 kb, .int .i64 nb, .string tb], .int .i64 c] w (VRet2 0 0 ⟨#[]⟩ 2 w) := by
  have hS := start3 w (.int .i64 ka) (.int .i64 na) (.string ta) (.int .i64 kb) (.int .i64 nb) (.string tb) (.int .i64 0) (.int .i64 0) (.string ⟨#[]⟩) 24 24 24
  have fnn := func_not_nil
  replace hm1 := Lib.hid hm1
  replace hm2 := Lib.hid hm2
  go_enter Tryz.func20, Tryz.ntmps20
  go_wp2_with (first
    | (go_at_call 56; refine (hd _).mono ?_; rintro e w1 ⟨rfl, hb1⟩; have hS1 := keep3 hS hb1; obtain ⟨ca0, ca1, ca2, ca3, ca4, ca5, ca6, ca7, ca8, ca9, ca10, ca11, ca12, ca13, ca14, ca15, ca16, ca17, hz, hB⟩ := id hS1)
    | (go_at_call 37; first | (have hq := hS2; refine (may_is _ _ _ _ hm2).mono ?_; rintro e w3 ⟨rfl, hb3⟩; have hS3 := keep3 hS2 hb3; obtain ⟨cc0, cc1, cc2, cc3, cc4, cc5, cc6, cc7, cc8, cc9, cc10, cc11, cc12, cc13, cc14, cc15, cc16, cc17, hz3, hB3⟩ := id hS3) | (refine (may_is _ _ _ _ hm1).mono ?_; rintro e w2 ⟨rfl, hb2⟩; have hS2 := keep3 hS1 hb2; obtain ⟨cb0, cb1, cb2, cb3, cb4, cb5, cb6, cb7, cb8, cb9, cb10, cb11, cb12, cb13, cb14, cb15, cb16, cb17, hz2, hB2⟩ := id hS2))
    | (go_at_call 38; refine (cnull_any _).mono ?_; rintro e w4 ⟨rfl, hb4⟩; have hS4 := keep3 hS3 hb4; obtain ⟨cd0, cd1, cd2, cd3, cd4, cd5, cd6, cd7, cd8, cd9, cd10, cd11, cd12, cd13, cd14, cd15, cd16, cd17, hz4, hB4⟩ := id hS4))
  exact bodyPost_ret (v := .tuple #[.agg #[.int .i64 0, .int .i64 0, .string ⟨#[]⟩], .int .i64 2]) (by simp only [results, Tryz.results20]; go_simp) rfl ⟨rfl, below_setg hB4 (by omega)⟩
set_option maxHeartbeats 2000000 in
theorem cbinary_bad2_1 (op : Int) (fid : Nat) (ka na : Int) (ta : ByteArray) (kb nb : Int) (tb : ByteArray) (c : Int) (w : World) (hm1 : Val.may ⟨ka, na, ta.data.toList⟩ = true) (hm2 : Val.may ⟨kb, nb, tb.data.toList⟩ = false) (hd : ∀ w0, Calls Tryz.prog 56 #[.int .i64 op, .int .i64 c] w0 fun e w' => ∃ g1, e = .returned (.func (Fn.func fid) #[] #[.pointer (some ⟨g1, 0, none⟩)]) ∧ Below w0.heap.size w0 w') :
    Calls Tryz.prog 20 #[.int .i64 op, .agg #[.int .i64 ka, .int .i64 na, .string ta], .agg #[.int .i64 kb, .int .i64 nb, .string tb], .int .i64 c] w (VRet2 0 0 ⟨#[]⟩ 2 w) := by
  have hS := start3 w (.int .i64 ka) (.int .i64 na) (.string ta) (.int .i64 kb) (.int .i64 nb) (.string tb) (.int .i64 0) (.int .i64 0) (.string ⟨#[]⟩) 24 24 24
  have fnn := func_not_nil
  replace hm1 := Lib.hid hm1
  replace hm2 := Lib.hid hm2
  go_enter Tryz.func20, Tryz.ntmps20
  go_wp2_with (first
    | (go_at_call 56; refine (hd _).mono ?_; rintro e w1 ⟨g1, rfl, hb1⟩; have hS1 := keep3 hS hb1; obtain ⟨ca0, ca1, ca2, ca3, ca4, ca5, ca6, ca7, ca8, ca9, ca10, ca11, ca12, ca13, ca14, ca15, ca16, ca17, hz, hB⟩ := id hS1)
    | (go_at_call 37; first | (have hq := hS2; refine (may_is _ _ _ _ hm2).mono ?_; rintro e w3 ⟨rfl, hb3⟩; have hS3 := keep3 hS2 hb3; obtain ⟨cc0, cc1, cc2, cc3, cc4, cc5, cc6, cc7, cc8, cc9, cc10, cc11, cc12, cc13, cc14, cc15, cc16, cc17, hz3, hB3⟩ := id hS3) | (refine (may_is _ _ _ _ hm1).mono ?_; rintro e w2 ⟨rfl, hb2⟩; have hS2 := keep3 hS1 hb2; obtain ⟨cb0, cb1, cb2, cb3, cb4, cb5, cb6, cb7, cb8, cb9, cb10, cb11, cb12, cb13, cb14, cb15, cb16, cb17, hz2, hB2⟩ := id hS2))
    | (go_at_call 38; refine (cnull_any _).mono ?_; rintro e w4 ⟨rfl, hb4⟩; have hS4 := keep3 hS3 hb4; obtain ⟨cd0, cd1, cd2, cd3, cd4, cd5, cd6, cd7, cd8, cd9, cd10, cd11, cd12, cd13, cd14, cd15, cd16, cd17, hz4, hB4⟩ := id hS4))
  exact bodyPost_ret (v := .tuple #[.agg #[.int .i64 0, .int .i64 0, .string ⟨#[]⟩], .int .i64 2]) (by simp only [results, Tryz.results20]; go_simp) rfl ⟨rfl, below_setg hB4 (by omega)⟩
set_option maxHeartbeats 2000000 in
theorem cbinary_bad2_2 (op : Int) (fid : Nat) (ka na : Int) (ta : ByteArray) (kb nb : Int) (tb : ByteArray) (c : Int) (w : World) (hm1 : Val.may ⟨ka, na, ta.data.toList⟩ = true) (hm2 : Val.may ⟨kb, nb, tb.data.toList⟩ = false) (hd : ∀ w0, Calls Tryz.prog 56 #[.int .i64 op, .int .i64 c] w0 fun e w' => ∃ g1 g2, e = .returned (.func (Fn.func fid) #[] #[.pointer (some ⟨g1, 0, none⟩), .pointer (some ⟨g2, 0, none⟩)]) ∧ Below w0.heap.size w0 w') :
    Calls Tryz.prog 20 #[.int .i64 op, .agg #[.int .i64 ka, .int .i64 na, .string ta], .agg #[.int .i64 kb, .int .i64 nb, .string tb], .int .i64 c] w (VRet2 0 0 ⟨#[]⟩ 2 w) := by
  have hS := start3 w (.int .i64 ka) (.int .i64 na) (.string ta) (.int .i64 kb) (.int .i64 nb) (.string tb) (.int .i64 0) (.int .i64 0) (.string ⟨#[]⟩) 24 24 24
  have fnn := func_not_nil
  replace hm1 := Lib.hid hm1
  replace hm2 := Lib.hid hm2
  go_enter Tryz.func20, Tryz.ntmps20
  go_wp2_with (first
    | (go_at_call 56; refine (hd _).mono ?_; rintro e w1 ⟨g1, g2, rfl, hb1⟩; have hS1 := keep3 hS hb1; obtain ⟨ca0, ca1, ca2, ca3, ca4, ca5, ca6, ca7, ca8, ca9, ca10, ca11, ca12, ca13, ca14, ca15, ca16, ca17, hz, hB⟩ := id hS1)
    | (go_at_call 37; first | (have hq := hS2; refine (may_is _ _ _ _ hm2).mono ?_; rintro e w3 ⟨rfl, hb3⟩; have hS3 := keep3 hS2 hb3; obtain ⟨cc0, cc1, cc2, cc3, cc4, cc5, cc6, cc7, cc8, cc9, cc10, cc11, cc12, cc13, cc14, cc15, cc16, cc17, hz3, hB3⟩ := id hS3) | (refine (may_is _ _ _ _ hm1).mono ?_; rintro e w2 ⟨rfl, hb2⟩; have hS2 := keep3 hS1 hb2; obtain ⟨cb0, cb1, cb2, cb3, cb4, cb5, cb6, cb7, cb8, cb9, cb10, cb11, cb12, cb13, cb14, cb15, cb16, cb17, hz2, hB2⟩ := id hS2))
    | (go_at_call 38; refine (cnull_any _).mono ?_; rintro e w4 ⟨rfl, hb4⟩; have hS4 := keep3 hS3 hb4; obtain ⟨cd0, cd1, cd2, cd3, cd4, cd5, cd6, cd7, cd8, cd9, cd10, cd11, cd12, cd13, cd14, cd15, cd16, cd17, hz4, hB4⟩ := id hS4))
  exact bodyPost_ret (v := .tuple #[.agg #[.int .i64 0, .int .i64 0, .string ⟨#[]⟩], .int .i64 2]) (by simp only [results, Tryz.results20]; go_simp) rfl ⟨rfl, below_setg hB4 (by omega)⟩
theorem shape_7 (c : Int) (w0 : World) : Calls Tryz.prog 56 #[.int .i64 7, .int .i64 c] w0 fun e w' => ∃ g1, e = .returned (.func (Fn.func 119) #[] #[.pointer (some ⟨g1, 0, none⟩)]) ∧ Below w0.heap.size w0 w' := by
  go_enter Tryz.func56, Tryz.ntmps56
  go_wp2_with (go_at_call 79; refine (both_any _ _).mono ?_; rintro e w1 ⟨g, rfl, hg, hgl, hb1⟩)
  go_ret
  exact ⟨g, rfl, ((below_new w0 _).trans (hb1.mono (below_new w0 _).size))⟩
theorem shape_8 (c : Int) (w0 : World) : Calls Tryz.prog 56 #[.int .i64 8, .int .i64 c] w0 fun e w' => e = .returned (.func (Fn.func 51) #[] #[]) ∧ Below w0.heap.size w0 w' := by
  go_enter Tryz.func56, Tryz.ntmps56
  go_wp2
  go_ret
  exact ⟨rfl, below_new w0 _⟩
theorem shape_9 (c : Int) (w0 : World) : Calls Tryz.prog 56 #[.int .i64 9, .int .i64 c] w0 fun e w' => ∃ g1, e = .returned (.func (Fn.func 119) #[] #[.pointer (some ⟨g1, 0, none⟩)]) ∧ Below w0.heap.size w0 w' := by
  go_enter Tryz.func56, Tryz.ntmps56
  go_wp2_with (go_at_call 79; refine (both_any _ _).mono ?_; rintro e w1 ⟨g, rfl, hg, hgl, hb1⟩)
  go_ret
  exact ⟨g, rfl, ((below_new w0 _).trans (hb1.mono (below_new w0 _).size))⟩
theorem shape_10 (c : Int) (w0 : World) : Calls Tryz.prog 56 #[.int .i64 10, .int .i64 c] w0 fun e w' => ∃ g1, e = .returned (.func (Fn.func 119) #[] #[.pointer (some ⟨g1, 0, none⟩)]) ∧ Below w0.heap.size w0 w' := by
  go_enter Tryz.func56, Tryz.ntmps56
  go_wp2_with (go_at_call 79; refine (both_any _ _).mono ?_; rintro e w1 ⟨g, rfl, hg, hgl, hb1⟩)
  go_ret
  exact ⟨g, rfl, ((below_new w0 _).trans (hb1.mono (below_new w0 _).size))⟩
theorem shape_11 (c : Int) (w0 : World) : Calls Tryz.prog 56 #[.int .i64 11, .int .i64 c] w0 fun e w' => ∃ g1, e = .returned (.func (Fn.func 119) #[] #[.pointer (some ⟨g1, 0, none⟩)]) ∧ Below w0.heap.size w0 w' := by
  go_enter Tryz.func56, Tryz.ntmps56
  go_wp2_with (go_at_call 79; refine (both_any _ _).mono ?_; rintro e w1 ⟨g, rfl, hg, hgl, hb1⟩)
  go_ret
  exact ⟨g, rfl, ((below_new w0 _).trans (hb1.mono (below_new w0 _).size))⟩
theorem shape_12 (c : Int) (w0 : World) : Calls Tryz.prog 56 #[.int .i64 12, .int .i64 c] w0 fun e w' => e = .returned (.func (Fn.func 85) #[] #[]) ∧ Below w0.heap.size w0 w' := by
  go_enter Tryz.func56, Tryz.ntmps56
  go_wp2
  go_ret
  exact ⟨rfl, below_new w0 _⟩
theorem shape_13 (c : Int) (w0 : World) : Calls Tryz.prog 56 #[.int .i64 13, .int .i64 c] w0 fun e w' => ∃ g1 g2, e = .returned (.func (Fn.func 122) #[] #[.pointer (some ⟨g1, 0, none⟩), .pointer (some ⟨g2, 0, none⟩)]) ∧ Below w0.heap.size w0 w' := by
  go_enter Tryz.func56, Tryz.ntmps56
  go_wp2_with (go_at_call 86; refine (compared_any _ _ _).mono ?_; rintro e w1 ⟨g1, g2, rfl, hg1, hg2, l1, l2, hb1⟩)
  go_ret
  exact ⟨g1, g2, rfl, ((below_new w0 _).trans (hb1.mono (below_new w0 _).size))⟩
theorem shape_14 (c : Int) (w0 : World) : Calls Tryz.prog 56 #[.int .i64 14, .int .i64 c] w0 fun e w' => ∃ g1 g2, e = .returned (.func (Fn.func 122) #[] #[.pointer (some ⟨g1, 0, none⟩), .pointer (some ⟨g2, 0, none⟩)]) ∧ Below w0.heap.size w0 w' := by
  go_enter Tryz.func56, Tryz.ntmps56
  go_wp2_with (go_at_call 86; refine (compared_any _ _ _).mono ?_; rintro e w1 ⟨g1, g2, rfl, hg1, hg2, l1, l2, hb1⟩)
  go_ret
  exact ⟨g1, g2, rfl, ((below_new w0 _).trans (hb1.mono (below_new w0 _).size))⟩
theorem shape_15 (c : Int) (w0 : World) : Calls Tryz.prog 56 #[.int .i64 15, .int .i64 c] w0 fun e w' => ∃ g1 g2, e = .returned (.func (Fn.func 122) #[] #[.pointer (some ⟨g1, 0, none⟩), .pointer (some ⟨g2, 0, none⟩)]) ∧ Below w0.heap.size w0 w' := by
  go_enter Tryz.func56, Tryz.ntmps56
  go_wp2_with (go_at_call 86; refine (compared_any _ _ _).mono ?_; rintro e w1 ⟨g1, g2, rfl, hg1, hg2, l1, l2, hb1⟩)
  go_ret
  exact ⟨g1, g2, rfl, ((below_new w0 _).trans (hb1.mono (below_new w0 _).size))⟩
theorem shape_16 (c : Int) (w0 : World) : Calls Tryz.prog 56 #[.int .i64 16, .int .i64 c] w0 fun e w' => ∃ g1 g2, e = .returned (.func (Fn.func 122) #[] #[.pointer (some ⟨g1, 0, none⟩), .pointer (some ⟨g2, 0, none⟩)]) ∧ Below w0.heap.size w0 w' := by
  go_enter Tryz.func56, Tryz.ntmps56
  go_wp2_with (go_at_call 86; refine (compared_any _ _ _).mono ?_; rintro e w1 ⟨g1, g2, rfl, hg1, hg2, l1, l2, hb1⟩)
  go_ret
  exact ⟨g1, g2, rfl, ((below_new w0 _).trans (hb1.mono (below_new w0 _).size))⟩
theorem shape_17 (c : Int) (w0 : World) : Calls Tryz.prog 56 #[.int .i64 17, .int .i64 c] w0 fun e w' => ∃ g1 g2, e = .returned (.func (Fn.func 122) #[] #[.pointer (some ⟨g1, 0, none⟩), .pointer (some ⟨g2, 0, none⟩)]) ∧ Below w0.heap.size w0 w' := by
  go_enter Tryz.func56, Tryz.ntmps56
  go_wp2_with (go_at_call 86; refine (compared_any _ _ _).mono ?_; rintro e w1 ⟨g1, g2, rfl, hg1, hg2, l1, l2, hb1⟩)
  go_ret
  exact ⟨g1, g2, rfl, ((below_new w0 _).trans (hb1.mono (below_new w0 _).size))⟩
theorem shape_18 (c : Int) (w0 : World) : Calls Tryz.prog 56 #[.int .i64 18, .int .i64 c] w0 fun e w' => ∃ g1 g2, e = .returned (.func (Fn.func 122) #[] #[.pointer (some ⟨g1, 0, none⟩), .pointer (some ⟨g2, 0, none⟩)]) ∧ Below w0.heap.size w0 w' := by
  go_enter Tryz.func56, Tryz.ntmps56
  go_wp2_with (go_at_call 86; refine (compared_any _ _ _).mono ?_; rintro e w1 ⟨g1, g2, rfl, hg1, hg2, l1, l2, hb1⟩)
  go_ret
  exact ⟨g1, g2, rfl, ((below_new w0 _).trans (hb1.mono (below_new w0 _).size))⟩
theorem shape_19 (c : Int) (w0 : World) : Calls Tryz.prog 56 #[.int .i64 19, .int .i64 c] w0 fun e w' => ∃ g1, e = .returned (.func (Fn.func 93) #[] #[.pointer (some ⟨g1, 0, none⟩)]) ∧ Below w0.heap.size w0 w' := by
  go_enter Tryz.func56, Tryz.ntmps56
  go_wp2
  go_ret
  exact ⟨w0.heap.size, rfl, below_new w0 _⟩
theorem shape_20 (c : Int) (w0 : World) : Calls Tryz.prog 56 #[.int .i64 20, .int .i64 c] w0 fun e w' => ∃ g1, e = .returned (.func (Fn.func 94) #[] #[.pointer (some ⟨g1, 0, none⟩)]) ∧ Below w0.heap.size w0 w' := by
  go_enter Tryz.func56, Tryz.ntmps56
  go_wp2
  go_ret
  exact ⟨w0.heap.size, rfl, below_new w0 _⟩
theorem shape_21 (c : Int) (w0 : World) : Calls Tryz.prog 56 #[.int .i64 21, .int .i64 c] w0 fun e w' => ∃ g1, e = .returned (.func (Fn.func 123) #[] #[.pointer (some ⟨g1, 0, none⟩)]) ∧ Below w0.heap.size w0 w' := by
  go_enter Tryz.func56, Tryz.ntmps56
  go_wp2_with (go_at_call 95; refine (logic_any _ _).mono ?_; rintro e w1 ⟨g, rfl, hg, hgl, hb1⟩)
  go_ret
  exact ⟨g, rfl, ((below_new w0 _).trans (hb1.mono (below_new w0 _).size))⟩
theorem shape_22 (c : Int) (w0 : World) : Calls Tryz.prog 56 #[.int .i64 22, .int .i64 c] w0 fun e w' => ∃ g1, e = .returned (.func (Fn.func 123) #[] #[.pointer (some ⟨g1, 0, none⟩)]) ∧ Below w0.heap.size w0 w' := by
  go_enter Tryz.func56, Tryz.ntmps56
  go_wp2_with (go_at_call 95; refine (logic_any _ _).mono ?_; rintro e w1 ⟨g, rfl, hg, hgl, hb1⟩)
  go_ret
  exact ⟨g, rfl, ((below_new w0 _).trans (hb1.mono (below_new w0 _).size))⟩
/-- an operator of two values of which one may not be -/
theorem cbinary_bad (op : Int) (hop : 7 ≤ op ∧ op ≤ 22) (ka na : Int) (ta : ByteArray) (kb nb : Int) (tb : ByteArray) (c : Int) (w : World) (h : ¬ (Val.may ⟨ka, na, ta.data.toList⟩ = true ∧ Val.may ⟨kb, nb, tb.data.toList⟩ = true)) :
    Calls Tryz.prog 20 #[.int .i64 op, .agg #[.int .i64 ka, .int .i64 na, .string ta], .agg #[.int .i64 kb, .int .i64 nb, .string tb], .int .i64 c] w (VRet2 0 0 ⟨#[]⟩ 2 w) := by
  cases hm1 : Val.may ⟨ka, na, ta.data.toList⟩ with
  | false =>
    rcases (show op = 7 ∨ op = 8 ∨ op = 9 ∨ op = 10 ∨ op = 11 ∨ op = 12 ∨ op = 13 ∨ op = 14 ∨ op = 15 ∨ op = 16 ∨ op = 17 ∨ op = 18 ∨ op = 19 ∨ op = 20 ∨ op = 21 ∨ op = 22 by omega) with rfl | rfl | rfl | rfl | rfl | rfl | rfl | rfl | rfl | rfl | rfl | rfl | rfl | rfl | rfl | rfl
    · exact cbinary_bad1_1 7 119 _ _ _ _ _ _ c w hm1 (shape_7 c)
    · exact cbinary_bad1_0 8 51 _ _ _ _ _ _ c w hm1 (shape_8 c)
    · exact cbinary_bad1_1 9 119 _ _ _ _ _ _ c w hm1 (shape_9 c)
    · exact cbinary_bad1_1 10 119 _ _ _ _ _ _ c w hm1 (shape_10 c)
    · exact cbinary_bad1_1 11 119 _ _ _ _ _ _ c w hm1 (shape_11 c)
    · exact cbinary_bad1_0 12 85 _ _ _ _ _ _ c w hm1 (shape_12 c)
    · exact cbinary_bad1_2 13 122 _ _ _ _ _ _ c w hm1 (shape_13 c)
    · exact cbinary_bad1_2 14 122 _ _ _ _ _ _ c w hm1 (shape_14 c)
    · exact cbinary_bad1_2 15 122 _ _ _ _ _ _ c w hm1 (shape_15 c)
    · exact cbinary_bad1_2 16 122 _ _ _ _ _ _ c w hm1 (shape_16 c)
    · exact cbinary_bad1_2 17 122 _ _ _ _ _ _ c w hm1 (shape_17 c)
    · exact cbinary_bad1_2 18 122 _ _ _ _ _ _ c w hm1 (shape_18 c)
    · exact cbinary_bad1_1 19 93 _ _ _ _ _ _ c w hm1 (shape_19 c)
    · exact cbinary_bad1_1 20 94 _ _ _ _ _ _ c w hm1 (shape_20 c)
    · exact cbinary_bad1_1 21 123 _ _ _ _ _ _ c w hm1 (shape_21 c)
    · exact cbinary_bad1_1 22 123 _ _ _ _ _ _ c w hm1 (shape_22 c)
  | true =>
    have hm2 : Val.may ⟨kb, nb, tb.data.toList⟩ = false := by
      cases hh : Val.may ⟨kb, nb, tb.data.toList⟩ with
      | false => rfl
      | true => exact absurd ⟨hm1, hh⟩ h
    rcases (show op = 7 ∨ op = 8 ∨ op = 9 ∨ op = 10 ∨ op = 11 ∨ op = 12 ∨ op = 13 ∨ op = 14 ∨ op = 15 ∨ op = 16 ∨ op = 17 ∨ op = 18 ∨ op = 19 ∨ op = 20 ∨ op = 21 ∨ op = 22 by omega) with rfl | rfl | rfl | rfl | rfl | rfl | rfl | rfl | rfl | rfl | rfl | rfl | rfl | rfl | rfl | rfl
    · exact cbinary_bad2_1 7 119 _ _ _ _ _ _ c w hm1 hm2 (shape_7 c)
    · exact cbinary_bad2_0 8 51 _ _ _ _ _ _ c w hm1 hm2 (shape_8 c)
    · exact cbinary_bad2_1 9 119 _ _ _ _ _ _ c w hm1 hm2 (shape_9 c)
    · exact cbinary_bad2_1 10 119 _ _ _ _ _ _ c w hm1 hm2 (shape_10 c)
    · exact cbinary_bad2_1 11 119 _ _ _ _ _ _ c w hm1 hm2 (shape_11 c)
    · exact cbinary_bad2_0 12 85 _ _ _ _ _ _ c w hm1 hm2 (shape_12 c)
    · exact cbinary_bad2_2 13 122 _ _ _ _ _ _ c w hm1 hm2 (shape_13 c)
    · exact cbinary_bad2_2 14 122 _ _ _ _ _ _ c w hm1 hm2 (shape_14 c)
    · exact cbinary_bad2_2 15 122 _ _ _ _ _ _ c w hm1 hm2 (shape_15 c)
    · exact cbinary_bad2_2 16 122 _ _ _ _ _ _ c w hm1 hm2 (shape_16 c)
    · exact cbinary_bad2_2 17 122 _ _ _ _ _ _ c w hm1 hm2 (shape_17 c)
    · exact cbinary_bad2_2 18 122 _ _ _ _ _ _ c w hm1 hm2 (shape_18 c)
    · exact cbinary_bad2_1 19 93 _ _ _ _ _ _ c w hm1 hm2 (shape_19 c)
    · exact cbinary_bad2_1 20 94 _ _ _ _ _ _ c w hm1 hm2 (shape_20 c)
    · exact cbinary_bad2_1 21 123 _ _ _ _ _ _ c w hm1 hm2 (shape_21 c)
    · exact cbinary_bad2_1 22 123 _ _ _ _ _ _ c w hm1 hm2 (shape_22 c)
/-- WHAT Binary ANSWERS -/
theorem cbinary_is (op : Int) (ka na : Int) (ta : ByteArray) (kb nb : Int) (tb : ByteArray) (c : Int) (w : World) (hL : Lits w) (ha : Val.inr na) (hb : Val.inr nb) (k n : Int) (t : ByteArray) (E : Int) (hv : Hid (Val.binary op ⟨ka, na, ta.data.toList⟩ ⟨kb, nb, tb.data.toList⟩ c = (⟨k, n, t.data.toList⟩, E))) :
    Calls Tryz.prog 20 #[.int .i64 op, .agg #[.int .i64 ka, .int .i64 na, .string ta], .agg #[.int .i64 kb, .int .i64 nb, .string tb], .int .i64 c] w (VRet2 k n t E w) := by
  have hv' := hv.out
  rw [Val.binary] at hv'
  have hz : ∀ {k n : Int} {t : ByteArray}, Val.zero = ⟨k, n, t.data.toList⟩ → k = 0 ∧ n = 0 ∧ t = ⟨#[]⟩ := by
    intro k n t h
    simp only [Val.zero, Val.V.mk.injEq] at h
    exact ⟨h.1.symm, h.2.1.symm, text_nil h.2.2.symm⟩
  by_cases hop : 7 ≤ op ∧ op ≤ 22
  · rw [if_pos hop] at hv'
    by_cases hm : Val.may ⟨ka, na, ta.data.toList⟩ = true ∧ Val.may ⟨kb, nb, tb.data.toList⟩ = true
    · rw [if_pos hm, Prod.mk.injEq] at hv'
      obtain ⟨hv', hE⟩ := hv'
      subst hE
      obtain ⟨hm1, hm2⟩ := hm
      by_cases h12 : op = 12
      · subst h12
        exact cbinary_0 12 85 (fun _ _ => by kernel_rfl) _ _ _ _ _ _ c k n t w hL hm1 hm2 (does_concat _ _ _ _ _ _ c ha hb hm1 hm2 k n t (Lib.hid hv'))
      · have ht : t = ⟨#[]⟩ := text_nil (by
          have := makes_empty h12 ⟨ka, na, ta.data.toList⟩ ⟨kb, nb, tb.data.toList⟩ c ha hb
          rw [hv'] at this; exact this)
        subst ht
        have hv2 : Val.makes op ⟨ka, na, ta.data.toList⟩ ⟨kb, nb, tb.data.toList⟩ c = ⟨k, n, []⟩ := hv'
        replace hv2 := Lib.hid hv2
        rcases (show op = 7 ∨ op = 8 ∨ op = 9 ∨ op = 10 ∨ op = 11 ∨ op = 13 ∨ op = 14 ∨ op = 15 ∨ op = 16 ∨ op = 17 ∨ op = 18 ∨ op = 19 ∨ op = 20 ∨ op = 21 ∨ op = 22 by omega) with rfl | rfl | rfl | rfl | rfl | rfl | rfl | rfl | rfl | rfl | rfl | rfl | rfl | rfl | rfl
        · exact cbinary_1 7 119 (fun _ _ => by kernel_rfl) _ _ _ _ _ _ c k n ⟨#[]⟩ w hL hm1 hm2 (does_add _ _ _ _ _ _ c ha hb hm1 hm2 k n hv2)
        · exact cbinary_0 8 51 (fun _ _ => by kernel_rfl) _ _ _ _ _ _ c k n ⟨#[]⟩ w hL hm1 hm2 (does_sub _ _ _ _ _ _ c ha hb hm1 hm2 k n hv2)
        · exact cbinary_1 9 119 (fun _ _ => by kernel_rfl) _ _ _ _ _ _ c k n ⟨#[]⟩ w hL hm1 hm2 (does_mul _ _ _ _ _ _ c ha hb hm1 hm2 k n hv2)
        · exact cbinary_1 10 119 (fun _ _ => by kernel_rfl) _ _ _ _ _ _ c k n ⟨#[]⟩ w hL hm1 hm2 (does_div _ _ _ _ _ _ c ha hb hm1 hm2 k n hv2)
        · exact cbinary_1 11 119 (fun _ _ => by kernel_rfl) _ _ _ _ _ _ c k n ⟨#[]⟩ w hL hm1 hm2 (does_rem _ _ _ _ _ _ c ha hb hm1 hm2 k n hv2)
        · exact cbinary_2 13 122 (fun _ _ => by kernel_rfl) _ _ _ _ _ _ c k n ⟨#[]⟩ w hL hm1 hm2 (does_13 _ _ _ _ _ _ c ha hb hm1 hm2 k n hv2)
        · exact cbinary_2 14 122 (fun _ _ => by kernel_rfl) _ _ _ _ _ _ c k n ⟨#[]⟩ w hL hm1 hm2 (does_14 _ _ _ _ _ _ c ha hb hm1 hm2 k n hv2)
        · exact cbinary_2 15 122 (fun _ _ => by kernel_rfl) _ _ _ _ _ _ c k n ⟨#[]⟩ w hL hm1 hm2 (does_15 _ _ _ _ _ _ c ha hb hm1 hm2 k n hv2)
        · exact cbinary_2 16 122 (fun _ _ => by kernel_rfl) _ _ _ _ _ _ c k n ⟨#[]⟩ w hL hm1 hm2 (does_16 _ _ _ _ _ _ c ha hb hm1 hm2 k n hv2)
        · exact cbinary_2 17 122 (fun _ _ => by kernel_rfl) _ _ _ _ _ _ c k n ⟨#[]⟩ w hL hm1 hm2 (does_17 _ _ _ _ _ _ c ha hb hm1 hm2 k n hv2)
        · exact cbinary_2 18 122 (fun _ _ => by kernel_rfl) _ _ _ _ _ _ c k n ⟨#[]⟩ w hL hm1 hm2 (does_18 _ _ _ _ _ _ c ha hb hm1 hm2 k n hv2)
        · exact cbinary_1 19 93 (fun _ _ => by kernel_rfl) _ _ _ _ _ _ c k n ⟨#[]⟩ w hL hm1 hm2 (does_19 _ _ _ _ _ _ c ha hb hm1 hm2 k n hv2)
        · exact cbinary_1 20 94 (fun _ _ => by kernel_rfl) _ _ _ _ _ _ c k n ⟨#[]⟩ w hL hm1 hm2 (does_20 _ _ _ _ _ _ c ha hb hm1 hm2 k n hv2)
        · exact cbinary_1 21 123 (fun _ _ => by kernel_rfl) _ _ _ _ _ _ c k n ⟨#[]⟩ w hL hm1 hm2 (does_21 _ _ _ _ _ _ c ha hb hm1 hm2 k n hv2)
        · exact cbinary_1 22 123 (fun _ _ => by kernel_rfl) _ _ _ _ _ _ c k n ⟨#[]⟩ w hL hm1 hm2 (does_22 _ _ _ _ _ _ c ha hb hm1 hm2 k n hv2)
    · rw [if_neg hm, Prod.mk.injEq] at hv'
      obtain ⟨h1, rfl⟩ := hv'
      obtain ⟨rfl, rfl, rfl⟩ := hz h1
      exact cbinary_bad op hop _ _ _ _ _ _ c w hm
  · rw [if_neg hop, Prod.mk.injEq] at hv'
    obtain ⟨h1, rfl⟩ := hv'
    obtain ⟨rfl, rfl, rfl⟩ := hz h1
    exact cbinary_none op _ _ _ _ _ _ c w hop

end Go.Proofs.YthdpgekjbkpomaaGreatDoor
