/- Walks: the function put of Split, and the one that marks a fault. -/
import Derived.Test.YtiiaamkmnbegdaaSplit
import Derived.Test.YtiiaamkmnbegdaaTokL1
import Derived.Deep.RegionLaw
namespace Go.Proofs.Ytiiaamkmnbegdaa
open Go.RowKit

theorem str_info : (Try.prog.info? 9).map (fun i => (i.zero, i.size, i.bytes)) = some (some (.string ⟨#[]⟩), 1, 16) := by kernel_rfl
theorem one_str (s : ByteArray) : ∀ u ∈ (#[Value.string s] : Array Value).toList, u.oneCell' = true := by intro u hu; simp at hu; subst hu; rfl
/-- the cells of texts -/
def strC (l : List (List UInt8)) : List Value := l.map fun t => .string (bs t)
theorem strC_snoc (l : List (List UInt8)) (t : List UInt8) : strC (l ++ [t]) = strC l ++ [.string (bs t)] := by simp [strC]
theorem bs_cut (s : ByteArray) (i e : Nat) : bs (Tok.cut s.data.toList i e) = s.extract i e := by rw [← cut_data1]; rfl

/-- one element appended, at a step of a region that draws; what else is as it was -/
theorem step_push2 {P : Program} {W : World} {ops : Array Oper} {o : Oper} {a : Act} {K : Act → World → Prop} {Q : Exit → Act → World → Prop} {E : Prop} (hgd : o.guard = none) (s x : Operand) (t : TypeId)
    (ho : o.op = .call { callee := .builtin .append, args := #[s, x], argTypes := #[t, t] })
    (base : Nat) (e : TypeId) {z : Value} {size bytes : Nat} (ht : P.underlying t = some (.slice e)) (hinfo : (P.info? e).map (fun i => (i.zero, i.size, i.bytes)) = some (some z, size, bytes))
    (hzs : z.cells.size = size) (hsz : 0 < size)
    (v : Value) (n : Nat) (xs : List Value) (hs : a.eval s = v) (hown : W.ownsRow base e size v n xs)
    (cs : Array Value) (hx : a.eval x = .slice (some ⟨W.heap.size, 0, none⟩) 1 1) (hl : cs.size = size) (h1 : ∀ u ∈ cs.toList, u.oneCell' = true)
    (hbytes : (n + 1) * bytes ≤ 140737488355328) (hb0 : 0 < bytes) (hbase : base ≤ W.heap.size)
    (h : ∀ g c w1, w1.ownsRow base e size (.slice (some ⟨g, 0, none⟩) (n + 1) c) (n + 1) (xs ++ cs.toList) → Below base W w1 → W.grownBy w1 v.ownBlock → K (a.put o.dst (.slice (some ⟨g, 0, none⟩) (n + 1) c)) w1) :
    if Region.wanted o (yielded ops a.tmps) = true then Oper.wp P o a (W.alloc (.cells cs e)).drew K Q else E := by
  obtain ⟨i, hi, hz, hsize, hby⟩ := info_parts hinfo
  have hn : n + 1 ≤ 140737488355328 := Nat.le_trans (Nat.le_mul_of_pos_right _ hb0) hbytes
  refine step_append_lies _ hgd s x t ho base e i z size bytes ht hi hz hsize hby hzs hsz v n xs hs (hown.alloc _).drew ⟨W.heap.size, 0, none⟩ 1 1 cs.toList hx (by simpa using hl) ?_ h1 (by omega) (by simp only [maxLen]; omega) hbytes (by simp; omega) (W.heap.size + 1) (by simp) ?_
  · intro j u hu
    have hj : (⟨W.heap.size, 0, none⟩ : Addr).add j = ⟨W.heap.size, j, none⟩ := by rw [Addr.add_lit]; simp
    rw [hj, World.cell?_drew, World.cell?_alloc_at _ _ _ _ rfl]
    simpa using hu
  · intro g cap w1 hown' hg _ _
    have hg' : W.grownBy w1 v.ownBlock := ⟨hg.os, hg.tape, hg.output, Nat.le_trans (by simp) hg.size, fun k hk hne => (hg.block k (by simp at hk ⊢; omega) hne).trans (Below.heap_alloc W _ k hk)⟩
    exact h _ _ w1 hown' ((Below.refl base W).grown hg' hbase fun k hk => (hown.lt k hk).1) hg'

theorem mark_any (b : Int) (B : Nat) (w : World) (u : Value) (hc : w.cell? ⟨B, 0, none⟩ = some u) (hf : w.frozen? ⟨B, 0, none⟩ = false) :
    Calls Try.prog 19 #[.int .i64 b, .pointer (some ⟨B, 0, none⟩)] w fun e w' => e = .returned (.tuple #[]) ∧ w' = w.setCell ⟨B, 0, none⟩ (.bool true) := by
  go_enter Try.func19, Try.ntmps19
  go_wp2
  go_end0
  exact ⟨rfl, rfl⟩

theorem putoff_any (Bf Bo Bs Bt : Nat) (f : Int) (w : World) (hf : f < 0) (bF : Boxed w Bf 3 (.int .i64 f)) :
    Calls Try.prog 18 #[.pointer (some ⟨Bf, 0, none⟩), .pointer (some ⟨Bo, 0, none⟩), .pointer (some ⟨Bs, 0, none⟩), .pointer (some ⟨Bt, 0, none⟩)] w fun e w' => e = .returned (.tuple #[]) ∧ w' = w.setCell ⟨Bf, 0, none⟩ (.int .i64 (-1)) := by
  have cF := bF.cell
  have fF := bF.frozen
  clear bF
  go_enter Try.func18, Try.ntmps18
  go_wp2
  go_end0
  exact ⟨rfl, rfl⟩

/-- what put does where a piece has begun -/
def PutP (n₁ Bf Bo : Nat) (s : ByteArray) (f t : Nat) (p : Option Addr) (N c : Nat) (xs : List Value) (w : World) (e : Ending) (w' : World) : Prop :=
  e = .returned (.tuple #[]) ∧ ∃ w1 g c', w1.ownsRow n₁ 9 1 (.slice (some ⟨g, 0, none⟩) (N + 1) c') (N + 1) (xs ++ [.string (s.extract f t)]) ∧ Below n₁ w w1 ∧ w.grownBy w1 (Value.slice p N c).ownBlock ∧ w' = (w1.setCell ⟨Bo, 0, none⟩ (.slice (some ⟨g, 0, none⟩) (N + 1) c')).setCell ⟨Bf, 0, none⟩ (.int .i64 (-1))

set_option maxHeartbeats 1000000 in
theorem puton_any (n₁ Bf Bo Bs Bt : Nat) (s : ByteArray) (f t : Nat) (p : Option Addr) (N c : Nat) (xs : List Value) (w : World) (hft : f ≤ t) (hts : t ≤ s.size) (hs : s.size ≤ 1048576) (hN : N ≤ 1048576)
    (bF : Boxed w Bf 3 (.int .i64 (f : Int))) (bO : Boxed w Bo 34 (.slice p N c)) (bS : Boxed w Bs 9 (.string s)) (bT : Boxed w Bt 3 (.int .i64 (t : Int)))
    (hrow : w.ownsRow n₁ 9 1 (.slice p N c) N xs) (hF : Bf < n₁) (hO : Bo < n₁) (hS : Bs < n₁) (hT : Bt < n₁) (hn : n₁ ≤ w.heap.size) (hFO : Bf ≠ Bo) :
    Calls Try.prog 18 #[.pointer (some ⟨Bf, 0, none⟩), .pointer (some ⟨Bo, 0, none⟩), .pointer (some ⟨Bs, 0, none⟩), .pointer (some ⟨Bt, 0, none⟩)] w (PutP n₁ Bf Bo s f t p N c xs w) := by
  have cF := bF.cell
  have fF := bF.frozen
  have cO := bO.cell
  have fO := bO.frozen
  have cS := bS.cell
  have cT := bT.cell
  have lF := bF.lt
  have lO := bO.lt
  clear bF bO bS bT
  have i1 : (f : Int) ≤ (t : Int) := by omega
  have i2 : (t : Int) ≤ (s.size : Int) := by omega
  have i3 : (0 : Int) ≤ (f : Int) := by omega
  have i4 : (0 : Int) ≤ (t : Int) := by omega
  go_enter Try.func18, Try.ntmps18
  go_wp2_with fail
  go_region_law
    ((refine step_push2 (by rfl) _ _ _ (by rfl) n₁ 9 Try.underlying34 str_info rfl (by omega) (.slice p N c) N xs (by rfl) hrow _ (by rfl) (by rfl) (one_str _) (by omega) (by omega) hn ?_; intro g c' w1 hown' hb' hg'; have fO1 := (hb'.frozen (p := ⟨Bo, 0, none⟩) hO).trans fO; have fF1 := (hb'.frozen (p := ⟨Bf, 0, none⟩) hF).trans fF; have cO1 := (hb'.cell (p := ⟨Bo, 0, none⟩) hO).trans cO; have cF1 := (hb'.cell (p := ⟨Bf, 0, none⟩) hF).trans cF))
  all_goals (try go_wp2)
  all_goals go_end0
  all_goals exact ⟨rfl, w1, g, c', by simpa using hown', hb', hg', rfl⟩

end Go.Proofs.Ytiiaamkmnbegdaa
