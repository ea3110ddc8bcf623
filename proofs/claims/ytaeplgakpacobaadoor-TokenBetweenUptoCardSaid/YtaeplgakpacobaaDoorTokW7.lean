/- Walks: the function that tokens hands back, as a promise on the tokens of a text. -/
import Derived.Test.YtaeplgakpacobaaDoorTokW6
import Derived.Test.YtaeplgakpacobaaDoorRange
import Derived.Test.YtaeplgakpacobaaDoorPlain
set_option maxRecDepth 100000
set_option linter.unusedVariables false
set_option linter.unusedSimpArgs false
namespace Go.Proofs.YtaeplgakpacobaaDoor
open Go.RowKit
attribute [local go_sem] Oper.semAt_some

/-- a token as the program holds it -/
def tokV (t : Tok.T) : Value := .agg #[.int .i64 (t.kind : Int), .int .i64 (t.at_ : Int), .string (bs t.text)]
/-- what yield is handed: where the token ends, the token -/
def pairV (x : Tok.T × Nat) : Array Value := #[.int .i64 (x.2 : Int), .agg #[.int .i64 (x.1.kind : Int), .int .i64 (x.1.at_ : Int), .string (bs x.1.text)]]

theorem below_grown {w w' : World} (h : Below w.heap.size w w') : w.grownBy w' none := ⟨h.os, h.tape, h.output, h.size, fun k hk _ => h.block k hk⟩

set_option maxRecDepth 100000 in
set_option maxHeartbeats 1000000 in
theorem tokens1_in (n l Bs Bw wf : Nat) (cap : Array Value) (s : ByteArray) (hs : s.size ≤ 4294967296) (W : World) (hn1 : 1 ≤ n) (hB1 : Bs < W.heap.size) (hB2 : Bw < W.heap.size)
    (hcs : W.cell? ⟨Bs, 0, none⟩ = some (.string s)) (hcw : W.cell? ⟨Bw, 0, none⟩ = some (.func (.func wf) #[] cap))
    (ew : ∀ args w, (callFunc wf args).run Tryd.prog w = .ok (.enter wf args) w)
    (J Jx : List (Tok.T × Nat) → World → Prop) (Jb : Nat → List (Tok.T × Nat) → World → Prop) (hJ : Grows J)
    (hY : ∀ pre x W1, J pre W1 → pre.length < (Tok.toks s.data.toList 0).1.length → pre ++ [x] <+: (Tok.toks s.data.toList 0).1 → YieldAt WF (n - 1) Tryd.prog l (pairV x) W1 fun e W' =>
      (e = .returned (.bool true) ∧ J (pre ++ [x]) W' ∧ Keeps (fun k => k = Bs ∨ k = Bw) W1 W') ∨ (e = .returned (.bool false) ∧ Jx (pre ++ [x]) W'))
    (hbad : ∀ pre b W1, J pre W1 → CallsIn WF (n - 1) Tryd.prog wf (#[.int .i64 (b : Int)] ++ cap) W1 fun e W' => e = .returned (.tuple #[]) ∧ Jb b pre W') (h0 : J [] W) :
    CallsIn WF n Tryd.prog 45 #[.func (.yield l) #[] #[], .pointer (some ⟨Bs, 0, none⟩), .pointer (some ⟨Bw, 0, none⟩)] W fun e W' => (∃ v, e = .returned v) ∧
      ((∃ ys, Tok.toks s.data.toList 0 = (ys, none) ∧ J ys W') ∨ (∃ b ys, Tok.toks s.data.toList 0 = (ys, some b) ∧ Jb b ys W') ∨ (∃ pre, pre <+: (Tok.toks s.data.toList 0).1 ∧ Jx pre W')) := by
  have hF : ∀ f, WF.fn f := fun _ => trivial
  refine callsIn_of_wp Tryd.func45 rfl trivial ?_ rfl
  simp only [Tryd.ntmps45, List.size_toArray, List.length_cons, List.length_nil, Nat.reduceAdd, Nat.reduceSub, Array.replicate_succ, Array.replicate_zero, List.push_toArray, List.append_toArray, List.nil_append, List.cons_append]
  obtain ⟨q0, hq0⟩ : ∃ q0, q0 = Tok.skip s.data.toList 0 := ⟨_, rfl⟩
  have hq0l : q0 ≤ s.size := by rw [hq0]; exact Tok.skip_le _ _ (by simp)
  replace hq0 := Lib.hid hq0
  gi_wp2_with (gi_at_call 46; refine (callsIn_wide.2 (skip_is s 0 _ hq0 hs (by omega))).mono ?_; rintro e w' ⟨rfl, rfl⟩)
  gi_loopw [4] (fun i wr => ∃ (pre : List (Tok.T × Nat)) (j q : Nat), i = .int .i64 (q : Int) ∧ q ≤ s.size ∧ Hid (q = Tok.skip s.data.toList j) ∧ Hid (Tok.toks s.data.toList 0 = (pre ++ (Tok.toks s.data.toList j).1, (Tok.toks s.data.toList j).2)) ∧ J pre wr ∧ Keeps (fun k => k = Bs ∨ k = Bw) W wr)
    (fun i _ => s.size - (intOf i).toNat)
  case atStart => exact ⟨[], 0, q0, rfl, hq0l, hq0, rfl, h0, Keeps.refl _ _⟩
  case round =>
    obtain ⟨pre, j, q, rfl, hql, hq, ht, hj, hb⟩ := hrel
    have cs : wr.cell? ⟨Bs, 0, none⟩ = some (.string s) := (hb.cell (.inl rfl)).trans hcs
    have cw : wr.cell? ⟨Bw, 0, none⟩ = some (.func (.func wf) #[] cap) := (hb.cell (.inr rfl)).trans hcw
    have bs0 : Bs < wr.heap.size := by have := hb.size; omega
    have bw0 : Bw < wr.heap.size := by have := hb.size; omega
    by_cases hlt : q < s.size
    · obtain ⟨⟨t, e, b⟩, hu⟩ : ∃ u, Tok.one s.data.toList q = u := ⟨_, rfl⟩
      have hlt' : Tok.skip s.data.toList j < s.data.toList.length := by rw [← hq.out]; exact hlt
      have hu' : Tok.one s.data.toList (Tok.skip s.data.toList j) = (t, e, b) := by rw [← hq.out]; exact hu
      cases b with
      | false =>
        have hw := Tok.toks_bad hlt' (by rw [hu'])
        replace hu := Lib.hid hu
        clear hu' hlt'
        replace hw := Lib.hid hw
        gi_wp2_with (gi_at_call 47; refine (callsIn_wide.2 (one_is s q _ hu hs hlt)).mono ?_; rintro e' w1 ⟨rfl, hb1⟩; have hj1 := hJ _ _ _ hj (below_grown hb1); have bs1 : Bs < w1.heap.size := Nat.lt_of_lt_of_le bs0 hb1.size; have bw1 : Bw < w1.heap.size := Nat.lt_of_lt_of_le bw0 hb1.size; have cs1 := (hb1.cell (p := ⟨Bs, 0, none⟩) bs0).trans cs; have cw1 := (hb1.cell (p := ⟨Bw, 0, none⟩) bw0).trans cw)
        refine (hbad pre q _ (hJ _ _ _ hj1 (World.grownBy_alloc w1 _ none))).mono ?_
        rintro e2 w2 ⟨rfl, hjb⟩
        gi_wp2
        refine bodyPost_ret (results_none rfl _ _ _) rfl ?_
        exact ⟨⟨_, rfl⟩, .inr (.inl ⟨q, pre, by rw [ht.out, hw.out, ← hq.out]; simp, hjb⟩)⟩
      | true =>
        have hw := Tok.toks_step hlt' (by rw [hu'])
        rw [hu'] at hw
        have hen := Tok.one_end s.data.toList q hlt (by rw [hu])
        rw [hu] at hen
        have hen1 : q < e := hen.1
        have hen2 : e ≤ s.size := hen.2
        have hlen : pre.length < (Tok.toks s.data.toList 0).1.length := by rw [ht.out, hw]; simp
        have hpre : pre ++ [(t, e)] <+: (Tok.toks s.data.toList 0).1 := by rw [ht.out, hw]; exact ⟨(Tok.toks s.data.toList e).1, by simp⟩
        have ht2 : Tok.toks s.data.toList 0 = (pre ++ [(t, e)] ++ (Tok.toks s.data.toList e).1, (Tok.toks s.data.toList e).2) := by rw [ht.out, hw]; simp
        replace hu := Lib.hid hu
        clear hu' hlt' hen
        replace hw := Lib.hid hw
        replace ht2 := Lib.hid ht2
        replace hlen := Lib.hid hlen
        replace hpre := Lib.hid hpre
        obtain ⟨q2, hq2⟩ : ∃ q2, q2 = Tok.skip s.data.toList e := ⟨_, rfl⟩
        have hq2l : q2 ≤ s.size := by rw [hq2]; exact Tok.skip_le _ _ hen2
        have hq2g : e ≤ q2 := by rw [hq2]; exact Tok.skip_ge _ _
        replace hq2 := Lib.hid hq2
        gi_wp2_with (gi_at_call 47; refine (callsIn_wide.2 (one_is s q _ hu hs hlt)).mono ?_; rintro e' w1 ⟨rfl, hb1⟩; have hj1 := hJ _ _ _ hj (below_grown hb1); have bs1 : Bs < w1.heap.size := Nat.lt_of_lt_of_le bs0 hb1.size; have bw1 : Bw < w1.heap.size := Nat.lt_of_lt_of_le bw0 hb1.size; have cs1 := (hb1.cell (p := ⟨Bs, 0, none⟩) bs0).trans cs; have cw1 := (hb1.cell (p := ⟨Bw, 0, none⟩) bw0).trans cw; obtain ⟨yfn, ytmps, yassign, ybody, hy, hR⟩ := hY pre (t, e) (w1.alloc (.cells #[.int .i64 (t.kind : Int), .int .i64 (t.at_ : Int), .string (bs t.text)] 32)) (hJ _ _ _ hj1 (World.grownBy_alloc w1 _ none)) hlen.out hpre.out; simp only [pairV] at hy)
        refine hR.mono ?_
        rintro e2 w2 (⟨rfl, hj2, hb2⟩ | ⟨rfl, hjx⟩)
        · have hb3 : Keeps (fun k => k = Bs ∨ k = Bw) W w2 := (hb.trans ((Keeps.of_below hb1 (by rintro k (rfl | rfl) <;> assumption)).trans (Keeps.alloc w1 _ (by rintro k (rfl | rfl) <;> (have := hb1.size; omega))))).trans hb2
          have cs2 : w2.cell? ⟨Bs, 0, none⟩ = some (.string s) := (hb3.cell (.inl rfl)).trans hcs
          clear cs1 cw1 cs cw
          gi_wp2_with (gi_at_call 46; refine (callsIn_wide.2 (skip_is s e _ hq2 hs hen2)).mono ?_; rintro e' w' ⟨rfl, rfl⟩)
          go_roundw
          case rel => exact ⟨pre ++ [(t, e)], e, q2, rfl, hq2l, hq2, ht2, hj2, hb3⟩
          case measure => simp [intOf]; omega
        · gi_wp2
          refine bodyPost_ret (results_none rfl _ _ _) rfl ?_
          exact ⟨⟨_, rfl⟩, .inr (.inr ⟨pre ++ [(t, e)], hpre.out, hjx⟩)⟩
    · have hw := Tok.toks_end (l := s.data.toList) (i := j) (by rw [← hq.out]; exact Nat.le_of_not_lt hlt)
      replace hw := Lib.hid hw
      gi_wp2
      go_end0
      exact ⟨⟨_, rfl⟩, .inl ⟨pre, by rw [ht.out, hw.out]; simp, hj⟩⟩

theorem tokens_seq (n Bs Bw wf : Nat) (cap : Array Value) (s : ByteArray) (hs : s.size ≤ 4294967296) (w : World) (hn1 : 1 ≤ n) (hB1 : Bs < w.heap.size) (hB2 : Bw < w.heap.size)
    (hcs : w.cell? ⟨Bs, 0, none⟩ = some (.string s)) (hcw : w.cell? ⟨Bw, 0, none⟩ = some (.func (.func wf) #[] cap)) (ew : ∀ args w, (callFunc wf args).run Tryd.prog w = .ok (.enter wf args) w) :
    SeqEnds n Tryd.prog 45 #[.pointer (some ⟨Bs, 0, none⟩), .pointer (some ⟨Bw, 0, none⟩)] pairV (fun k => k = Bs ∨ k = Bw) wf (fun b : Nat => #[.int .i64 (b : Int)] ++ cap)
      (fun ys => Tok.toks s.data.toList 0 = (ys, none)) (fun b ys => Tok.toks s.data.toList 0 = (ys, some b)) (fun pre => pre <+: (Tok.toks s.data.toList 0).1) (Tok.toks s.data.toList 0).1.length w :=
  fun l J Jx Jb W hb hJ hY hbad h0 => tokens1_in n l Bs Bw wf cap s hs W hn1 (Nat.lt_of_lt_of_le hB1 hb.size) (Nat.lt_of_lt_of_le hB2 hb.size) ((hb.cell (p := ⟨Bs, 0, none⟩) hB1).trans hcs) ((hb.cell (p := ⟨Bw, 0, none⟩) hB2).trans hcw) ew J Jx Jb hJ hY hbad h0

theorem tokens_any (s : ByteArray) (fn : Fn) (first cap : Array Value) (w : World) :
    Calls Tryd.prog 20 #[.string s, .func fn first cap] w fun e w' => e = .returned (.func (.func 45) #[] #[.pointer (some ⟨w.heap.size, 0, none⟩), .pointer (some ⟨w.heap.size + 1, 0, none⟩)]) ∧ w' = (w.alloc (.cells #[.string s] 9)).alloc (.cells #[.func fn first cap] 51) := by
  go_enter Tryd.func20, Tryd.ntmps20
  go_wp2
  go_ret
  exact ⟨rfl, rfl⟩

end Go.Proofs.YtaeplgakpacobaaDoor
