/- Walks: the reference's Groups: slices of rows of which the last still grows. -/
import Derived.Test.YtdapnemcdgjeeaaDoorRsrt
set_option maxRecDepth 100000
set_option linter.unusedVariables false
set_option linter.unusedSimpArgs false
namespace Go.Proofs.YtdapnemcdgjeeaaDoor
open Go.RowKit
open Go.Proofs.YtdapnemcdgjeeaaDoor.Ord (atV firstV standV mayRow MRow)
open Go.Proofs.YtdapnemcdgjeeaaDoor.Stb (seg runsN)

/-- a value that is a row which stood in an earlier world -/
def RElem (w1 : World) (u : Value) (r : List Val.V) : Prop := ∃ q c, u = .slice q r.length c ∧ SlOk q r.length c ∧ ValsAt w1 q r.length r
/-- a run that is done: its block is older than h, and is not X -/
def GOld (w1 W : World) (h : Nat) (X : Option Nat) (u : Value) (g : List (List Val.V)) : Prop :=
  ∃ bk off c, u = .slice (some ⟨bk, off, none⟩) g.length c ∧ bk < h ∧ bk < W.heap.size ∧ X ≠ some bk ∧ ∀ k r, g[k]? = some r → ∃ y, W.cell? ⟨bk, off + k, none⟩ = some y ∧ RElem w1 y r
/-- the run that grows: the call owns its block, which is not older than h, and is not X -/
def GLast (w1 W : World) (h : Nat) (X : Option Nat) (u : Value) (g : List (List Val.V)) : Prop :=
  ∃ ds, W.ownsRow w1.heap.size 34 1 u g.length ds ∧ (∀ (k : Nat) (y : Value) (r : List Val.V), ds[k]? = some y → g[k]? = some r → RElem w1 y r) ∧ ∃ bl, u.ownBlock = some bl ∧ h ≤ bl ∧ X ≠ some bl
/-- the reference's runs -/
def GR (w1 W : World) (v : Value) (n : Nat) (gs : List (List (List Val.V))) : Prop :=
  ∃ (h : Nat) (cs : List Value), W.ownsRow w1.heap.size 22 1 v n cs ∧ cs.length = n ∧ gs.length = n ∧
    (∀ (k : Nat) (u : Value) (g : List (List Val.V)), k + 1 < n → cs[k]? = some u → gs[k]? = some g → GOld w1 W h v.ownBlock u g) ∧
    (∀ (k : Nat) (u : Value) (g : List (List Val.V)), k + 1 = n → cs[k]? = some u → gs[k]? = some g → GLast w1 W h v.ownBlock u g)
theorem GR.nil (w1 W : World) : GR w1 W (.slice none 0 0) 0 [] := ⟨0, [], World.ownsRow_nil _ _ _ _, rfl, rfl, fun k u g hk => by omega, fun k u g hk => by omega⟩
theorem GOld.kept {w1 W W' : World} {h h' : Nat} {X X' : Option Nat} {u : Value} {g : List (List Val.V)} (hg : GOld w1 W h X u g) (hh : ∀ b, b < h → b < W.heap.size → X ≠ some b → W'.heap[b]? = W.heap[b]?) (hs : W.heap.size ≤ W'.heap.size) (hle : ∀ b, b < h → b < W.heap.size → b < h') (hX : ∀ b, b < h → b < W.heap.size → X ≠ some b → X' ≠ some b) : GOld w1 W' h' X' u g := by
  obtain ⟨bk, off, c, e, h1, h2, h3, h4⟩ := hg
  refine ⟨bk, off, c, e, hle bk h1 h2, by omega, hX bk h1 h2 h3, fun k r hk => ?_⟩
  obtain ⟨y, hy, hr⟩ := h4 k r hk
  refine ⟨y, ?_, hr⟩
  rw [← hy]
  unfold World.cell?
  rw [hh bk h1 h2 h3]
theorem GLast.old {w1 W : World} {h : Nat} {X : Option Nat} {u : Value} {g : List (List Val.V)} (hg : GLast w1 W h X u g) : GOld w1 W W.heap.size X u g := by
  obtain ⟨ds, h1, h2, bl, h3, h4, h5⟩ := hg
  rcases id h1.2 with ⟨e, _⟩ | ⟨b, cap, cur, e, hb, hh, hn, _⟩
  · rw [e] at h3; cases h3
  · subst e
    have hbl : b = bl := by injection h3
    subst hbl
    have hlt := (h1.lt b rfl).2
    refine ⟨b, 0, cap, rfl, hlt, hlt, h5, fun k r hk => ?_⟩
    have hkn : k < g.length := (List.getElem?_eq_some_iff.1 hk).1
    have hl := h1.1
    have hd : ds[k]? = some ds[k] := List.getElem?_eq_getElem (by omega)
    refine ⟨ds[k], ?_, h2 k _ r hd hk⟩
    rw [Nat.zero_add, h1.cellAt k (by omega), hd]
theorem GLast.kept {w1 W W' : World} {h : Nat} {X X' : Option Nat} {u : Value} {g : List (List Val.V)} (hg : GLast w1 W h X u g) (hh : ∀ b, u.ownBlock = some b → b < W.heap.size → X ≠ some b → W'.heap[b]? = W.heap[b]? ∧ X' ≠ some b) : GLast w1 W' h X' u g := by
  obtain ⟨ds, h1, h2, bl, h3, h4, h5⟩ := hg
  have hlt := (h1.lt bl h3).2
  obtain ⟨k1, k2⟩ := hh bl h3 hlt h5
  refine ⟨ds, ⟨h1.1, ?_⟩, h2, bl, h3, h4, k2⟩
  rcases h1.2 with h | ⟨b, cap, cur, e, hb, hc, rest⟩
  · exact .inl h
  · refine .inr ⟨b, cap, cur, e, hb, ?_, rest⟩
    subst e
    have hbl : b = bl := by injection h3
    subst hbl
    rw [k1]; exact hc
theorem GR.below {w1 W W' : World} {v : Value} {n : Nat} {gs : List (List (List Val.V))} (hg : GR w1 W v n gs) (hb : Below W.heap.size W W') : GR w1 W' v n gs := by
  obtain ⟨h, cs, h1, h2, h3, h4, h5⟩ := hg
  have hg : W.grownBy W' none := ⟨hb.os, hb.tape, hb.output, hb.size, fun k hk _ => hb.block k hk⟩
  refine ⟨h, cs, h1.kept hg (by cases v.ownBlock <;> simp), h2, h3, fun k u g hk hc hgg => ?_, fun k u g hk hc hgg => ?_⟩
  · exact (h4 k u g hk hc hgg).kept (fun b _ hlt _ => hb.block b hlt) hb.size (fun b hb1 _ => hb1) (fun b _ _ hx => hx)
  · exact (h5 k u g hk hc hgg).kept fun b _ hlt hx => ⟨hb.block b hlt, hx⟩
theorem GOld.at {w1 W : World} {h : Nat} {X : Option Nat} {u : Value} {g : List (List Val.V)} (hg : GOld w1 W h X u g) (hb : Below w1.heap.size w1 W) : ∃ q c, u = .slice q g.length c ∧ RowsAt W q g.length g := by
  obtain ⟨bk, off, c, e, _, h2, _, h4⟩ := hg
  refine ⟨_, c, e, rfl, .inr ⟨bk, off, rfl, h2, fun k r hk => ?_⟩⟩
  obtain ⟨y, hy, q, c', e', hs, hv⟩ := h4 k r hk
  exact ⟨q, c', by rw [hy, e'], hs, hv.below hb⟩
theorem GR.at {w1 W : World} {q : Option Addr} {n c : Nat} {gs : List (List (List Val.V))} (hg : GR w1 W (.slice q n c) n gs) (hb : Below w1.heap.size w1 W) : GroupsAt W q n gs := by
  obtain ⟨h, cs, h1, h2, h3, h4, h5⟩ := hg
  refine ⟨h3, ?_⟩
  by_cases h0 : n = 0
  · subst h0; left; exact List.eq_nil_of_length_eq_zero h3
  · right
    obtain ⟨b, cap, hf, hbg, hbl⟩ := h1.form (by omega)
    injection hf with e1 e2 e3
    subst e1 e3
    refine ⟨b, 0, rfl, hbl, fun k gr hk => ?_⟩
    have hkn : k < n := by have := (List.getElem?_eq_some_iff.1 hk).1; omega
    have hu : cs[k]? = some cs[k] := List.getElem?_eq_getElem (by omega)
    have hgo : ∃ q c, cs[k] = .slice q gr.length c ∧ RowsAt W q gr.length gr := by
      by_cases hl : k + 1 = n
      · exact (h5 k _ gr hl hu hk).old.at hb
      · exact (h4 k _ gr (by omega) hu hk).at hb
    obtain ⟨q', c', e, hr⟩ := hgo
    refine ⟨q', c', ?_, hr⟩
    rw [Nat.zero_add, h1.cellAt k (by omega), hu, e]
theorem heap_one (W : World) (o p : Obj) (b : Nat) (h : b < W.heap.size) : ((W.alloc o).alloc p).heap[b]? = W.heap[b]? := (Below.heap_alloc _ _ _ (by simp; omega)).trans (Below.heap_alloc _ _ _ h)
/-- A NEW RUN of one row -/
theorem wpList_newRun {w1 W : World} {ops : Array Oper} {rest : List Oper} {o : Oper} {a : Act} {Q : Exit → Act → World → Prop} (hgd : o.guard = none) (s x : Operand)
    (ho : o.op = .call { callee := .builtin .append, args := #[s, x], argTypes := #[37, 37] })
    (v : Value) (n : Nat) (gs : List (List (List Val.V))) (hs : a.eval s = v) (hg : GR w1 W v n gs) (hb : Below w1.heap.size w1 W) (u : Value) (r : List Val.V) (hr : RElem w1 u r)
    (hx : a.eval x = .slice (some ⟨W.heap.size + 1, 0, none⟩) 1 1) (hn : n ≤ 1099511627776)
    (h : ∀ q c w', GR w1 w' (.slice q (n + 1) c) (n + 1) (gs ++ [[r]]) → Below w1.heap.size W w' → wpList Tryd.prog ops Q rest (a.put o.dst (.slice q (n + 1) c)) w') :
    wpList Tryd.prog ops Q (o :: rest) a ((W.alloc (.cells #[u] 34)).alloc (.cells #[.slice (some ⟨W.heap.size, 0, none⟩) 1 1] 22)) := by
  obtain ⟨i, hi, hz, hsize, hby⟩ := info_parts grp_info
  obtain ⟨hh, cs, h1, h2, h3, h4, h5⟩ := hg
  have hx' : a.eval x = .slice (some ⟨(W.alloc (.cells #[u] 34)).heap.size, 0, none⟩) 1 1 := by rw [hx]; simp
  refine wpList_append_own_at _ hgd s x 37 ho w1.heap.size 22 i _ 1 24 Tryd.underlying37 hi hz hsize hby rfl (by decide) v n cs hs ((h1.alloc _).alloc _) ⟨(W.alloc (.cells #[u] 34)).heap.size, 0, none⟩ 1 1 [.slice (some ⟨W.heap.size, 0, none⟩) 1 1] hx' rfl (cell_one_new _ _ _) (sl_one _ _ _) (by unfold maxLen; omega) (by omega) (by have := hb.size; simp; omega) ?_
  intro v' w' hown' hgr _ hloc
  obtain ⟨q', c', rfl⟩ := vshape hown'
  have hXlt : ∀ b, v.ownBlock = some b → b < W.heap.size := fun b hb' => (h1.lt b hb').2
  have hloc' : (Value.slice q' (n + 1) c').ownBlock = v.ownBlock ∨ (Value.slice q' (n + 1) c').ownBlock = some (W.heap.size + 2) := hloc.imp id fun e => by rw [e]; simp
  have hkeep : ∀ b, b < W.heap.size → v.ownBlock ≠ some b → w'.heap[b]? = W.heap[b]? := fun b hlt hne => (hgr.block b (by simp; omega) (fun e => hne e.symm)).trans (heap_one _ _ _ b hlt)
  have hXX : ∀ b, b < W.heap.size → v.ownBlock ≠ some b → (Value.slice q' (n + 1) c').ownBlock ≠ some b := by
    intro b hlt hne e
    rcases hloc' with e' | e'
    · exact hne (e'.symm.trans e)
    · rw [e'] at e; injection e with e; omega
  have hgs := hgr.size
  simp at hgs
  refine h q' c' w' ⟨W.heap.size, cs ++ [.slice (some ⟨W.heap.size, 0, none⟩) 1 1], hown', by simp [h2], by simp [h3], fun k y z hk hc hgg => ?_, fun k y z hk hc hgg => ?_⟩ ?_
  · rw [List.getElem?_append_left (by omega)] at hc hgg
    have hold : ∃ h', GOld w1 W h' v.ownBlock y z := by
      by_cases hl : k + 1 = n
      · exact ⟨_, (h5 k y z hl hc hgg).old⟩
      · exact ⟨_, h4 k y z (by omega) hc hgg⟩
    obtain ⟨h', hold⟩ := hold
    exact hold.kept (fun b _ hlt hne => hkeep b hlt hne) (by omega) (fun b _ hlt => hlt) (fun b _ hlt hne => hXX b hlt hne)
  · obtain rfl : k = n := by omega
    rw [List.getElem?_append_right (by omega)] at hc hgg
    rw [h2] at hc
    rw [h3] at hgg
    simp at hc hgg
    subst hc hgg
    have hblk : w'.heap[W.heap.size]? = some (.cells #[u] 34) := by
      rw [hgr.block W.heap.size (by simp; omega) (fun e => by have := hXlt _ e.symm; omega)]
      exact heap_new1 _ _ _
    refine ⟨[u], ⟨rfl, .inr ⟨W.heap.size, 1, #[u], rfl, hb.size, hblk, Nat.le_refl _, by unfold maxLen; omega, rfl, rfl⟩⟩, fun k y z hk hz => ?_, W.heap.size, rfl, Nat.le_refl _, ?_⟩
    · match k, hk, hz with
      | 0, hk, hz => simp at hk hz; subst hk hz; exact hr
      | k + 1, hk, hz => simp at hk
    · rcases hloc' with e' | e'
      · rw [e']; exact fun e => by have := hXlt _ e; omega
      · rw [e']; exact fun e => by injection e with e; omega
  · have hg' : W.grownBy w' v.ownBlock := ⟨hgr.os, hgr.tape, hgr.output, by omega, fun k hk hne => (hgr.block k (by simp; omega) hne).trans (heap_one _ _ _ k hk)⟩
    exact (Below.refl w1.heap.size W).grown hg' hb.size fun k hk => (h1.lt k hk).1
/-- the reference's runs: those that are done, and the one that grows, which u holds -/
def GPre (w1 W : World) (v : Value) (n : Nat) (gs : List (List (List Val.V))) (g : List (List Val.V)) (u : Value) : Prop :=
  ∃ (h : Nat) (cs : List Value), W.ownsRow w1.heap.size 22 1 v n cs ∧ cs.length = n ∧ gs.length + 1 = n ∧
    (∀ (k : Nat) (u : Value) (g : List (List Val.V)), cs[k]? = some u → gs[k]? = some g → GOld w1 W h v.ownBlock u g) ∧ GLast w1 W h v.ownBlock u g
theorem GPre.below {w1 W W' : World} {v u : Value} {n : Nat} {gs : List (List (List Val.V))} {g : List (List Val.V)} (hg : GPre w1 W v n gs g u) (hb : Below W.heap.size W W') : GPre w1 W' v n gs g u := by
  obtain ⟨h, cs, h1, h2, h3, h4, h5⟩ := hg
  have hg : W.grownBy W' none := ⟨hb.os, hb.tape, hb.output, hb.size, fun k hk _ => hb.block k hk⟩
  exact ⟨h, cs, h1.kept hg (by cases v.ownBlock <;> simp), h2, h3, fun k u g hc hgg => (h4 k u g hc hgg).kept (fun b _ hlt _ => hb.block b hlt) hb.size (fun b hb1 _ => hb1) (fun b _ _ hx => hx), h5.kept fun b _ hlt hx => ⟨hb.block b hlt, hx⟩⟩
theorem GR.pre {w1 W : World} {v : Value} {n : Nat} {gs : List (List (List Val.V))} (hg : GR w1 W v n gs) (hn : 0 < n) : ∃ gs0 g u X c, gs = gs0 ++ [g] ∧ GPre w1 W v n gs0 g u ∧ v = .slice (some ⟨X, 0, none⟩) n c ∧ w1.heap.size ≤ X ∧ X < W.heap.size ∧ W.cell? ⟨X, n - 1, none⟩ = some u := by
  obtain ⟨h, cs, h1, h2, h3, h4, h5⟩ := hg
  obtain ⟨X, c, hf, hbg, hbl⟩ := h1.form hn
  have hne : gs ≠ [] := fun e => by rw [e] at h3; simp at h3; omega
  have hsp := (List.dropLast_concat_getLast hne).symm
  have hgl : gs[n - 1]? = some (gs.getLast hne) := by rw [List.getLast_eq_getElem, List.getElem?_eq_getElem (by omega)]; simp [h3]
  have hcl : cs[n - 1]? = some cs[n - 1] := List.getElem?_eq_getElem (by omega)
  refine ⟨gs.dropLast, gs.getLast hne, cs[n - 1], X, c, hsp, ⟨h, cs, h1, h2, by rw [List.length_dropLast]; omega, fun k u g hc hgg => ?_, h5 (n - 1) _ _ (by omega) hcl hgl⟩, hf, hbg, hbl, ?_⟩
  · have hk : k < gs.length - 1 := by have := (List.getElem?_eq_some_iff.1 hgg).1; simpa using this
    rw [List.getElem?_dropLast, if_pos hk] at hgg
    exact h4 k u g (by omega) hc hgg
  · subst hf
    rw [← hcl]
    exact h1.cellAt (n - 1) (by omega)
/-- ONE ROW MORE to the run that grows -/
theorem step_pushLast {w1 W : World} {ops : Array Oper} {o : Oper} {a : Act} {K : Act → World → Prop} {Q : Exit → Act → World → Prop} {E : Prop} (hgd : o.guard = none) (s x : Operand)
    (ho : o.op = .call { callee := .builtin .append, args := #[s, x], argTypes := #[22, 22] })
    (v u : Value) (n : Nat) (gs : List (List (List Val.V))) (g : List (List Val.V)) (hs : a.eval s = u) (hg : GPre w1 W v n gs g u) (hb : Below w1.heap.size w1 W) (y : Value) (r : List Val.V) (hr : RElem w1 y r)
    (hx : a.eval x = .slice (some ⟨W.heap.size, 0, none⟩) 1 1) (hlen : g.length ≤ 1099511627776)
    (h : ∀ u' w', GPre w1 w' v n gs (g ++ [r]) u' → Below w1.heap.size W w' → K (a.put o.dst u') w') :
    if Region.wanted o (yielded ops a.tmps) = true then Oper.wp Tryd.prog o a (W.alloc (.cells #[y] 34)).drew K Q else E := by
  obtain ⟨hh, cs, h1, h2, h3, h4, ds, d1, d2, bl, d3, d4, d5⟩ := hg
  obtain ⟨i, hi, hz, hsize, hby⟩ := info_parts rows_info
  have hw : Region.wanted o (yielded ops a.tmps) = true := by simp [Region.wanted, hgd]
  rw [if_pos hw]
  have d1' : (W.alloc (.cells #[y] 34)).drew.ownsRow w1.heap.size 34 1 u g.length ds := d1.alloc _
  have hnews : ∀ j z, ([y] : List Value)[j]? = some z → (W.alloc (.cells #[y] 34)).drew.cell? ((⟨W.heap.size, 0, none⟩ : Addr).add j) = some z := cell_one_new _ _ _
  have hy1 : ∀ z ∈ ([y] : List Value), z.oneCell' = true := by
    intro z hz
    obtain ⟨q, c, e, _⟩ := hr
    simp at hz
    subst hz
    rw [e]; rfl
  obtain ⟨u', w', hrun, hown, hgr, _, hloc⟩ := run_append_own_at (P := Tryd.prog) _ w1.heap.size 22 o.type 34 i (.slice none 0 0) 1 24 Tryd.underlying22 hi hz hsize hby rfl (by decide) u g.length ds d1' ⟨W.heap.size, 0, none⟩ 1 1 [y] rfl hnews hy1 (by unfold maxLen; omega) (by omega) (Nat.le_trans hb.size (by show W.heap.size ≤ (W.alloc (.cells #[y] 34)).heap.size; simp))
  unfold Oper.wp execOp
  simp only [ho, resolve, invoke, builtin, Sem.run_bind, Sem.run_pure, Result.andThen_ok, List.map_toArray, List.map_cons, List.map_nil, hs, hx, hrun]
  have hsz : (W.alloc (.cells #[y] 34)).drew.heap.size = W.heap.size + 1 := by show (W.alloc (.cells #[y] 34)).heap.size = _; simp
  have hb1 : ∀ b, b < W.heap.size → (W.alloc (.cells #[y] 34)).drew.heap[b]? = W.heap[b]? := fun b hlt => Below.heap_alloc W _ b hlt
  have hgs := hgr.size
  rw [hsz] at hgs
  have hblt : bl < W.heap.size := (d1.lt bl d3).2
  have hg' : W.grownBy w' u.ownBlock := ⟨hgr.os, hgr.tape, hgr.output, by omega, fun k hk hne => (hgr.block k (by rw [hsz]; omega) hne).trans (hb1 k hk)⟩
  have hkeep : ∀ b, b < W.heap.size → u.ownBlock ≠ some b → w'.heap[b]? = W.heap[b]? := fun b hlt hne => hg'.block b hlt (fun e => hne e.symm)
  refine h u' w' ⟨min hh W.heap.size, cs, h1.kept hg' (.inr (by rw [d3]; exact d5)), h2, h3, fun k z g0 hc hgg => ?_, ds ++ [y], by simpa using hown, fun k z r' hk hz => ?_, ?_⟩ ?_
  · have ho := h4 k z g0 hc hgg
    refine ho.kept (fun b hbh hlt _ => hkeep b hlt (by rw [d3]; intro e; injection e with e; omega)) (by omega) (fun b hbh hlt => by omega) (fun b _ _ hx => hx)
  · have hdl := d1.1
    by_cases hkn : k < g.length
    · rw [List.getElem?_append_left (by omega)] at hk hz
      exact d2 k z r' hk hz
    · have hk0 : k = g.length := by
        have := (List.getElem?_eq_some_iff.1 hk).1
        simp at this; omega
      subst hk0
      rw [List.getElem?_append_right (by omega)] at hk hz
      rw [show ds.length = g.length by omega] at hk
      simp at hk hz
      subst hk hz
      exact hr
  · rcases hloc with e | e
    · exact ⟨bl, e.trans d3, by omega, d5⟩
    · rw [hsz] at e
      refine ⟨W.heap.size + 1, e, by omega, fun e' => ?_⟩
      have := (h1.lt _ e').2
      omega
  · exact (Below.refl w1.heap.size W).grown hg' hb.size fun k hk => (d1.lt k hk).1
/-- the head of the run that grows is put into its place -/
theorem GPre.set {w1 W : World} {X n c : Nat} {u : Value} {gs : List (List (List Val.V))} {g : List (List Val.V)} (hg : GPre w1 W (.slice (some ⟨X, 0, none⟩) n c) n gs g u) : GR w1 (W.setCell ⟨X, n - 1, none⟩ u) (.slice (some ⟨X, 0, none⟩) n c) n (gs ++ [g]) := by
  obtain ⟨h, cs, h1, h2, h3, h4, h5⟩ := hg
  have hne : ∀ b, (Value.slice (some ⟨X, 0, none⟩) n c).ownBlock ≠ some b → (W.setCell ⟨X, n - 1, none⟩ u).heap[b]? = W.heap[b]? := fun b hb => Below.heap_setCell _ _ _ _ (fun e => hb (by rw [e]; rfl))
  have hsz : (W.setCell ⟨X, n - 1, none⟩ u).heap.size = W.heap.size := by simp
  have hown : (W.setCell ⟨X, n - 1, none⟩ u).ownsRow w1.heap.size 22 1 (.slice (some ⟨X, 0, none⟩) n c) n (cs.set (n - 1) u) := by
    rcases h1.2 with ⟨e, _⟩ | ⟨b, cap, cur, e, hb, hc, hn, hm, hcs, htake⟩
    · cases e
    · injection e with e1 e2 e3
      injection e1 with e1
      injection e1 with e1
      subst e1 e3
      refine ⟨by simpa using h1.1, .inr ⟨X, c, cur.setIfInBounds (n - 1) u, rfl, hb, heap_setCell_same _ _ _ _ _ _ hc, hn, hm, by simpa using hcs, ?_⟩⟩
      rw [Array.toList_setIfInBounds, List.take_set, htake]
  refine ⟨h, cs.set (n - 1) u, hown, by simp [h2], by simp; omega, fun k y z hk hc hgg => ?_, fun k y z hk hc hgg => ?_⟩
  · rw [List.getElem?_set_ne (by omega)] at hc
    rw [List.getElem?_append_left (by omega)] at hgg
    exact (h4 k y z hc hgg).kept (fun b _ _ hx => hne b hx) (by rw [hsz]; exact Nat.le_refl _) (fun b hb _ => hb) (fun b _ _ hx => hx)
  · obtain rfl : k = n - 1 := by omega
    rw [List.getElem?_set_self (by omega)] at hc
    rw [List.getElem?_append_right (by omega), show n - 1 - gs.length = 0 by omega] at hgg
    simp at hc hgg
    subst hc hgg
    exact h5.kept fun b _ _ hx => ⟨hne b hx, hx⟩
theorem GPre.free {w1 W : World} {X n c : Nat} {u : Value} {gs : List (List (List Val.V))} {g : List (List Val.V)} (hg : GPre w1 W (.slice (some ⟨X, 0, none⟩) n c) n gs g u) (k : Nat) : W.frozen? ⟨X, k, none⟩ = false := by
  obtain ⟨h, cs, h1, _⟩ := hg
  rcases h1.2 with ⟨e, _⟩ | ⟨b, cap, cur, e, hb, hc, _⟩
  · cases e
  · injection e with e1 e2 e3
    injection e1 with e1
    injection e1 with e1
    subst e1
    simp [World.frozen?, hc]
theorem GPre.shape {w1 W : World} {v u : Value} {n : Nat} {gs : List (List (List Val.V))} {g : List (List Val.V)} (hg : GPre w1 W v n gs g u) : ∃ b c, u = .slice (some ⟨b, 0, none⟩) g.length c := by
  obtain ⟨h, cs, _, _, _, _, ds, h1, _, bl, h3, _⟩ := hg
  rcases h1.2 with ⟨e, _⟩ | ⟨b, cap, cur, e, _⟩
  · rw [e] at h3; cases h3
  · exact ⟨b, cap, e⟩
end Go.Proofs.YtdapnemcdgjeeaaDoor
