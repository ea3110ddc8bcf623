/- A range over a function value whose function may, beside yield, call one more function of the caller's ('wrong') before it ends: the caller's law. -/
import Derived.Test.YtmkgalcojoeniaaGreatDoorBase
import Derived.RangeFuncNested
import Derived.RangeFuncBound
import Derived.RangeFuncCalls
import Derived.RangeFuncLeaves
import Derived.OwnWalkIn
import Derived.TacticsInMore
import Derived.LoopNIn
import Derived.LoopIn
set_option maxRecDepth 100000
set_option linter.unusedVariables false
set_option linter.unusedSimpArgs false
namespace Go.Proofs.YtmkgalcojoeniaaGreatDoor
open Go.RowKit

abbrev WF : Fence := Fence.wide

/-- new blocks do not trouble it -/
def Grows {β : Type} (J : β → World → Prop) : Prop := ∀ s W W', J s W → W.grownBy W' none → J s W'

/-- the blocks of a set lie as they lay -/
structure Keeps (Kp : Nat → Prop) (W W' : World) : Prop where
  size : W.heap.size ≤ W'.heap.size
  same : ∀ k, Kp k → W'.heap[k]? = W.heap[k]?
theorem Keeps.refl (Kp : Nat → Prop) (W : World) : Keeps Kp W W := ⟨Nat.le_refl _, fun _ _ => rfl⟩
theorem Keeps.trans {Kp : Nat → Prop} {A B C : World} (h : Keeps Kp A B) (k : Keeps Kp B C) : Keeps Kp A C := ⟨Nat.le_trans h.size k.size, fun i hi => (k.same i hi).trans (h.same i hi)⟩
theorem Keeps.of_below {Kp : Nat → Prop} {B : Nat} {W W' : World} (h : Below B W W') (hk : ∀ k, Kp k → k < B) : Keeps Kp W W' := ⟨h.size, fun k hp => h.block k (hk k hp)⟩
theorem Keeps.of_grownBy {Kp : Nat → Prop} {W W' : World} {row : Option Nat} (hg : W.grownBy W' row) (hlt : ∀ k, Kp k → k < W.heap.size) (hne : ∀ k, Kp k → some k ≠ row) : Keeps Kp W W' := ⟨hg.size, fun k hp => hg.block k (hlt k hp) (hne k hp)⟩
theorem Keeps.cell {Kp : Nat → Prop} {W W' : World} (h : Keeps Kp W W') {b o : Nat} (hb : Kp b) : W'.cell? ⟨b, o, none⟩ = W.cell? ⟨b, o, none⟩ := World.cell?_of_block (h.same b hb)
theorem Keeps.alloc {Kp : Nat → Prop} (W : World) (o : Obj) (hlt : ∀ k, Kp k → k < W.heap.size) : Keeps Kp W (W.alloc o) := ⟨by simp, fun k hp => Below.heap_alloc W o k (hlt k hp)⟩
theorem Keeps.setCell {Kp : Nat → Prop} (W : World) (a : Addr) (v : Value) (hne : ¬ Kp a.block) : Keeps Kp W (W.setCell a v) := ⟨by simp [World.setCell], fun k hp => Below.heap_setCell W a v k (fun e => hne (e ▸ hp))⟩

/-- WHAT A FUNCTION THAT IS RANGED OVER PROMISES: the elements xs come one after the other; then it is over (S), or the function wf is called once (Sb), or a round has said 'no more' (Sp). -/
def SeqEnds {α β : Type} (n : Nat) (P : Program) (gf : Nat) (lb : Array Value) (encs : α → Array Value) (Kp : Nat → Prop) (wf : Nat) (wargs : β → Array Value) (S : List α → Prop) (Sb : β → List α → Prop) (Sp : List α → Prop) (N : Nat) (w : World) : Prop :=
  ∀ (l : Nat) (J Jx : List α → World → Prop) (Jb : β → List α → World → Prop) (W : World), Below w.heap.size w W → Grows J →
    (∀ pre x W1, J pre W1 → pre.length < N → Sp (pre ++ [x]) → YieldAt WF (n - 1) P l (encs x) W1 fun e W' =>
      (e = .returned (.bool true) ∧ J (pre ++ [x]) W' ∧ Keeps Kp W1 W') ∨ (e = .returned (.bool false) ∧ Jx (pre ++ [x]) W')) →
    (∀ pre b W1, J pre W1 → CallsIn WF (n - 1) P wf (wargs b) W1 fun e W' => e = .returned (.tuple #[]) ∧ Jb b pre W') →
    J [] W →
    CallsIn WF n P gf (#[.func (.yield l) #[] #[]] ++ lb) W fun e W' => (∃ v, e = .returned v) ∧ ((∃ ys, S ys ∧ J ys W') ∨ (∃ b ys, Sb b ys ∧ Jb b ys W') ∨ (∃ pre, Sp pre ∧ Jx pre W'))

theorem OwnFrom.grows {β : Type} {B : Nat} {I : β → World → Prop} (h : OwnFrom B I) : Grows I := fun s W W' hs hg => h s W W' none hs hg (fun _ e => by cases e)

theorem range_law {α β : Type} {P : Program} {n : Nat} {g : Operand} {ps : Array Tmp} {assign body : Code} {Q : Exit → Act → World → Prop} {a : Act} {w : World}
    {gf : Nat} {lb : Array Value} (hg : a.eval g = .func (.func gf) #[] lb) (eg : ∀ args w, (callFunc gf args).run P w = .ok (.enter gf args) w)
    {encs : α → Array Value} {Kp : Nat → Prop} {wf : Nat} {wargs : β → Array Value} {S : List α → Prop} {Sb : β → List α → Prop} {Sp : List α → Prop} {N : Nat} (hKp : ∀ k, Kp k → k < w.heap.size)
    (hseq : SeqEnds (n - 1) P gf lb encs Kp wf wargs S Sb Sp N w) (hps : ∀ x, (encs x).size = ps.size)
    (I : List α → World → Prop) (Ix : Code → List α → World → Prop) (Ib : β → List α → World → Prop)
    (hI : OwnFrom w.heap.size I) (hIx : ∀ c, OwnFrom w.heap.size (Ix c)) (hIb : ∀ b, OwnFrom w.heap.size (Ib b)) (h0 : I [] w)
    (Ax : α → Act → World → Prop) (hAx : ∀ x a', OwnFrom w.heap.size (fun (_ : Unit) W => Ax x a' W))
    (hassign : ∀ (l : Nat) (pre : List α) (x : α) (W : World) (K : Act → World → Prop), I pre W → (∀ a' W', KeepsFrom w.heap.size W W' → Keeps Kp W W' → I pre W' → Ax x a' W' → K a' W') →
      assign.wpIn (WF.inRound l) (n - 1 - 1) P (Exit.then K (fun _ _ _ => False)) { tmps := (ps.zip (encs x)).foldl (fun t (p, v) => t.setIfInBounds p v) a.tmps, defers := [] } W)
    (hbody : ∀ (l : Nat) (pre : List α) (x : α) (a' : Act) (W : World), I pre W → Ax x a' W → pre.length < N → Sp (pre ++ [x]) → body.wpIn (WF.inRound l) (n - 1 - 1) P (ownPostG w.heap.size (Keeps Kp) I Ix (pre ++ [x]) W) a' W)
    (hbad : ∀ pre b W1, I pre W1 → CallsIn WF (n - 1 - 1) P wf (wargs b) W1 fun e W' => e = .returned (.tuple #[]) ∧ KeepsFrom w.heap.size W1 W' ∧ Ib b pre W')
    (hdone : ∀ (D : Nat) (xs : List α) (W : World), w.heap.size ≤ D → S xs → I xs W → W.heap[D]? = some (.deferred (some [])) → Q .normal { a with defers := { target := .collected D, args := #[] } :: a.defers } W)
    (hwrong : ∀ (D : Nat) (b : β) (xs : List α) (W : World), w.heap.size ≤ D → Sb b xs → Ib b xs W → W.heap[D]? = some (.deferred (some [])) → Q .normal { a with defers := { target := .collected D, args := #[] } :: a.defers } W)
    (hstop : ∀ (D : Nat) (c : Code) (pre : List α) (W : World), w.heap.size ≤ D → Sp pre → Ix c pre W → W.heap[D]? = some (.deferred (some [])) → c.wpIn WF n P Q { a with defers := { target := .collected D, args := #[] } :: a.defers } W) :
    (Code.rangeFunc g ps assign body).wpIn WF n P Q a w := by
  refine wpIn_rangeFunc fun fn hfn => ?_
  rw [show WF.round = none from rfl]
  obtain ⟨rec, hrec⟩ : ∃ rec : LoopState → Option Code → Loop, rec = fun st pe => { state := st, pending := pe, fn, tmps := a.tmps, params := ps, assign, body, defers := w.heap.size } := ⟨_, rfl⟩
  have rst : ∀ st pe, (rec st pe).state = st := fun st pe => by rw [hrec]
  obtain ⟨W1, hW1⟩ : ∃ W1, (w.alloc (.deferred (some []))).alloc (.loop (rec .ready none)) = W1 := ⟨_, rfl⟩
  have hsz : w.heap.size + 1 < W1.heap.size := by rw [← hW1]; simp
  have hL1 : W1.heap[w.heap.size + 1]? = some (.loop (rec .ready none)) := by rw [← hW1]; exact heap_new2 _ _ _
  have hK1 : W1.heap[w.heap.size]? = some (.deferred (some [])) := by rw [← hW1]; exact heap_new1 _ _ _
  have hI1 : I [] W1 := by rw [← hW1]; exact hI.alloc _ (hI.alloc _ h0)
  have hb1 : Below w.heap.size w W1 := by rw [← hW1]; exact ((Below.refl _ w).alloc (Nat.le_refl _) _).alloc (by simp) _
  -- the two blocks of book-keeping lie on through what only grows, and through what keeps them
  have grow : ∀ {A B : World} {st : LoopState} {pe : Option Code}, A.grownBy B none → A.heap[w.heap.size + 1]? = some (.loop (rec st pe)) ∧ A.heap[w.heap.size]? = some (.deferred (some [])) →
      B.heap[w.heap.size + 1]? = some (.loop (rec st pe)) ∧ B.heap[w.heap.size]? = some (.deferred (some [])) := fun hgr h =>
    ⟨(hgr.block _ (Array.getElem?_eq_some_iff.1 h.1).1 (by simp)).trans h.1, (hgr.block _ (Array.getElem?_eq_some_iff.1 h.2).1 (by simp)).trans h.2⟩
  have keep : ∀ {A B : World} {st : LoopState} {pe : Option Code}, KeepsFrom w.heap.size A B → A.heap[w.heap.size + 1]? = some (.loop (rec st pe)) ∧ A.heap[w.heap.size]? = some (.deferred (some [])) →
      B.heap[w.heap.size + 1]? = some (.loop (rec st pe)) ∧ B.heap[w.heap.size]? = some (.deferred (some [])) := fun hk h =>
    ⟨hk.same _ _ (by omega) h.1 rfl, hk.same _ _ (Nat.le_refl _) h.2 rfl⟩
  have put : ∀ {A : World} {st : LoopState} {pe : Option Code} (st' : LoopState) (pe' : Option Code), A.heap[w.heap.size + 1]? = some (.loop (rec st pe)) ∧ A.heap[w.heap.size]? = some (.deferred (some [])) →
      (A.putObj (w.heap.size + 1) (.loop (rec st' pe'))).heap[w.heap.size + 1]? = some (.loop (rec st' pe')) ∧ (A.putObj (w.heap.size + 1) (.loop (rec st' pe'))).heap[w.heap.size]? = some (.deferred (some [])) := fun st' pe' h =>
    ⟨World.putObj_heap_same (Array.getElem?_eq_some_iff.1 h.1).1, (World.putObj_heap_other (by omega)).trans h.2⟩
  have low : ∀ {A : World} {o : Obj}, w.heap.size + 1 < A.heap.size → Keeps Kp A (A.putObj (w.heap.size + 1) o) := fun _ =>
    ⟨by simp, fun k hk => World.putObj_heap_other (by have := hKp k hk; omega)⟩
  have lt1 : ∀ {A : World} {st : LoopState} {pe : Option Code}, A.heap[w.heap.size + 1]? = some (.loop (rec st pe)) ∧ A.heap[w.heap.size]? = some (.deferred (some [])) → w.heap.size + 1 < A.heap.size := fun h => (Array.getElem?_eq_some_iff.1 h.1).1
  refine ⟨w.heap.size + 1, [{ target := .collected w.heap.size, args := #[] }], W1, { target := .fn (.func gf) lb, args := #[.func (.yield (w.heap.size + 1)) #[] #[]] }, W1, gf,
    #[.func (.yield (w.heap.size + 1)) #[] #[]] ++ lb, W1, by rw [← hW1, hrec]; exact run_enterLoop_outer _ _ _ _ _, by simp only [resolve, hg]; simp [go_sem], fun _ _ => trivial, by simp [invoke, go_sem, eg], fun h => by simp [Fence.wide] at h, ?_⟩
  refine (hseq (w.heap.size + 1)
    (fun pre W => I pre W ∧ W.heap[w.heap.size + 1]? = some (.loop (rec .ready none)) ∧ W.heap[w.heap.size]? = some (.deferred (some [])))
    (fun pre W => ∃ c, Ix c pre W ∧ W.heap[w.heap.size + 1]? = some (.loop (rec .done (some c))) ∧ W.heap[w.heap.size]? = some (.deferred (some [])))
    (fun b pre W => Ib b pre W ∧ W.heap[w.heap.size + 1]? = some (.loop (rec .ready none)) ∧ W.heap[w.heap.size]? = some (.deferred (some [])))
    W1 hb1 (fun s A B hs hgr => ⟨OwnFrom.grows hI s A B hs.1 hgr, grow hgr hs.2⟩) ?round ?bad ⟨hI1, hL1, hK1⟩).mono ?behind
  case bad =>
    rintro pre b W ⟨hi, hr⟩
    exact (hbad pre b W hi).mono fun e W' ⟨he, hk, hib⟩ => ⟨he, hib, keep hk hr⟩
  case round =>
    rintro pre x W ⟨hi, hr⟩ hlen hsp
    have hy := run_yield (P := P) (args := encs x) hr.1 (by rw [hrec]; exact hps x)
    rw [hrec] at hy
    refine ⟨fn, _, assign, body, hy, roundIn_of_wpIn hfn (hassign _ pre x W _ hi ?_)⟩
    clear hy
    intro a' V hkV hbV hiV hax
    have hrV := keep hkV hr
    refine ⟨_, run_beginRound hrV.1 (rst _ _), ?_⟩
    have e1 : ({ rec .ready none with state := .busy } : Loop) = rec .busy none := by rw [hrec]
    rw [e1]
    have hrB := put (st' := .busy) (pe' := none) hrV
    refine wpIn_mono (hbody _ pre x a' _ (hI.putObj _ hiV (by omega) hrV.1 rfl) ((hAx x a').putObj (s := ()) _ hax (by omega) hrV.1 rfl) hlen hsp) ?_
    have fin : ∀ (jump : Option Code) (U : World), KeepsFrom w.heap.size (V.putObj (w.heap.size + 1) (.loop (rec .busy none))) U →
        (Instr.endRound (w.heap.size + 1) jump).run P U = .ok (.bool jump.isNone) (U.putObj (w.heap.size + 1) (.loop (rec (if jump.isNone then .ready else .done) jump))) ∧
        (U.heap[w.heap.size + 1]? = some (.loop (rec .busy none)) ∧ U.heap[w.heap.size]? = some (.deferred (some []))) := fun jump U hkU => by
      have hrU := keep hkU hrB
      have h := run_endRound (P := P) jump hrU.1
      rw [hrec] at h
      exact ⟨by rw [hrec]; exact h, hrU⟩
    rintro e a3 U hp
    cases e with
    | normal =>
      obtain ⟨hkU, hbU, hiU⟩ := hp
      obtain ⟨hrun, hrU⟩ := fin none U hkU
      exact ⟨_, _, hrun, .inl ⟨rfl, ⟨hI.putObj _ hiU (by omega) hrU.1 rfl, put (st' := .ready) (pe' := none) hrU⟩, hbV.trans ((low (lt1 hrV)).trans (hbU.trans (low (lt1 hrU))))⟩⟩
    | ret =>
      obtain ⟨hkU, hiU⟩ := hp
      obtain ⟨hrun, hrU⟩ := fin (some .ret) U hkU
      exact ⟨_, _, hrun, .inr ⟨rfl, .ret, (hIx _).putObj _ hiU (by omega) hrU.1 rfl, put (st' := .done) (pe' := some .ret) hrU⟩⟩
    | exit id =>
      obtain ⟨hkU, hiU⟩ := hp
      obtain ⟨hrun, hrU⟩ := fin (some (.exit id)) U hkU
      exact ⟨_, _, hrun, .inr ⟨rfl, .exit id, (hIx _).putObj _ hiU (by omega) hrU.1 rfl, put (st' := .done) (pe' := some (.exit id)) hrU⟩⟩
    | goto t =>
      obtain ⟨hkU, hiU⟩ := hp
      obtain ⟨hrun, hrU⟩ := fin (some (.goto t)) U hkU
      exact ⟨_, _, hrun, .inr ⟨rfl, .goto t, (hIx _).putObj _ hiU (by omega) hrU.1 rfl, put (st' := .done) (pe' := some (.goto t)) hrU⟩⟩
    | panic ch => exact hp.elim
    | outgrown => exact hp.elim
  case behind =>
    have shut : ∀ {A : World} {st : LoopState} {pe : Option Code}, st ≠ .busy → A.heap[w.heap.size + 1]? = some (.loop (rec st pe)) ∧ A.heap[w.heap.size]? = some (.deferred (some [])) →
        (Instr.endLoop (w.heap.size + 1)).run P A = .ok pe (A.putObj (w.heap.size + 1) (.loop (rec .exhausted pe))) := fun hne h => by
      have := run_endLoop (P := P) h.1 (by rw [rst]; exact hne)
      rw [hrec] at this ⊢
      exact this
    rintro e U ⟨⟨v, rfl⟩, (⟨xs, hS, hi, hr⟩ | ⟨b, xs, hS, hi, hr⟩ | ⟨pre, hSp, c, hi, hr⟩)⟩
    · exact ⟨none, _, shut (by decide) hr, hdone _ xs _ (Nat.le_refl _) hS (hI.putObj _ hi (by omega) hr.1 rfl) (put (st' := .exhausted) (pe' := none) hr).2⟩
    · exact ⟨none, _, shut (by decide) hr, hwrong _ b xs _ (Nat.le_refl _) hS ((hIb b).putObj _ hi (by omega) hr.1 rfl) (put (st' := .exhausted) (pe' := none) hr).2⟩
    · exact ⟨some c, _, shut (by decide) hr, hstop _ c pre _ (Nat.le_refl _) hSp ((hIx c).putObj _ hi (by omega) hr.1 rfl) (put (st' := .exhausted) (pe' := some c) hr).2⟩

theorem holds_row {β : Type} (n₀ B : Nat) (t e : TypeId) (size : Nat) (k : β → Nat) (f : β → List Value) (X : Nat) : OwnFrom X (fun s W => ∃ v, Boxed W B t v ∧ W.ownsRow n₀ e size v (k s) (f s)) := fun s A C row ⟨v, h1, h2⟩ hg hr =>
  let ⟨v', a, b, _⟩ := (Own.from (holdsRow_own n₀ B t e size k f (fun _ _ => True)) X) s A C row ⟨v, h1, h2, trivial⟩ hg hr
  ⟨v', a, b⟩
theorem boxed_from {β : Type} (B : Nat) (t : TypeId) (f : β → Value) (X : Nat) : OwnFrom X (fun s W => Boxed W B t (f s)) := Own.from (boxed_own B t f) X
theorem block_from {β : Type} (B : Nat) (t : TypeId) (cs : β → Array Value) (fr : Nat × Nat) (X : Nat) : OwnFrom X (fun s W => W.heap[B]? = some (.cells (cs s) t fr)) := fun s A C row hs hg hr =>
  (hg.block B (Array.getElem?_eq_some_iff.1 hs).1 (fun e => by obtain ⟨_, o, ho, hc⟩ := hr B e.symm; rw [hs] at ho; cases ho; cases hc)).trans hs

/-- one element appended, inside a fence -/
theorem wpListIn_push {F : Fence} {m : Nat} {P : Program} {W : World} {ops : Array Oper} {rest : List Oper} {o : Oper} {a : Act} {Q : Exit → Act → World → Prop} (hgd : o.guard = none) (s x : Operand) (t : TypeId)
    (ho : o.op = .call { callee := .builtin .append, args := #[s, x], argTypes := #[t, t] })
    (base : Nat) (e : TypeId) {z : Value} {size bytes : Nat} (ht : P.underlying t = some (.slice e)) (hinfo : (P.info? e).map (fun i => (i.zero, i.size, i.bytes)) = some (some z, size, bytes))
    (hzs : z.cells.size = size) (hsz : 0 < size)
    (v : Value) (n : Nat) (xs : List Value) (hs : a.eval s = v) (hown : W.ownsRow base e size v n xs)
    (cs : Array Value) (hx : a.eval x = .slice (some ⟨W.heap.size, 0, none⟩) 1 1) (hl : cs.size = size) (h1 : ∀ u ∈ cs.toList, u.oneCell' = true)
    (hbytes : (n + 1) * bytes ≤ 140737488355328) (hb0 : 0 < bytes) (hbase : base ≤ W.heap.size)
    (h : ∀ v' w1, w1.ownsRow base e size v' (n + 1) (xs ++ cs.toList) → Below base W w1 → (∃ g cap, v' = .slice (some ⟨g, 0, none⟩) (n + 1) cap) → W.grownBy w1 v.ownBlock → wpListIn F m P ops Q rest (a.put o.dst v') w1) :
    wpListIn F m P ops Q (o :: rest) a (W.alloc (.cells cs e)) := by
  obtain ⟨i, hi, hz, hsize, hby⟩ := info_parts hinfo
  have hn : n + 1 ≤ 140737488355328 := Nat.le_trans (Nat.le_mul_of_pos_right _ hb0) hbytes
  refine wpListIn_append_own _ hgd s x t ho base e i z size bytes ht hi hz hsize hby hzs hsz v n xs hs (hown.alloc _) ⟨W.heap.size, 0, none⟩ 1 1 cs.toList hx (by simpa using hl) ?_ h1 (by simp only [maxLen]; omega) hbytes (by simp; omega) ?_
  · intro j u hu
    have hj : (⟨W.heap.size, 0, none⟩ : Addr).add j = ⟨W.heap.size, j, none⟩ := by rw [Addr.add_lit]; simp
    rw [hj, World.cell?_alloc_at _ _ _ _ rfl]
    simpa using hu
  · intro v' w1 hown' hg _
    have hg' : W.grownBy w1 v.ownBlock := ⟨hg.os, hg.tape, hg.output, Nat.le_trans (by simp) hg.size, fun k hk hne => (hg.block k (by simp; omega) hne).trans (Below.heap_alloc W _ k hk)⟩
    refine h v' w1 hown' ?_ ?_ hg'
    · exact (Below.refl base W).grown hg' hbase fun k hk => (hown.lt k hk).1
    · obtain ⟨g, cap, hv, _⟩ := hown'.form (by omega)
      exact ⟨g, cap, hv⟩

/-- a slice in a box of its own has got longer, and the box holds the longer one -/
structure BoxPushed (W w1 : World) (n₀ B : Nat) (t e : TypeId) (size : Nat) (v v' : Value) (m : Nat) (ys : List Value) : Prop where
  still : Boxed w1 B t v
  box : Boxed (w1.setCell ⟨B, 0, none⟩ v') B t v'
  row : (w1.setCell ⟨B, 0, none⟩ v').ownsRow n₀ e size v' m ys
  others : KeepsOthers W (w1.setCell ⟨B, 0, none⟩ v')
  below : Below n₀ W (w1.setCell ⟨B, 0, none⟩ v')
  boxes : ∀ (B' : Nat) (t' : TypeId) (u : Value), B' ≠ B → t' ≠ e → Boxed W B' t' u → Boxed (w1.setCell ⟨B, 0, none⟩ v') B' t' u
  keeps : ∀ Kp : Nat → Prop, (∀ k, Kp k → k < W.heap.size) → (∀ k, Kp k → some k ≠ v.ownBlock) → ¬ Kp B → Keeps Kp W (w1.setCell ⟨B, 0, none⟩ v')

theorem box_push {W w1 : World} {n₀ B : Nat} {t e : TypeId} {size : Nat} {v v' : Value} {k m : Nat} {xs ys : List Value}
    (hv : Boxed W B t v) (hte : t ≠ e) (hrow : W.ownsRow n₀ e size v k xs) (hn₀ : n₀ ≤ W.heap.size) (hB : n₀ ≤ B) (hown' : w1.ownsRow n₀ e size v' m ys) (hg : W.grownBy w1 v.ownBlock) :
    BoxPushed W w1 n₀ B t e size v v' m ys := by
  have hv1 : Boxed w1 B t v := hv.kept hg (hv.not_row hte hrow)
  refine ⟨hv1, hv1.set v', hown'.kept (grownBy_setCell' w1 B v') (.inr (hv1.not_row hte hown').symm), ?_, ?_, ?_, ?_⟩
  · refine (KeepsOthers.of_grownBy hg fun j o ej hj => ?_).trans (KeepsOthers.setCell _ _ _)
    rcases hrow.2 with ⟨rfl, _⟩ | ⟨g, cap, cur, rfl, _, hgb, _⟩
    · simp [Value.ownBlock] at ej
    · obtain rfl : g = j := by simpa [Value.ownBlock] using ej
      rw [hgb] at hj; cases hj; rfl
  · exact ((Below.refl n₀ W).grown hg hn₀ fun k hk => (hrow.lt k hk).1).setCell (p := ⟨B, 0, none⟩) hB v'
  · intro B' t' u hne hte' hb'
    exact Boxed.other (hb'.kept hg (hb'.not_row hte' hrow)) hne v'
  · intro Kp hlt hne hB'
    exact (Keeps.of_grownBy hg hlt hne).trans (Keeps.setCell w1 _ _ hB')

end Go.Proofs.YtmkgalcojoeniaaGreatDoor
