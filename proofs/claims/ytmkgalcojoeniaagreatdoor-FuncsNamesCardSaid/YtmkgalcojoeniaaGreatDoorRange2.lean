/- The law for a range over a function whose own text ranges over a function and hands yield's elements on: the rounds touch no block that is made behind the call's beginning. -/
import Derived.Test.YtmkgalcojoeniaaGreatDoorRange
set_option maxRecDepth 100000
set_option linter.unusedVariables false
set_option linter.unusedSimpArgs false
namespace Go.Proofs.YtmkgalcojoeniaaGreatDoor
open Go.RowKit

/-- from block B on all lies as it lay -/
structure High (B : Nat) (W W' : World) : Prop where
  size : W.heap.size ≤ W'.heap.size
  same : ∀ k, B ≤ k → k < W.heap.size → W'.heap[k]? = W.heap[k]?
theorem High.refl (B : Nat) (W : World) : High B W W := ⟨Nat.le_refl _, fun _ _ _ => rfl⟩
theorem High.trans {B : Nat} {X Y Z : World} (h : High B X Y) (k : High B Y Z) : High B X Z := ⟨Nat.le_trans h.size k.size, fun i hB hi => (k.same i hB (Nat.lt_of_lt_of_le hi h.size)).trans (h.same i hB hi)⟩
theorem High.mono {B B' : Nat} {X Y : World} (h : High B X Y) (hB : B ≤ B') : High B' X Y := ⟨h.size, fun i hb hi => h.same i (Nat.le_trans hB hb) hi⟩
theorem High.alloc (B : Nat) (W : World) (o : Obj) : High B W (W.alloc o) := ⟨by simp, fun k _ hk => Below.heap_alloc W o k hk⟩
theorem High.drew {B : Nat} {W W' : World} (h : High B W W') : High B W W'.drew := ⟨h.size, h.same⟩
theorem High.setCell (B : Nat) (W : World) (a : Addr) (v : Value) (h : a.block < B) : High B W (W.setCell a v) := ⟨by simp [World.setCell], fun k hB _ => Below.heap_setCell W a v k (by omega)⟩
theorem High.of_below {B : Nat} {W W' : World} (h : Below W.heap.size W W') : High B W W' := ⟨h.size, fun k _ hk => h.block k hk⟩
theorem High.keeps {B : Nat} {W W' : World} (h : High B W W') : KeepsFrom B W W' := ⟨h.size, fun k o hB hk _ => (h.same k hB (Array.getElem?_eq_some_iff.1 hk).1).trans hk⟩
theorem High.boxed {B b : Nat} {W W' : World} {t : TypeId} {v : Value} (h : High B W W') (hb : B ≤ b) (hx : Boxed W b t v) : Boxed W' b t v := (h.same b hb hx.lt).trans hx

/-- what a round owes -/
def highPost {α : Type} (B : Nat) (Kp : Nat → Prop) (I : List α → World → Prop) (Ix : Code → List α → World → Prop) (xs : List α) (W : World) : Exit → Act → World → Prop
  | .normal, _, W' => High B W W' ∧ Keeps Kp W W' ∧ I xs W'
  | .ret, _, W' => High B W W' ∧ Ix .ret xs W'
  | .exit id, _, W' => High B W W' ∧ Ix (.exit id) xs W'
  | .goto t, _, W' => High B W W' ∧ Ix (.goto t) xs W'
  | .panic _, _, _ => False
  | .outgrown, _, _ => False

/-- WHAT SUCH A FUNCTION PROMISES -/
def SeqHigh {α : Type} (n : Nat) (P : Program) (gf : Nat) (lb : Array Value) (encs : α → Array Value) (Kp : Nat → Prop) (S : List α → Prop) (Sp : List α → Prop) (N : Nat) (w : World) : Prop :=
  ∀ (l : Nat) (J Jx : List α → World → Prop) (W : World), Below w.heap.size w W → OwnFrom W.heap.size J → OwnFrom W.heap.size Jx →
    (∀ pre x W1, J pre W1 → pre.length < N → Sp (pre ++ [x]) → YieldAt WF (n - 1) P l (encs x) W1 fun e W' =>
      (e = .returned (.bool true) ∧ J (pre ++ [x]) W' ∧ Keeps Kp W1 W' ∧ High W.heap.size W1 W') ∨ (e = .returned (.bool false) ∧ Jx (pre ++ [x]) W' ∧ High W.heap.size W1 W')) →
    J [] W →
    CallsIn WF n P gf (#[.func (.yield l) #[] #[]] ++ lb) W fun e W' => (∃ v, e = .returned v) ∧ ((∃ ys, S ys ∧ J ys W') ∨ (∃ pre, Sp pre ∧ Jx pre W'))

theorem round_anyDepth {m m' k : Nat} {P : Program} {l : Nat} {f : FuncId} {tmps : Array Value} {assign body : Code} {w : World} {R : Ending → World → Prop}
    (h : RoundIn WF m P l f tmps assign body w R) : RoundIn (WF.inRound k) m' P l f tmps assign body w R := ⟨h.1, fun c cs _ => h.2 c cs (fun d h => by cases h)⟩
theorem yield_anyDepth {m : Nat} (m' k : Nat) {P : Program} {l : Nat} {args : Array Value} {W : World} {R : Ending → World → Prop} (h : YieldAt WF m P l args W R) : YieldAt (WF.inRound k) m' P l args W R := by
  obtain ⟨fn, tmps, assign, body, hy, hR⟩ := h
  exact ⟨fn, tmps, assign, body, hy, round_anyDepth hR⟩

theorem range_law_high {α : Type} {P : Program} {n : Nat} {g : Operand} {ps : Array Tmp} {assign body : Code} {Q : Exit → Act → World → Prop} {a : Act} {w : World}
    {gf : Nat} {lb : Array Value} (hg : a.eval g = .func (.func gf) #[] lb) (eg : ∀ args w, (callFunc gf args).run P w = .ok (.enter gf args) w)
    {encs : α → Array Value} {Kp : Nat → Prop} {S : List α → Prop} {Sp : List α → Prop} {N : Nat} (hKp : ∀ k, Kp k → k < w.heap.size)
    (hseq : SeqHigh (n - 1) P gf lb encs Kp S Sp N w) (hps : ∀ x, (encs x).size = ps.size)
    (I : List α → World → Prop) (Ix : Code → List α → World → Prop)
    (hI : OwnFrom w.heap.size I) (hIx : ∀ c, OwnFrom w.heap.size (Ix c)) (h0 : I [] w)
    (Ax : α → Act → World → Prop) (hAx : ∀ x a', OwnFrom w.heap.size (fun (_ : Unit) W => Ax x a' W))
    (hassign : ∀ (l : Nat) (pre : List α) (x : α) (W : World) (K : Act → World → Prop), I pre W → (∀ a' W', High w.heap.size W W' → Keeps Kp W W' → I pre W' → Ax x a' W' → K a' W') →
      assign.wpIn (WF.inRound l) (n - 1 - 1) P (Exit.then K (fun _ _ _ => False)) { tmps := (ps.zip (encs x)).foldl (fun t (p, v) => t.setIfInBounds p v) a.tmps, defers := [] } W)
    (hbody : ∀ (l : Nat) (pre : List α) (x : α) (a' : Act) (W : World), I pre W → Ax x a' W → pre.length < N → Sp (pre ++ [x]) → body.wpIn (WF.inRound l) (n - 1 - 1) P (highPost w.heap.size Kp I Ix (pre ++ [x]) W) a' W)
    (hdone : ∀ (D : Nat) (xs : List α) (W : World), w.heap.size ≤ D → S xs → I xs W → W.heap[D]? = some (.deferred (some [])) → Q .normal { a with defers := { target := .collected D, args := #[] } :: a.defers } W)
    (hstop : ∀ (D : Nat) (c : Code) (pre : List α) (W : World), w.heap.size ≤ D → Sp pre → Ix c pre W → W.heap[D]? = some (.deferred (some [])) → c.wpIn WF n P Q { a with defers := { target := .collected D, args := #[] } :: a.defers } W) :
    (Code.rangeFunc g ps assign body).wpIn WF n P Q a w := by
  refine wpIn_rangeFunc fun fn hfn => ?_
  rw [show WF.round = none from rfl]
  obtain ⟨rec, hrec⟩ : ∃ rec : LoopState → Option Code → Loop, rec = fun st pe => { state := st, pending := pe, fn, tmps := a.tmps, params := ps, assign, body, defers := w.heap.size } := ⟨_, rfl⟩
  have rst : ∀ st pe, (rec st pe).state = st := fun st pe => by rw [hrec]
  obtain ⟨W1, hW1⟩ : ∃ W1, (w.alloc (.deferred (some []))).alloc (.loop (rec .ready none)) = W1 := ⟨_, rfl⟩
  have hsz : w.heap.size + 1 < W1.heap.size := by rw [← hW1]; simp
  have hL1 : W1.heap[w.heap.size + 1]? = some (.loop (rec .ready none)) := by rw [← hW1]; exact heap_new2 _ _ _
  have hK1 : W1.heap[w.heap.size]? = some (.deferred (some [])) := by rw [← hW1]; exact heap_new1 _ _ _
  have hI1 : I [] W1 := by rw [← hW1]; exact hI.alloc _ (hI.alloc _ h0)
  have hb1 : Below w.heap.size w W1 := by rw [← hW1]; exact ((Below.refl _ w).alloc (Nat.le_refl _) _).alloc (by simp) _
  -- the two blocks of book-keeping lie on through what only grows, and through what keeps them
  have grow : ∀ {A B : World} {st : LoopState} {pe : Option Code}, A.grownBy B none → A.heap[w.heap.size + 1]? = some (.loop (rec st pe)) ∧ A.heap[w.heap.size]? = some (.deferred (some [])) →
      B.heap[w.heap.size + 1]? = some (.loop (rec st pe)) ∧ B.heap[w.heap.size]? = some (.deferred (some [])) := fun hgr h =>
    ⟨(hgr.block _ (Array.getElem?_eq_some_iff.1 h.1).1 (by simp)).trans h.1, (hgr.block _ (Array.getElem?_eq_some_iff.1 h.2).1 (by simp)).trans h.2⟩
  have keep : ∀ {A B : World} {st : LoopState} {pe : Option Code}, High w.heap.size A B → A.heap[w.heap.size + 1]? = some (.loop (rec st pe)) ∧ A.heap[w.heap.size]? = some (.deferred (some [])) →
      B.heap[w.heap.size + 1]? = some (.loop (rec st pe)) ∧ B.heap[w.heap.size]? = some (.deferred (some [])) := fun hk h =>
    ⟨(hk.same _ (by omega) (Array.getElem?_eq_some_iff.1 h.1).1).trans h.1, (hk.same _ (Nat.le_refl _) (Array.getElem?_eq_some_iff.1 h.2).1).trans h.2⟩
  have put : ∀ {A : World} {st : LoopState} {pe : Option Code} (st' : LoopState) (pe' : Option Code), A.heap[w.heap.size + 1]? = some (.loop (rec st pe)) ∧ A.heap[w.heap.size]? = some (.deferred (some [])) →
      (A.putObj (w.heap.size + 1) (.loop (rec st' pe'))).heap[w.heap.size + 1]? = some (.loop (rec st' pe')) ∧ (A.putObj (w.heap.size + 1) (.loop (rec st' pe'))).heap[w.heap.size]? = some (.deferred (some [])) := fun st' pe' h =>
    ⟨World.putObj_heap_same (Array.getElem?_eq_some_iff.1 h.1).1, (World.putObj_heap_other (by omega)).trans h.2⟩
  have low : ∀ {A : World} {o : Obj}, w.heap.size + 1 < A.heap.size → Keeps Kp A (A.putObj (w.heap.size + 1) o) := fun _ =>
    ⟨by simp, fun k hk => World.putObj_heap_other (by have := hKp k hk; omega)⟩
  have lt1 : ∀ {A : World} {st : LoopState} {pe : Option Code}, A.heap[w.heap.size + 1]? = some (.loop (rec st pe)) ∧ A.heap[w.heap.size]? = some (.deferred (some [])) → w.heap.size + 1 < A.heap.size := fun h => (Array.getElem?_eq_some_iff.1 h.1).1
  refine ⟨w.heap.size + 1, [{ target := .collected w.heap.size, args := #[] }], W1, { target := .fn (.func gf) lb, args := #[.func (.yield (w.heap.size + 1)) #[] #[]] }, W1, gf,
    #[.func (.yield (w.heap.size + 1)) #[] #[]] ++ lb, W1, by rw [← hW1, hrec]; exact run_enterLoop_outer _ _ _ _ _, by simp only [resolve, hg]; simp [go_sem], fun _ _ => trivial, by simp [invoke, go_sem, eg], fun h => by simp [Fence.wide] at h, ?_⟩
  have hIW : ∀ {γ : Type} {I : γ → World → Prop}, OwnFrom w.heap.size I → OwnFrom W1.heap.size I := fun h s A B row hs hg hr => h s A B row hs hg (fun r e => ⟨by have := (hr r e).1; omega, (hr r e).2⟩)
  have book : ∀ {A B : World} {st : LoopState} {pe : Option Code} {row : Option Nat}, A.grownBy B row → (∀ r, row = some r → W1.heap.size ≤ r) → A.heap[w.heap.size + 1]? = some (.loop (rec st pe)) ∧ A.heap[w.heap.size]? = some (.deferred (some [])) →
      B.heap[w.heap.size + 1]? = some (.loop (rec st pe)) ∧ B.heap[w.heap.size]? = some (.deferred (some [])) := fun hgr hr h =>
    ⟨(hgr.block _ (Array.getElem?_eq_some_iff.1 h.1).1 (fun e => by have := hr _ e.symm; omega)).trans h.1, (hgr.block _ (Array.getElem?_eq_some_iff.1 h.2).1 (fun e => by have := hr _ e.symm; omega)).trans h.2⟩
  have up : ∀ {A B : World}, High w.heap.size A B → High W1.heap.size A B := fun h => h.mono (by omega)
  have bk : ∀ {A : World} {o : Obj}, High W1.heap.size A (A.putObj (w.heap.size + 1) o) := fun {A o} => ⟨by simp, fun k hk _ => World.putObj_heap_other (by omega)⟩
  refine (hseq (w.heap.size + 1)
    (fun pre W => I pre W ∧ W.heap[w.heap.size + 1]? = some (.loop (rec .ready none)) ∧ W.heap[w.heap.size]? = some (.deferred (some [])))
    (fun pre W => ∃ c, Ix c pre W ∧ W.heap[w.heap.size + 1]? = some (.loop (rec .done (some c))) ∧ W.heap[w.heap.size]? = some (.deferred (some [])))
    W1 hb1 (fun s A B row hs hgr hr => ⟨hIW hI s A B row hs.1 hgr hr, book hgr (fun r e => (hr r e).1) hs.2⟩) (fun s A B row hs hgr hr => by obtain ⟨c, hi, hb⟩ := hs; exact ⟨c, hIW (hIx c) s A B row hi hgr hr, book hgr (fun r e => (hr r e).1) hb⟩) ?round ⟨hI1, hL1, hK1⟩).mono ?behind
  case round =>
    rintro pre x W ⟨hi, hr⟩ hlen hsp
    have hy := run_yield (P := P) (args := encs x) hr.1 (by rw [hrec]; exact hps x)
    rw [hrec] at hy
    refine ⟨fn, _, assign, body, hy, roundIn_of_wpIn hfn (hassign _ pre x W _ hi ?_)⟩
    clear hy
    intro a' V hkV hbV hiV hax
    have hrV := keep hkV hr
    refine ⟨_, run_beginRound hrV.1 (rst _ _), ?_⟩
    have e1 : ({ rec .ready none with state := .busy } : Loop) = rec .busy none := by rw [hrec]
    rw [e1]
    have hrB := put (st' := .busy) (pe' := none) hrV
    refine wpIn_mono (hbody _ pre x a' _ (hI.putObj _ hiV (by omega) hrV.1 rfl) ((hAx x a').putObj (s := ()) _ hax (by omega) hrV.1 rfl) hlen hsp) ?_
    have fin : ∀ (jump : Option Code) (U : World), High w.heap.size (V.putObj (w.heap.size + 1) (.loop (rec .busy none))) U →
        (Instr.endRound (w.heap.size + 1) jump).run P U = .ok (.bool jump.isNone) (U.putObj (w.heap.size + 1) (.loop (rec (if jump.isNone then .ready else .done) jump))) ∧
        (U.heap[w.heap.size + 1]? = some (.loop (rec .busy none)) ∧ U.heap[w.heap.size]? = some (.deferred (some []))) := fun jump U hkU => by
      have hrU := keep hkU hrB
      have h := run_endRound (P := P) jump hrU.1
      rw [hrec] at h
      exact ⟨by rw [hrec]; exact h, hrU⟩
    rintro e a3 U hp
    cases e with
    | normal =>
      obtain ⟨hkU, hbU, hiU⟩ := hp
      obtain ⟨hrun, hrU⟩ := fin none U hkU
      exact ⟨_, _, hrun, .inl ⟨rfl, ⟨hI.putObj _ hiU (by omega) hrU.1 rfl, put (st' := .ready) (pe' := none) hrU⟩, hbV.trans ((low (lt1 hrV)).trans (hbU.trans (low (lt1 hrU)))), (up hkV).trans (bk.trans ((up hkU).trans bk))⟩⟩
    | ret =>
      obtain ⟨hkU, hiU⟩ := hp
      obtain ⟨hrun, hrU⟩ := fin (some .ret) U hkU
      exact ⟨_, _, hrun, .inr ⟨rfl, ⟨.ret, (hIx _).putObj _ hiU (by omega) hrU.1 rfl, put (st' := .done) (pe' := some .ret) hrU⟩, (up hkV).trans (bk.trans ((up hkU).trans bk))⟩⟩
    | exit id =>
      obtain ⟨hkU, hiU⟩ := hp
      obtain ⟨hrun, hrU⟩ := fin (some (.exit id)) U hkU
      exact ⟨_, _, hrun, .inr ⟨rfl, ⟨.exit id, (hIx _).putObj _ hiU (by omega) hrU.1 rfl, put (st' := .done) (pe' := some (.exit id)) hrU⟩, (up hkV).trans (bk.trans ((up hkU).trans bk))⟩⟩
    | goto t =>
      obtain ⟨hkU, hiU⟩ := hp
      obtain ⟨hrun, hrU⟩ := fin (some (.goto t)) U hkU
      exact ⟨_, _, hrun, .inr ⟨rfl, ⟨.goto t, (hIx _).putObj _ hiU (by omega) hrU.1 rfl, put (st' := .done) (pe' := some (.goto t)) hrU⟩, (up hkV).trans (bk.trans ((up hkU).trans bk))⟩⟩
    | panic ch => exact hp.elim
    | outgrown => exact hp.elim
  case behind =>
    have shut : ∀ {A : World} {st : LoopState} {pe : Option Code}, st ≠ .busy → A.heap[w.heap.size + 1]? = some (.loop (rec st pe)) ∧ A.heap[w.heap.size]? = some (.deferred (some [])) →
        (Instr.endLoop (w.heap.size + 1)).run P A = .ok pe (A.putObj (w.heap.size + 1) (.loop (rec .exhausted pe))) := fun hne h => by
      have := run_endLoop (P := P) h.1 (by rw [rst]; exact hne)
      rw [hrec] at this ⊢
      exact this
    rintro e U ⟨⟨v, rfl⟩, (⟨xs, hS, hi, hr⟩ | ⟨pre, hSp, c, hi, hr⟩)⟩
    · exact ⟨none, _, shut (by decide) hr, hdone _ xs _ (Nat.le_refl _) hS (hI.putObj _ hi (by omega) hr.1 rfl) (put (st' := .exhausted) (pe' := none) hr).2⟩
    · exact ⟨some c, _, shut (by decide) hr, hstop _ c pre _ (Nat.le_refl _) hSp ((hIx c).putObj _ hi (by omega) hr.1 rfl) (put (st' := .exhausted) (pe' := some c) hr).2⟩

end Go.Proofs.YtmkgalcojoeniaaGreatDoor
