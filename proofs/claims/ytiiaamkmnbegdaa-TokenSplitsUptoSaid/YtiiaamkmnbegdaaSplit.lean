/- A text's statements between semicolons, in plain Lean. -/
import Derived.Test.YtiiaamkmnbegdaaTok4
namespace Go.Proofs.Ytiiaamkmnbegdaa.Tok

/-- where the piece begins (-1: none has begun), where it ends so far, the pieces -/
structure St where
  from_ : Int
  to_ : Nat
  out : List (List UInt8)

def semi (t : T) : Bool := decide (t.kind = 6 ∧ t.text = [59])
def put (l : List UInt8) (st : St) : St := ⟨-1, st.to_, if 0 ≤ st.from_ then st.out ++ [cut l st.from_.toNat st.to_] else st.out⟩
def step (l : List UInt8) (st : St) (x : T × Nat) : St := if semi x.1 = true then put l st else ⟨if st.from_ < 0 then (x.1.at_ : Int) else st.from_, x.2, st.out⟩
def stOf (l : List UInt8) (pre : List (T × Nat)) : St := pre.foldl (step l) ⟨-1, 0, []⟩
theorem stOf_nil (l : List UInt8) : stOf l [] = ⟨-1, 0, []⟩ := rfl
theorem stOf_snoc (l : List UInt8) (pre : List (T × Nat)) (x : T × Nat) : stOf l (pre ++ [x]) = step l (stOf l pre) x := by simp [stOf]
theorem step_semi {l : List UInt8} {st : St} {x : T × Nat} (h : semi x.1 = true) : step l st x = put l st := by rw [step, if_pos h]
theorem step_go {l : List UInt8} {st : St} {x : T × Nat} (h : semi x.1 = false) (hf : 0 ≤ st.from_) : step l st x = ⟨st.from_, x.2, st.out⟩ := by
  rw [step, if_neg (by rw [h]; decide), if_neg (by omega)]
theorem step_new {l : List UInt8} {st : St} {x : T × Nat} (h : semi x.1 = false) (hf : st.from_ < 0) : step l st x = ⟨(x.1.at_ : Int), x.2, st.out⟩ := by
  rw [step, if_neg (by rw [h]; decide), if_pos hf]
theorem put_some {l : List UInt8} {st : St} (h : 0 ≤ st.from_) : put l st = ⟨-1, st.to_, st.out ++ [cut l st.from_.toNat st.to_]⟩ := by rw [put, if_pos h]
theorem put_none {l : List UInt8} {st : St} (h : st.from_ < 0) : put l st = ⟨-1, st.to_, st.out⟩ := by rw [put, if_neg (by omega)]

/-- Split: the pieces, the error's number -/
def split (l : List UInt8) : List (List UInt8) × Nat :=
  match (toks l 0).2 with
  | none => ((put l (stOf l (toks l 0).1)).out, 0)
  | some _ => ([], 250)
theorem split_ok {l : List UInt8} {ys : List (T × Nat)} (h : toks l 0 = (ys, none)) : split l = ((put l (stOf l ys)).out, 0) := by rw [split, h]
theorem split_bad {l : List UInt8} {ys : List (T × Nat)} {b : Nat} (h : toks l 0 = (ys, some b)) : split l = ([], 250) := by rw [split, h]

/-- tokens lie one behind the other -/
def Chain (l : List UInt8) : Nat → List (T × Nat) → Prop
  | _, [] => True
  | j, x :: r => j ≤ x.1.at_ ∧ x.1.at_ < x.2 ∧ x.2 ≤ l.length ∧ Chain l x.2 r
theorem toks_chain (l : List UInt8) (j : Nat) : Chain l j (toks l j).1 := by
  induction hn : l.length - j using Nat.strongRecOn generalizing j with
  | _ n ih =>
    by_cases h : skip l j < l.length
    · cases ho : (one l (skip l j)).2.2 with
      | false => rw [toks_bad h ho]; trivial
      | true =>
        have h1 := skip_ge l j
        have h2 := one_end l (skip l j) h ho
        have h3 := (one_rtext h ho).2.2.2
        rw [toks_step h ho]
        exact ⟨show j ≤ (one l (skip l j)).1.at_ by omega, show (one l (skip l j)).1.at_ < (one l (skip l j)).2.1 by omega, h2.2, ih (l.length - (one l (skip l j)).2.1) (by omega) _ rfl⟩
    · rw [toks_end (by omega)]; trivial
theorem Chain.front {l : List UInt8} {r : List (T × Nat)} : ∀ {pre : List (T × Nat)} {j : Nat}, Chain l j (pre ++ r) → Chain l j pre
  | [], _, _ => trivial
  | _ :: _, _, h => ⟨h.1, h.2.1, h.2.2.1, h.2.2.2.front⟩

/-- a state that reaches no further than j -/
def Fits (l : List UInt8) (st : St) (j : Nat) : Prop := (0 ≤ st.from_ → st.from_.toNat ≤ st.to_) ∧ st.to_ ≤ j ∧ j ≤ l.length ∧ -1 ≤ st.from_
theorem fold_fits (l : List UInt8) : ∀ (pre : List (T × Nat)) (st : St) (j : Nat), Fits l st j → Chain l j pre → ∃ j', Fits l (pre.foldl (step l) st) j'
  | [], st, j, h, _ => ⟨j, h⟩
  | x :: r, st, j, h, hc => by
    have hc1 := hc.1
    have hc2 := hc.2.1
    have hc3 := hc.2.2.1
    obtain ⟨f1, f2, f3, f4⟩ := h
    refine fold_fits l r _ x.2 ?_ hc.2.2.2
    cases hs : semi x.1 with
    | true => rw [step_semi hs, put]; exact ⟨fun h => absurd (show (0 : Int) ≤ -1 from h) (by decide), show st.to_ ≤ x.2 by omega, hc3, show (-1 : Int) ≤ -1 by decide⟩
    | false =>
      by_cases hf : st.from_ < 0
      · rw [step_new hs hf]; exact ⟨fun _ => by simp only [Int.toNat_natCast]; omega, Nat.le_refl _, hc3, by simp only; omega⟩
      · rw [step_go hs (by omega)]; exact ⟨fun h => by have := f1 h; simp only; omega, Nat.le_refl _, hc3, f4⟩
theorem stOf_fits {l : List UInt8} {pre : List (T × Nat)} (h : pre <+: (toks l 0).1) : (0 ≤ (stOf l pre).from_ → (stOf l pre).from_.toNat ≤ (stOf l pre).to_) ∧ (stOf l pre).to_ ≤ l.length ∧ -1 ≤ (stOf l pre).from_ := by
  obtain ⟨r, hr⟩ := h
  have hc := toks_chain l 0
  rw [← hr] at hc
  obtain ⟨j, f1, f2, f3, f4⟩ := fold_fits l pre ⟨-1, 0, []⟩ 0 ⟨fun h => absurd h (by decide), Nat.le_refl _, Nat.zero_le _, by decide⟩ hc.front
  exact ⟨f1, Nat.le_trans f2 f3, f4⟩
theorem step_out (l : List UInt8) (st : St) (x : T × Nat) : (step l st x).out.length ≤ st.out.length + 1 := by
  unfold step put
  split
  · simp only; split <;> simp
  · simp
theorem stOf_out (l : List UInt8) (pre : List (T × Nat)) : (stOf l pre).out.length ≤ pre.length := by
  have : ∀ (pre : List (T × Nat)) (st : St), (pre.foldl (step l) st).out.length ≤ st.out.length + pre.length := by
    intro pre
    induction pre with
    | nil => intro st; simp
    | cons x r ih => intro st; have h1 := ih (step l st x); have h2 := step_out l st x; simp only [List.foldl_cons, List.length_cons]; omega
  have := this pre ⟨-1, 0, []⟩
  simpa [stOf] using this

end Go.Proofs.Ytiiaamkmnbegdaa.Tok
