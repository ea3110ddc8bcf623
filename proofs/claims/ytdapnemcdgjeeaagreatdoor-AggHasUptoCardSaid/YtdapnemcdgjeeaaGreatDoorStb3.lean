/- Sorting: where the order tells all rows apart, the order ahead counts for nothing; groups. In plain Lean. -/
import Derived.Test.YtdapnemcdgjeeaaGreatDoorOrd
set_option maxRecDepth 100000
set_option linter.unusedVariables false
set_option linter.unusedSimpArgs false
namespace Go.Proofs.YtdapnemcdgjeeaaGreatDoor.Stb
variable {α : Type}

theorem ins_swap {lt : α → α → Bool} (h : SWO lt) (ha : ∀ a b, lt a b = false → lt b a = false → a = b) (x y : α) (s : List α) : ins lt x (ins lt y s) = ins lt y (ins lt x s) := by
  cases c1 : lt y x with
  | true => exact ins_comm h c1 s
  | false =>
    cases c2 : lt x y with
    | true => exact (ins_comm h c2 s).symm
    | false => rw [ha x y c2 c1]
theorem isort_any {lt : α → α → Bool} (h : SWO lt) (ha : ∀ a b, lt a b = false → lt b a = false → a = b) {l m : List α} (hp : l.Perm m) : isort lt l = isort lt m := by
  induction hp with
  | nil => rfl
  | cons x _ ih => show ins lt x _ = ins lt x _; rw [ih]
  | swap x y l => exact ins_swap h ha y x _
  | trans _ _ ih1 ih2 => exact ih1.trans ih2
/-- of rows among which the order tells all apart -/
theorem isort_on {lt : α → α → Bool} (h : SWO lt) {l m : List α} (hp : l.Perm m) (ha : ∀ a ∈ l, ∀ b ∈ l, lt a b = false → lt b a = false → a = b) : isort lt l = isort lt m := by
  induction hp with
  | nil => rfl
  | cons x _ ih =>
    show ins lt x _ = ins lt x _
    rw [ih fun a h1 b h2 => ha a (List.mem_cons_of_mem _ h1) b (List.mem_cons_of_mem _ h2)]
  | swap x y l =>
    show ins lt y (ins lt x (isort lt l)) = ins lt x (ins lt y (isort lt l))
    cases c1 : lt x y with
    | true => exact ins_comm h c1 _
    | false =>
      cases c2 : lt y x with
      | true => exact (ins_comm h c2 _).symm
      | false => rw [ha x (by simp) y (by simp) c1 c2]
  | trans p1 _ ih1 ih2 => exact (ih1 ha).trans (ih2 fun a h1 b h2 => ha a (p1.mem_iff.2 h1) b (p1.mem_iff.2 h2))

/-- runs of like rows -/
def runsG (e : α → α → Bool) : List (List α) → Option α → List α → List (List α)
  | out, _, [] => out
  | out, none, x :: l => runsG e (out ++ [[x]]) (some x) l
  | out, some p, x :: l => if e p x = true then runsG e (out.dropLast ++ [(out.getLast?.getD []) ++ [x]]) (some x) l else runsG e (out ++ [[x]]) (some x) l
theorem runsG_flat (e : α → α → Bool) : ∀ (l : List α) (out : List (List α)) (p : Option α), (p.isSome = true → out ≠ []) → (runsG e out p l).flatten = out.flatten ++ l := by
  intro l
  induction l with
  | nil => intro out p _; cases p <;> simp [runsG]
  | cons x l ih =>
    intro out p hp
    cases p with
    | none =>
      rw [runsG, ih _ _ (fun _ => by simp)]
      simp
    | some q =>
      rw [runsG]
      split
      · rw [ih _ _ (fun _ => by simp)]
        have hne := hp rfl
        have e1 : out = out.dropLast ++ [out.getLast hne] := (List.dropLast_concat_getLast hne).symm
        rw [List.getLast?_eq_some_getLast hne, Option.getD_some]
        conv => rhs; rw [e1]
        simp
      · rw [ih _ _ (fun _ => by simp)]
        simp
end Go.Proofs.YtdapnemcdgjeeaaGreatDoor.Stb
namespace Go.Proofs.YtdapnemcdgjeeaaGreatDoor.Ord
open Val
theorem rows_zero : ∀ (a b : List V) (k : Nat), mayRow a → mayRow b → rowsFrom [] k a b = 0 → a = b := by
  intro a
  induction a with
  | nil =>
    intro b k _ _ h
    rw [rowsFrom_end _ _ _ _ (.inl rfl)] at h
    have h1 := (compareInt_le (x := (([] : List V).length : Int)) (y := (b.length : Int))).1 (by omega)
    have h2 := (compareInt_le (x := (b.length : Int)) (y := (([] : List V).length : Int))).1 (by rw [compareInt_neg]; omega)
    simp only [List.length_nil] at h1 h2
    exact (List.eq_nil_of_length_eq_zero (by omega)).symm
  | cons x a ih =>
    intro b k ha hb h
    cases b with
    | nil =>
      exfalso
      rw [rowsFrom_end _ _ _ _ (.inr rfl)] at h
      have h1 := (compareInt_le (x := ((x :: a).length : Int)) (y := (([] : List V).length : Int))).1 (by omega)
      simp only [List.length_nil, List.length_cons] at h1
      omega
    | cons y b =>
      rw [rowsFrom] at h
      by_cases c : cmp x y (([] : List Int).getD k 0) = 0
      · rw [if_neg (by omega)] at h
        have e1 := cmp_one x y (ha x List.mem_cons_self) (hb y List.mem_cons_self) c
        have e2 := ih b (k + 1) (fun v hv => ha v (List.mem_cons_of_mem _ hv)) (fun v hv => hb v (List.mem_cons_of_mem _ hv)) h
        rw [e1, e2]
      · rw [if_pos c] at h
        exact absurd h c
theorem stand_zero : ∀ (ks : List Key) (w : Int) (a b : List V), mayRow a → mayRow b → standV ks w a b = 0 → firstV a w = firstV b w := by
  intro ks
  induction ks with
  | nil => intro w a b ha hb h; exact rows_zero _ _ 0 (firstV_may ha w) (firstV_may hb w) h
  | cons k ks ih =>
    intro w a b ha hb h
    rw [standV] at h
    by_cases c : cmp (atV a k.col) (atV b k.col) k.coll = 0
    · rw [if_neg (by omega)] at h
      exact ih w a b ha hb h
    · rw [if_pos c] at h
      exfalso
      split at h <;> omega
/-- rows that are not longer than the width are told apart -/
theorem lt_apart (ks : List Key) (w : Int) (a b : MRow) (ha : (a.1.length : Int) ≤ w) (hb : (b.1.length : Int) ≤ w) (h1 : ltR ks w a b = false) (h2 : ltR ks w b a = false) : a = b := by
  have h1 := of_decide_eq_false h1
  have h2 := of_decide_eq_false h2
  have n := (stand_pre ks w).neg a.1 b.1
  have e := stand_zero ks w a.1 b.1 a.2 b.2 (by omega)
  unfold firstV at e
  rw [List.take_of_length_le (by omega), List.take_of_length_le (by omega)] at e
  exact Subtype.ext e

end Go.Proofs.YtdapnemcdgjeeaaGreatDoor.Ord
