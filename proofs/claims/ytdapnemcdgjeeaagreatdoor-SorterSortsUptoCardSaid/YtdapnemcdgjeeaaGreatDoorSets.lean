/- Rows told apart and put together, in plain Lean. -/
import Derived.Test.YtdapnemcdgjeeaaGreatDoorPlain
set_option maxRecDepth 100000
set_option linter.unusedVariables false
set_option linter.unusedSimpArgs false
namespace Go.Proofs.YtdapnemcdgjeeaaGreatDoor.Sets
variable {α : Type} [DecidableEq α]

/-- each once, the first of like ones -/
def ddF (out : List α) : List α → List α
  | [] => out
  | x :: l => if x ∈ out then ddF out l else ddF (out ++ [x]) l
def dd (l : List α) : List α := ddF [] l
theorem ddF_in {out : List α} {x : α} {l : List α} (h : x ∈ out) : ddF out (x :: l) = ddF out l := by rw [ddF, if_pos h]
theorem ddF_out {out : List α} {x : α} {l : List α} (h : ¬ x ∈ out) : ddF out (x :: l) = ddF (out ++ [x]) l := by rw [ddF, if_neg h]
theorem ddF_snoc : ∀ (l out : List α) (x : α), ddF out (l ++ [x]) = if x ∈ ddF out l then ddF out l else ddF out l ++ [x] := by
  intro l
  induction l with
  | nil => intro out x; rfl
  | cons y l ih =>
    intro out x
    rw [List.cons_append]
    by_cases h : y ∈ out
    · rw [ddF_in h, ddF_in h, ih]
    · rw [ddF_out h, ddF_out h, ih]
theorem mem_ddF : ∀ (l out : List α) (x : α), x ∈ ddF out l ↔ x ∈ out ∨ x ∈ l := by
  intro l
  induction l with
  | nil => intro out x; simp [ddF]
  | cons y l ih =>
    intro out x
    by_cases h : y ∈ out
    · rw [ddF_in h, ih, List.mem_cons]
      constructor
      · rintro (a | a)
        · exact .inl a
        · exact .inr (.inr a)
      · rintro (a | a | a)
        · exact .inl a
        · exact .inl (a ▸ h)
        · exact .inr a
    · rw [ddF_out h, ih, List.mem_append, List.mem_singleton, List.mem_cons, or_assoc]
theorem mem_dd (l : List α) (x : α) : x ∈ dd l ↔ x ∈ l := by unfold dd; rw [mem_ddF]; simp
theorem nodup_ddF : ∀ (l out : List α), out.Nodup → (ddF out l).Nodup := by
  intro l
  induction l with
  | nil => intro out h; exact h
  | cons y l ih =>
    intro out h
    by_cases hy : y ∈ out
    · rw [ddF_in hy]; exact ih out h
    · rw [ddF_out hy]
      refine ih _ (List.nodup_append.2 ⟨h, by simp, fun a ha b hb => ?_⟩)
      rw [List.mem_singleton.1 hb]
      exact fun e => hy (e ▸ ha)
theorem nodup_dd (l : List α) : (dd l).Nodup := nodup_ddF l [] List.nodup_nil
theorem ddF_split : ∀ (l o1 o2 : List α), ddF (o1 ++ o2) l = o1 ++ ddF o2 (l.filter fun x => decide (¬ x ∈ o1)) := by
  intro l
  induction l with
  | nil => intro o1 o2; rfl
  | cons y l ih =>
    intro o1 o2
    by_cases h1 : y ∈ o1
    · rw [ddF_in (List.mem_append_left _ h1), List.filter_cons_of_neg (by simpa using h1), ih]
    · rw [List.filter_cons_of_pos (by simpa using h1)]
      by_cases h2 : y ∈ o2
      · rw [ddF_in (List.mem_append_right _ h2), ddF_in h2, ih]
      · rw [ddF_out (by rw [List.mem_append]; exact fun h => h.elim h1 h2), ddF_out h2, List.append_assoc, ih]
theorem ddF_append (out a b : List α) : ddF out (a ++ b) = ddF (ddF out a) b := by
  induction a generalizing out with
  | nil => rfl
  | cons y a ih =>
    rw [List.cons_append]
    by_cases h : y ∈ out
    · rw [ddF_in h, ddF_in h, ih]
    · rw [ddF_out h, ddF_out h, ih]
theorem ddF_sub : ∀ (l out : List α), (∀ x ∈ l, x ∈ out) → ddF out l = out := by
  intro l
  induction l with
  | nil => intro out _; rfl
  | cons y l ih =>
    intro out h
    rw [ddF_in (h y List.mem_cons_self)]
    exact ih out fun x hx => h x (List.mem_cons_of_mem _ hx)
theorem dd_twice (a : List α) : dd (a ++ a) = dd a := by
  unfold dd
  rw [ddF_append]
  exact ddF_sub a _ fun x hx => (mem_dd a x).2 hx
theorem ddF_nodup : ∀ (l out : List α), l.Nodup → (∀ x ∈ l, ¬ x ∈ out) → ddF out l = out ++ l := by
  intro l
  induction l with
  | nil => intro out _ _; simp [ddF]
  | cons y l ih =>
    intro out h hd
    obtain ⟨h1, h2⟩ := List.nodup_cons.1 h
    rw [ddF_out (hd y List.mem_cons_self), ih _ h2 fun x hx hx' => ?_, List.append_assoc, List.singleton_append]
    rcases List.mem_append.1 hx' with hx' | hx'
    · exact hd x (List.mem_cons_of_mem _ hx) hx'
    · rw [List.mem_singleton.1 hx'] at hx
      exact h1 hx
theorem dd_dd (a : List α) : dd (dd a) = dd a := by
  have := ddF_nodup (dd a) [] (nodup_dd a) (fun x _ h => by cases h)
  exact this
theorem ddF_filter (p : α → Bool) : ∀ (l out : List α), ddF (out.filter p) (l.filter p) = (ddF out l).filter p := by
  intro l
  induction l with
  | nil => intro out; rfl
  | cons y l ih =>
    intro out
    cases hp : p y with
    | false =>
      rw [List.filter_cons_of_neg (by rw [hp]; simp)]
      by_cases h : y ∈ out
      · rw [ddF_in h, ih]
      · rw [ddF_out h, ← ih, List.filter_append, List.filter_cons_of_neg (by rw [hp]; simp), List.filter_nil, List.append_nil]
    | true =>
      rw [List.filter_cons_of_pos hp]
      by_cases h : y ∈ out
      · rw [ddF_in h, ddF_in (List.mem_filter.2 ⟨h, hp⟩), ih]
      · rw [ddF_out h, ddF_out (fun hy => h (List.mem_filter.1 hy).1), ← ih, List.filter_append, List.filter_cons_of_pos hp, List.filter_nil]
theorem dd_filter (p : α → Bool) (l : List α) : dd (l.filter p) = (dd l).filter p := ddF_filter p l []
omit [DecidableEq α] in
theorem filter_two (p : α → Bool) (l : List α) : (l.filter p).length + (l.filter fun x => !p x).length = l.length := by
  induction l with
  | nil => rfl
  | cons y l ih =>
    cases hp : p y with
    | false => rw [List.filter_cons_of_neg (by rw [hp]; simp), List.filter_cons_of_pos (by rw [hp]; rfl)]; simp only [List.length_cons]; omega
    | true => rw [List.filter_cons_of_pos hp, List.filter_cons_of_neg (by rw [hp]; simp)]; simp only [List.length_cons]; omega
/-- the sizes: either = both + the first alone + the second alone -/
theorem sizes (a b : List α) : (dd (a ++ b)).length = (dd (a.filter fun x => decide (x ∈ b))).length + (dd (a.filter fun x => !decide (x ∈ b))).length + (dd (b.filter fun x => !decide (x ∈ a))).length := by
  have e1 : dd (a ++ b) = dd a ++ dd (b.filter fun x => !decide (x ∈ a)) := by
    unfold dd
    rw [ddF_append]
    have h := ddF_split b (ddF [] a) []
    rw [List.append_nil] at h
    rw [h]
    congr 2
    refine List.filter_congr fun x _ => ?_
    have hm : x ∈ ddF [] a ↔ x ∈ a := mem_dd a x
    by_cases hx : x ∈ a
    · have hn : ¬ ¬ x ∈ ddF [] a := fun h => h (hm.2 hx)
      rw [decide_eq_true hx, decide_eq_false hn]; rfl
    · have hn : ¬ x ∈ ddF [] a := fun h => hx (hm.1 h)
      rw [decide_eq_false hx, decide_eq_true hn]; rfl
  have e2 := filter_two (fun x => decide (x ∈ b)) (dd a)
  rw [e1, List.length_append, dd_filter (fun x => decide (x ∈ b)) a, dd_filter (fun x => !decide (x ∈ b)) a]
  omega
theorem count_nodup {l : List α} (h : l.Nodup) (x : α) : l.count x = if x ∈ l then 1 else 0 := by
  induction l with
  | nil => rfl
  | cons y l ih =>
    obtain ⟨h1, h2⟩ := List.nodup_cons.1 h
    rw [List.count_cons, ih h2]
    by_cases e : y = x
    · subst e
      rw [if_neg h1]
      simp
    · have e' : (y == x) = false := by simpa using e
      rw [e']
      have hm : x ∈ y :: l ↔ x ∈ l := by
        rw [List.mem_cons]
        exact ⟨fun h => h.resolve_left (fun hh => e hh.symm), .inr⟩
      by_cases hx : x ∈ l
      · rw [if_pos hx, if_pos (hm.2 hx)]; rfl
      · rw [if_neg hx, if_neg (fun h => hx (hm.1 h))]; rfl

end Go.Proofs.YtdapnemcdgjeeaaGreatDoor.Sets
