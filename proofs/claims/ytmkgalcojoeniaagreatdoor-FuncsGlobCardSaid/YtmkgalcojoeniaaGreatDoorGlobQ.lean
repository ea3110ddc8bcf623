/- GLOB's patterns and sets in plain Lean: how they are read step by step; what the reference sees of them. -/
import Derived.Test.YtmkgalcojoeniaaGreatDoorGlobE
set_option maxRecDepth 100000
set_option linter.unusedVariables false
set_option linter.unusedSimpArgs false
namespace Go.Proofs.YtmkgalcojoeniaaGreatDoor.Fit

theorem body_fuel : ∀ (n m : Nat) (first : Bool) (l : List UInt8), l.length < n → l.length < m → body n first l = body m first l := by
  intro n
  induction n with
  | zero => intro m first l h; omega
  | succ n ih =>
    intro m first l hn hm
    obtain ⟨m, rfl⟩ : ∃ k, m = k + 1 := ⟨m - 1, by omega⟩
    match l with
    | [] => rfl
    | [c] =>
      rw [body.eq_def, body.eq_def (m + 1)]
      simp only
      rw [ih m false [] (by simp at hn ⊢; omega) (by simp at hm ⊢; omega)]
    | [c, d] =>
      rw [body.eq_def, body.eq_def (m + 1)]
      simp only
      rw [ih m false [d] (by simp at hn ⊢; omega) (by simp at hm ⊢; omega)]
    | c :: d :: e :: r =>
      rw [body.eq_def, body.eq_def (m + 1)]
      simp only
      rw [ih m false r (by simp at hn ⊢; omega) (by simp at hm ⊢; omega), ih m false (d :: e :: r) (by simp at hn ⊢; omega) (by simp at hm ⊢; omega)]
/-- a set's ranges from here on -/
def bodyL (first : Bool) (l : List UInt8) : Option (List (UInt8 × UInt8) × List UInt8) := body (l.length + 1) first l
theorem bodyL_is {n : Nat} {first : Bool} {l : List UInt8} (h : l.length < n) : body n first l = bodyL first l := body_fuel _ _ _ _ h (Nat.lt_succ_self _)
theorem bodyL_nil (first : Bool) : bodyL first [] = none := rfl
theorem bodyL_end (r : List UInt8) : bodyL false (93 :: r) = some ([], r) := by
  unfold bodyL
  rw [body.eq_def]
  simp
theorem bodyL_range {first : Bool} {c e : UInt8} (r : List UInt8) (h : ¬ (first = false ∧ c = 93)) (he : e ≠ 93) : bodyL first (c :: 45 :: e :: r) = (bodyL false r).map fun x => ((c, e) :: x.1, x.2) := by
  unfold bodyL
  rw [body.eq_def]
  simp only [List.length_cons]
  rw [if_neg h, if_pos (⟨True.intro, he⟩ : True ∧ e ≠ 93), body_fuel _ (r.length + 1) _ _ (by omega) (by omega)]
theorem bodyL_one {first : Bool} {c : UInt8} (r : List UInt8) (h : ¬ (first = false ∧ c = 93)) (hr : ∀ d e r', r = d :: e :: r' → ¬ (d = 45 ∧ e ≠ 93)) : bodyL first (c :: r) = (bodyL false r).map fun x => ((c, c) :: x.1, x.2) := by
  unfold bodyL
  match r, hr with
  | [], _ =>
    rw [body.eq_def]
    simp only [List.length_cons]
    rw [if_neg h]
  | [d], _ =>
    rw [body.eq_def]
    simp only [List.length_cons]
    rw [if_neg h]
  | d :: e :: r', hr =>
    rw [body.eq_def]
    simp only [List.length_cons]
    rw [if_neg h, if_neg (hr d e r' rfl)]

theorem setOf_len {r : List UInt8} {x : (UInt8 → Bool) × List UInt8} (h : setOf r = some x) : x.2.length < r.length := by
  unfold setOf at h
  match r, h with
  | [], h => cases h
  | c :: r', h =>
    simp only at h
    split at h
    · obtain ⟨y, hy, rfl⟩ := Option.map_eq_some_iff.1 h
      have := body_len _ _ _ hy
      simp at this ⊢; omega
    · obtain ⟨y, hy, rfl⟩ := Option.map_eq_some_iff.1 h
      exact body_len _ _ _ hy
theorem glob_fuel : ∀ (n m : Nat) (l : List UInt8), l.length < n → l.length < m → glob n l = glob m l := by
  intro n
  induction n with
  | zero => intro m l h; omega
  | succ n ih =>
    intro m l hn hm
    obtain ⟨m, rfl⟩ : ∃ k, m = k + 1 := ⟨m - 1, by omega⟩
    match l with
    | [] => rfl
    | c :: r =>
      have e1 := ih m r (by simp at hn ⊢; omega) (by simp at hm ⊢; omega)
      simp only [glob]
      split
      · rw [e1]
      · split
        · rw [e1]
        · split
          · cases hs : setOf r with
            | none => rfl
            | some x =>
              have := setOf_len hs
              simp only
              rw [ih m x.2 (by simp at hn ⊢; omega) (by simp at hm ⊢; omega)]
          · rw [e1]
/-- the parts of a pattern of GLOB -/
def globL (l : List UInt8) : List P := glob (l.length + 1) l
theorem globL_nil : globL [] = [] := rfl
theorem globL_any (r : List UInt8) : globL (42 :: r) = .any :: globL r := by
  unfold globL; rw [List.length_cons, glob, if_pos rfl]
theorem globL_one (r : List UInt8) : globL (63 :: r) = .takes (fun _ => true) :: globL r := by
  unfold globL; rw [List.length_cons, glob, if_neg (by decide), if_pos rfl]
theorem globL_none {r : List UInt8} (h : setOf r = none) : globL (91 :: r) = [.takes fun _ => false] := by
  unfold globL; rw [List.length_cons, glob, if_neg (by decide), if_neg (by decide), if_pos rfl, h]
theorem globL_set {r r' : List UInt8} {f : UInt8 → Bool} (h : setOf r = some (f, r')) : globL (91 :: r) = .takes f :: globL r' := by
  have := setOf_len h
  unfold globL; rw [List.length_cons, glob, if_neg (by decide), if_neg (by decide), if_pos rfl, h]
  simp only
  rw [glob_fuel _ (r'.length + 1) _ (by simp at this; omega) (by omega)]
theorem globL_byte {c : UInt8} (r : List UInt8) (h1 : c ≠ 42) (h2 : c ≠ 63) (h3 : c ≠ 91) : globL (c :: r) = .takes (fun d => c == d) :: globL r := by
  unfold globL; rw [List.length_cons, glob, if_neg h1, if_neg h2, if_neg h3]
theorem globL_len (l : List UInt8) : (globL l).length ≤ l.length := by
  have : ∀ (n : Nat) (l : List UInt8), (glob n l).length ≤ l.length := by
    intro n
    induction n with
    | zero => intro l; simp [glob]
    | succ n ih =>
      intro l
      match l with
      | [] => simp [glob]
      | c :: r =>
        have e1 := ih r
        simp only [glob]
        split
        · simp; exact e1
        · split
          · simp; exact e1
          · split
            · cases hs : setOf r with
              | none => simp
              | some x =>
                have h1 := setOf_len hs
                have h2 := ih x.2
                simp; omega
            · simp; exact e1
  exact this _ l

/-- a set's test: its ranges, turned round or not -/
def setK (neg : Bool) (rs : List (UInt8 × UInt8)) (b : UInt8) : Bool := (rs.any (inRange b)) != neg
theorem setOf_not (r : List UInt8) : setOf (94 :: r) = (bodyL true r).map fun x => (setK true x.1, x.2) := by
  unfold setOf
  simp only [List.length_cons]
  rw [if_pos trivial, bodyL_is (by omega)]
  congr 1
  funext x
  congr 1
  funext b
  simp [setK]
theorem setOf_plain {c : UInt8} (r : List UInt8) (h : c ≠ 94) : setOf (c :: r) = (bodyL true (c :: r)).map fun x => (setK false x.1, x.2) := by
  unfold setOf
  simp only [List.length_cons]
  rw [if_neg h, bodyL_is (by simp)]
  congr 1
  funext x
  congr 1
  funext b
  simp [setK]

theorem holds_fuel : ∀ (n m : Nat) (l : List UInt8) (x : UInt8), l.length < n → l.length < m → holds n l x = holds m l x := by
  intro n
  induction n with
  | zero => intro m l x h; omega
  | succ n ih =>
    intro m l x hn hm
    obtain ⟨m, rfl⟩ : ∃ k, m = k + 1 := ⟨m - 1, by omega⟩
    match l with
    | [] => rfl
    | [c] =>
      rw [holds.eq_def, holds.eq_def (m + 1)]
      simp only
      rw [ih m [] x (by simp at hn ⊢; omega) (by simp at hm ⊢; omega)]
    | [c, d] =>
      rw [holds.eq_def, holds.eq_def (m + 1)]
      simp only
      rw [ih m [d] x (by simp at hn ⊢; omega) (by simp at hm ⊢; omega)]
    | c :: d :: e :: r =>
      rw [holds.eq_def, holds.eq_def (m + 1)]
      simp only
      rw [ih m r x (by simp at hn ⊢; omega) (by simp at hm ⊢; omega), ih m (d :: e :: r) x (by simp at hn ⊢; omega) (by simp at hm ⊢; omega)]
/-- the reference: does a byte stand in a set's bytes? -/
def holdsL (l : List UInt8) (x : UInt8) : Bool := holds (l.length + 1) l x
theorem holdsL_range (a e : UInt8) (r : List UInt8) (x : UInt8) : holdsL (a :: 45 :: e :: r) x = (inRange x (a, e) || holdsL r x) := by
  unfold holdsL
  rw [holds.eq_def]
  simp only [List.length_cons]
  rw [if_pos trivial, holds_fuel _ (r.length + 1) _ _ (by omega) (by omega)]
theorem holdsL_one (a : UInt8) (r : List UInt8) (x : UInt8) (hr : ∀ d e r', r = d :: e :: r' → d ≠ 45) : holdsL (a :: r) x = ((a == x) || holdsL r x) := by
  unfold holdsL
  match r, hr with
  | [], _ => rw [holds.eq_def]; simp only [List.length_cons]
  | [d], _ => rw [holds.eq_def]; simp only [List.length_cons]
  | d :: e :: r', hr =>
    rw [holds.eq_def]
    simp only [List.length_cons]
    rw [if_neg (hr d e r' rfl)]
/-- the reference: a set without its bracket takes a byte -/
def takesR (l : List UInt8) (x : UInt8) : Bool :=
  match l with
  | 94 :: l' => !holdsL l' x
  | l => holdsL l x
theorem takesR_not (l : List UInt8) (x : UInt8) : takesR (94 :: l) x = !holdsL l x := rfl
theorem takesR_plain {c : UInt8} (l : List UInt8) (x : UInt8) (h : c ≠ 94) : takesR (c :: l) x = holdsL (c :: l) x := by
  unfold takesR
  split
  · rename_i h2; cases h2; exact absurd rfl h
  · rfl
theorem ends_pos (n : Nat) (l : List UInt8) {k : Nat} (h : ends n true l = some k) : 0 < k := by
  cases n with
  | zero => simp [ends] at h
  | succ n =>
    match l, h with
    | [], h => simp [ends] at h
    | [c], h =>
      rw [ends.eq_def] at h
      simp only at h
      rw [if_neg (by simp)] at h
      obtain ⟨y, _, e⟩ := Option.map_eq_some_iff.1 h
      omega
    | [c, d], h =>
      rw [ends.eq_def] at h
      simp only at h
      rw [if_neg (by simp)] at h
      obtain ⟨y, _, e⟩ := Option.map_eq_some_iff.1 h
      omega
    | c :: d :: e :: r, h =>
      rw [ends.eq_def] at h
      simp only at h
      rw [if_neg (by simp)] at h
      split at h
      · obtain ⟨y, _, e⟩ := Option.map_eq_some_iff.1 h
        omega
      · obtain ⟨y, _, e⟩ := Option.map_eq_some_iff.1 h
        omega
/-- what the reference sees of a set that ends -/
theorem setOf_some {r r' : List UInt8} {f : UInt8 → Bool} (h : setOf r = some (f, r')) : ∃ l, r = l ++ 93 :: r' ∧ ∀ x, takesR l x = f x := by
  match r, h with
  | c :: r1, h =>
    by_cases h94 : c = 94
    · subst h94
      rw [setOf_not] at h
      obtain ⟨y, hy, e⟩ := Option.map_eq_some_iff.1 h
      obtain ⟨set, h1, _, h3⟩ := body_set _ _ _ hy
      cases e
      exact ⟨94 :: set, by rw [h1]; rfl, fun x => by rw [takesR_not, holdsL, h3 _ _ (by omega)]; simp [setK]⟩
    · rw [setOf_plain _ h94] at h
      obtain ⟨y, hy, e⟩ := Option.map_eq_some_iff.1 h
      obtain ⟨set, h1, h2, h3⟩ := body_set _ _ _ hy
      cases e
      refine ⟨set, h1, fun x => ?_⟩
      match set, h1, h2, h3 with
      | [], h1, h2, h3 => exact absurd (ends_pos _ _ h2) (by simp)
      | a :: set, h1, h2, h3 =>
        simp only [List.cons_append, List.cons.injEq] at h1
        rw [takesR_plain _ _ (by rw [← h1.1]; exact h94), holdsL, h3 _ _ (by simp)]
        simp [setK]

end Go.Proofs.YtmkgalcojoeniaaGreatDoor.Fit
