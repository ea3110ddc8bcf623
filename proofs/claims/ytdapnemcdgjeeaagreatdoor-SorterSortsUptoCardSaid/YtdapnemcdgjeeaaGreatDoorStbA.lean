/- Stable sorting, in plain Lean. Stable sorting, in plain Lean: merging. How rows stand by keys and first columns: a total order of rows whose values may be. In plain Lean. Sorting: where the order tells all rows apart, the order ahead counts for nothing; groups. In plain Lean. A heap whose top is the last in order, and the first rows in order: in plain Lean. The first rows in order, by their places: in plain Lean. -/
import Derived.Test.YtdapnemcdgjeeaaGreatDoorPlain
import Derived.Test.YtdapnemcdgjeeaaGreatDoorRowsP
set_option maxRecDepth 100000
set_option linter.unusedVariables false
set_option linter.unusedSimpArgs false
namespace Go.Proofs.YtdapnemcdgjeeaaGreatDoor.Stb
variable {α : Type}

/-- a strict weak order -/
structure SWO (lt : α → α → Bool) : Prop where
  irr : ∀ a, lt a a = false
  trans : ∀ a b c, lt a b = true → lt b c = true → lt a c = true
  ntrans : ∀ a b c, lt a b = false → lt b c = false → lt a c = false
theorem SWO.asym {lt : α → α → Bool} (h : SWO lt) {a b : α} (hab : lt a b = true) : lt b a = false := by
  cases hb : lt b a with
  | false => rfl
  | true =>
    have := h.trans a b a hab hb
    rw [h.irr] at this
    cases this
/-- a < b ≤ c -/
theorem SWO.lt_le {lt : α → α → Bool} (h : SWO lt) {a b c : α} (hab : lt a b = true) (hbc : lt c b = false) : lt a c = true := by
  cases hac : lt a c with
  | true => rfl
  | false =>
    have := h.ntrans a c b hac hbc
    rw [this] at hab
    cases hab
/-- a ≤ b < c -/
theorem SWO.le_lt {lt : α → α → Bool} (h : SWO lt) {a b c : α} (hab : lt b a = false) (hbc : lt b c = true) : lt a c = true := by
  cases hac : lt a c with
  | true => rfl
  | false =>
    have := h.ntrans b a c hab hac
    rw [this] at hbc
    cases hbc

def ins (lt : α → α → Bool) (x : α) : List α → List α
  | [] => [x]
  | y :: l => if lt y x = true then y :: ins lt x l else x :: y :: l
/-- the list sorted, equals in their order -/
def isort (lt : α → α → Bool) : List α → List α
  | [] => []
  | x :: l => ins lt x (isort lt l)
theorem ins_yes {lt : α → α → Bool} {x y : α} {l : List α} (h : lt y x = true) : ins lt x (y :: l) = y :: ins lt x l := by rw [ins, if_pos h]
theorem ins_no {lt : α → α → Bool} {x y : α} {l : List α} (h : lt y x = false) : ins lt x (y :: l) = x :: y :: l := by rw [ins, if_neg (by rw [h]; simp)]
theorem ins_comm {lt : α → α → Bool} (h : SWO lt) {x y : α} (hyx : lt y x = true) : ∀ s, ins lt x (ins lt y s) = ins lt y (ins lt x s) := by
  have hxy := h.asym hyx
  intro s
  induction s with
  | nil => show ins lt x [y] = ins lt y [x]; rw [ins_yes hyx, ins_no hxy]; rfl
  | cons z s ih =>
    cases hzy : lt z y with
    | true =>
      have hzx := h.trans z y x hzy hyx
      rw [ins_yes hzy, ins_yes hzx, ins_yes hzx, ins_yes hzy, ih]
    | false =>
      cases hzx : lt z x with
      | true => rw [ins_no hzy, ins_yes hyx, ins_yes hzx, ins_no hzy]
      | false => rw [ins_no hzy, ins_yes hyx, ins_no hzx, ins_no hxy]
theorem isort_past {lt : α → α → Bool} (h : SWO lt) (x : α) : ∀ (B s : List α), (∀ b ∈ B, lt b x = true) → isort lt (x :: (B ++ s)) = isort lt (B ++ x :: s) := by
  intro B
  induction B with
  | nil => intro s _; rfl
  | cons b B ih =>
    intro s hb
    have h1 := ih s (fun c hc => hb c (List.mem_cons_of_mem _ hc))
    show ins lt x (ins lt b (isort lt (B ++ s))) = ins lt b (isort lt (B ++ x :: s))
    rw [ins_comm h (hb b List.mem_cons_self), ← h1]
    rfl
theorem isort_congr {lt : α → α → Bool} : ∀ (l : List α) {s t : List α}, isort lt s = isort lt t → isort lt (l ++ s) = isort lt (l ++ t) := by
  intro l
  induction l with
  | nil => intro s t h; exact h
  | cons x l ih => intro s t h; show ins lt x (isort lt (l ++ s)) = ins lt x (isort lt (l ++ t)); rw [ih h]
/-- two blocks exchanged, all of the second below all of the first -/
theorem isort_blocks {lt : α → α → Bool} (h : SWO lt) : ∀ (A B s : List α), (∀ a ∈ A, ∀ b ∈ B, lt b a = true) → isort lt (A ++ (B ++ s)) = isort lt (B ++ (A ++ s)) := by
  intro A
  induction A with
  | nil => intro B s _; rfl
  | cons x A ih =>
    intro B s hab
    have h1 := ih B s (fun a ha => hab a (List.mem_cons_of_mem _ ha))
    show ins lt x (isort lt (A ++ (B ++ s))) = _
    rw [h1]
    exact isort_past h x B (A ++ s) (hab x List.mem_cons_self)
def Sorted (lt : α → α → Bool) (l : List α) : Prop := l.Pairwise fun a b => lt b a = false
theorem isort_sorted {lt : α → α → Bool} : ∀ {l : List α}, Sorted lt l → isort lt l = l := by
  intro l
  induction l with
  | nil => intro _; rfl
  | cons x l ih =>
    intro h
    obtain ⟨h1, h2⟩ := List.pairwise_cons.1 h
    show ins lt x (isort lt l) = _
    rw [ih h2]
    cases l with
    | nil => rfl
    | cons y l => exact ins_no (h1 y List.mem_cons_self)
theorem ins_perm (lt : α → α → Bool) (x : α) : ∀ l : List α, (ins lt x l).Perm (x :: l) := by
  intro l
  induction l with
  | nil => exact List.Perm.refl _
  | cons y l ih =>
    rw [ins]
    split
    · exact (List.Perm.cons y ih).trans (List.Perm.swap x y l)
    · exact List.Perm.refl _
theorem isort_perm (lt : α → α → Bool) : ∀ l : List α, (isort lt l).Perm l := by
  intro l
  induction l with
  | nil => exact List.Perm.refl _
  | cons x l ih => exact (ins_perm lt x _).trans (List.Perm.cons x ih)
theorem ins_sorted {lt : α → α → Bool} (h : SWO lt) (x : α) : ∀ {l : List α}, Sorted lt l → Sorted lt (ins lt x l) := by
  intro l
  induction l with
  | nil => intro _; exact List.pairwise_singleton _ _
  | cons y l ih =>
    intro hs
    obtain ⟨h1, h2⟩ := List.pairwise_cons.1 hs
    cases hyx : lt y x with
    | true =>
      rw [ins_yes hyx]
      refine List.pairwise_cons.2 ⟨fun z hz => ?_, ih h2⟩
      rcases List.mem_cons.1 ((ins_perm lt x l).mem_iff.1 hz) with rfl | hz
      · exact h.asym hyx
      · exact h1 z hz
    | false =>
      rw [ins_no hyx]
      refine List.pairwise_cons.2 ⟨fun z hz => ?_, hs⟩
      rcases List.mem_cons.1 hz with rfl | hz
      · exact hyx
      · exact h.ntrans z y x (h1 z hz) hyx
theorem isort_is_sorted {lt : α → α → Bool} (h : SWO lt) : ∀ l : List α, Sorted lt (isort lt l) := by
  intro l
  induction l with
  | nil => exact List.Pairwise.nil
  | cons x l ih => exact ins_sorted h x ih

/-! ### a row as a function of the place -/
def seg (f : Nat → α) (a b : Nat) : List α := (List.range' a (b - a)).map f
theorem seg_split (f : Nat → α) {a m b : Nat} (h1 : a ≤ m) (h2 : m ≤ b) : seg f a b = seg f a m ++ seg f m b := by
  unfold seg
  rw [← List.map_append, show b - a = (m - a) + (b - m) by omega, ← List.range'_append_1, show a + (m - a) = m by omega]
theorem seg_mem {f : Nat → α} {a b : Nat} {x : α} (h : x ∈ seg f a b) : ∃ i, a ≤ i ∧ i < b ∧ f i = x := by
  unfold seg at h
  obtain ⟨i, hi, e⟩ := List.mem_map.1 h
  rw [List.mem_range'_1] at hi
  exact ⟨i, by omega, by omega, e⟩
theorem seg_congr {f g : Nat → α} {a b : Nat} (h : ∀ i, a ≤ i → i < b → f i = g i) : seg f a b = seg g a b := by
  unfold seg
  refine List.map_congr_left fun i hi => ?_
  rw [List.mem_range'_1] at hi
  exact h i (by omega) (by omega)
theorem seg_shift (f : Nat → α) (a b d : Nat) : seg (fun i => f (i + d)) a b = seg f (a + d) (b + d) := by
  unfold seg
  rw [show b + d - (a + d) = b - a by omega]
  refine List.ext_getElem (by simp) fun i h1 h2 => ?_
  simp only [List.getElem_map, List.getElem_range']
  congr 1
  omega
def SortedOn (lt : α → α → Bool) (f : Nat → α) (a b : Nat) : Prop := ∀ i j, a ≤ i → i < j → j < b → lt (f j) (f i) = false
/-- two neighbouring pieces exchanged -/
def rot (f : Nat → α) (a m b : Nat) : Nat → α := fun k => if a ≤ k ∧ k < a + (b - m) then f (k - a + m) else if a + (b - m) ≤ k ∧ k < b then f (k - (b - m)) else f k
/-- two pieces of n exchanged -/
def swapR (f : Nat → α) (a b n : Nat) : Nat → α := fun k => if a ≤ k ∧ k < a + n then f (k - a + b) else if b ≤ k ∧ k < b + n then f (k - b + a) else f k
def swap (f : Nat → α) (i j : Nat) : Nat → α := fun k => if k = i then f j else if k = j then f i else f k
theorem swapR_zero (f : Nat → α) (a b : Nat) : swapR f a b 0 = f := by
  funext k
  unfold swapR
  rw [if_neg (by omega), if_neg (by omega)]
theorem swapR_succ (f : Nat → α) {a b n : Nat} (h : a + n < b) : swap (swapR f a b n) (a + n) (b + n) = swapR f a b (n + 1) := by
  funext k
  unfold swap swapR
  repeat' split
  all_goals first | rfl | (exfalso; omega) | (congr 1; omega)
theorem rot_gt (f : Nat → α) {m i j : Nat} (hi : i ≤ m) (hij : j < i) : rot f (m - i) m (m + j) = rot (swapR f (m - i) m j) (m - i + j) m (m + j) := by
  funext k
  unfold rot swapR
  repeat' split
  all_goals first | rfl | (exfalso; omega) | (congr 1; omega)
theorem rot_lt (f : Nat → α) {m i j : Nat} (hi : i ≤ m) (hij : i < j) : rot f (m - i) m (m + j) = rot (swapR f (m - i) (m + j - i) i) (m - i) m (m + j - i) := by
  funext k
  unfold rot swapR
  repeat' split
  all_goals first | rfl | (exfalso; omega) | (congr 1; omega)
theorem rot_eq (f : Nat → α) {m i : Nat} (hi : i ≤ m) : rot f (m - i) m (m + i) = swapR f (m - i) m i := by
  funext k
  unfold rot swapR
  repeat' split
  all_goals first | rfl | (exfalso; omega) | (congr 1; omega)
/-- one element moved to the right, place by place -/
theorem rot_right (f : Nat → α) {a k : Nat} (h : a ≤ k) : swap (rot f a (a + 1) (k + 1)) k (k + 1) = rot f a (a + 1) (k + 2) := by
  funext x
  unfold swap rot
  repeat' split
  all_goals first | rfl | (exfalso; omega) | (congr 1; omega)
theorem rot_right_zero (f : Nat → α) (a : Nat) : rot f a (a + 1) (a + 1) = f := by
  funext x
  unfold rot
  repeat' split
  all_goals first | rfl | (exfalso; omega) | (congr 1; omega)
/-- one element moved to the left -/
theorem rot_left (f : Nat → α) {k m : Nat} (h : k + 1 ≤ m) : swap (rot f (k + 1) m (m + 1)) (k + 1) k = rot f k m (m + 1) := by
  funext x
  unfold swap rot
  repeat' split
  all_goals first | rfl | (exfalso; omega) | (congr 1; omega)
theorem rot_left_zero (f : Nat → α) (m : Nat) : rot f m m (m + 1) = f := by
  funext x
  unfold rot
  repeat' split
  all_goals first | rfl | (exfalso; omega) | (congr 1; omega)
theorem seg_rot (f : Nat → α) {a m b : Nat} (h1 : a ≤ m) (h2 : m ≤ b) : seg (rot f a m b) a b = seg f m b ++ seg f a m := by
  rw [seg_split (rot f a m b) (m := a + (b - m)) (by omega) (by omega)]
  have e1 : seg (rot f a m b) a (a + (b - m)) = seg f m b := by
    unfold seg
    rw [show a + (b - m) - a = b - m by omega]
    refine List.ext_getElem (by simp) fun i h1' h2' => ?_
    simp only [List.length_map, List.length_range'] at h1'
    simp only [List.getElem_map, List.getElem_range', rot]
    rw [if_pos (by omega)]
    congr 1
    omega
  have e2 : seg (rot f a m b) (a + (b - m)) b = seg f a m := by
    unfold seg
    rw [show b - (a + (b - m)) = m - a by omega]
    refine List.ext_getElem (by simp) fun i h1' h2' => ?_
    simp only [List.length_map, List.length_range'] at h1'
    simp only [List.getElem_map, List.getElem_range', rot]
    rw [if_neg (by omega), if_pos (by omega)]
    congr 1
    omega
  rw [e1, e2]
theorem rot_out (f : Nat → α) {a m b k : Nat} (h1 : a ≤ m) (h2 : m ≤ b) (h : k < a ∨ b ≤ k) : rot f a m b k = f k := by
  unfold rot
  rw [if_neg (by omega), if_neg (by omega)]

/-- from f to g: on [a, b) the same elements, equals in their order; elsewhere nothing -/
def Moved (lt : α → α → Bool) (f g : Nat → α) (a b : Nat) : Prop := (∀ k, k < a ∨ b ≤ k → g k = f k) ∧ ∀ s, isort lt (seg f a b ++ s) = isort lt (seg g a b ++ s)
theorem Moved.refl (lt : α → α → Bool) (f : Nat → α) (a b : Nat) : Moved lt f f a b := ⟨fun _ _ => rfl, fun _ => rfl⟩
theorem Moved.trans {lt : α → α → Bool} {f g h : Nat → α} {a b : Nat} (h1 : Moved lt f g a b) (h2 : Moved lt g h a b) : Moved lt f h a b := ⟨fun k hk => (h2.1 k hk).trans (h1.1 k hk), fun s => (h1.2 s).trans (h2.2 s)⟩
theorem Moved.wide {lt : α → α → Bool} {f g : Nat → α} {a b a' b' : Nat} (h : Moved lt f g a b) (h1 : a' ≤ a) (hab : a ≤ b) (h2 : b ≤ b') : Moved lt f g a' b' := by
  refine ⟨fun k hk => h.1 k (by omega), fun s => ?_⟩
  rw [seg_split f (m := a) h1 (by omega), seg_split g (m := a) h1 (by omega), seg_split f (m := b) hab h2, seg_split g (m := b) hab h2]
  rw [show seg g a' a = seg f a' a from seg_congr fun i _ hi => h.1 i (by omega), show seg g b b' = seg f b b' from seg_congr fun i hi _ => h.1 i (by omega)]
  simp only [List.append_assoc]
  exact isort_congr _ (h.2 _)
theorem Moved.rot {lt : α → α → Bool} (hs : SWO lt) (f : Nat → α) {a m b : Nat} (h1 : a ≤ m) (h2 : m ≤ b) (h : ∀ i j, a ≤ i → i < m → m ≤ j → j < b → lt (f j) (f i) = true) : Moved lt f (rot f a m b) a b := by
  refine ⟨fun k hk => rot_out f h1 h2 hk, fun s => ?_⟩
  rw [seg_rot f h1 h2, seg_split f h1 h2]
  simp only [List.append_assoc]
  refine isort_blocks hs _ _ _ fun x hx y hy => ?_
  obtain ⟨i, hi1, hi2, rfl⟩ := seg_mem hx
  obtain ⟨j, hj1, hj2, rfl⟩ := seg_mem hy
  exact h i j hi1 hi2 hj1 hj2
theorem seg_sorted {lt : α → α → Bool} {f : Nat → α} {a b : Nat} (h : SortedOn lt f a b) : Sorted lt (seg f a b) := by
  unfold Sorted seg
  rw [List.pairwise_map]
  refine List.Pairwise.imp_of_mem (R := fun i j => i < j) (fun {i j} hi hj hij => ?_) (List.pairwise_lt_range')
  rw [List.mem_range'_1] at hi hj
  exact h i j (by omega) hij (by omega)
/-- what is moved and sorted is the sorted list -/
theorem moved_sorted {lt : α → α → Bool} {f g : Nat → α} {a b : Nat} (h : Moved lt f g a b) (hs : SortedOn lt g a b) : seg g a b = isort lt (seg f a b) := by
  have := h.2 []
  rw [List.append_nil, List.append_nil] at this
  rw [this, isort_sorted (seg_sorted hs)]

theorem seg_of {f : Nat → α} {a b k : Nat} (h1 : a ≤ k) (h2 : k < b) : f k ∈ seg f a b := by
  unfold seg
  exact List.mem_map.2 ⟨k, by rw [List.mem_range'_1]; omega, rfl⟩
theorem Moved.mem {lt : α → α → Bool} {f g : Nat → α} {a b : Nat} (h : Moved lt f g a b) {k : Nat} (h1 : a ≤ k) (h2 : k < b) : ∃ i, a ≤ i ∧ i < b ∧ f i = g k := by
  have e := h.2 []
  rw [List.append_nil, List.append_nil] at e
  have hm : g k ∈ seg f a b := (isort_perm lt _).mem_iff.1 (by rw [e]; exact (isort_perm lt _).mem_iff.2 (seg_of h1 h2))
  exact seg_mem hm
theorem SortedOn.le {lt : α → α → Bool} (h : SWO lt) {f : Nat → α} {a b : Nat} (hs : SortedOn lt f a b) {i j : Nat} (h1 : a ≤ i) (h2 : i ≤ j) (h3 : j < b) : lt (f j) (f i) = false := by
  rcases Nat.eq_or_lt_of_le h2 with rfl | h2
  · exact h.irr _
  · exact hs i j h1 h2 h3
theorem SortedOn.sub {lt : α → α → Bool} {f : Nat → α} {a b a' b' : Nat} (hs : SortedOn lt f a b) (h1 : a ≤ a') (h2 : b' ≤ b) : SortedOn lt f a' b' := fun i j hi hij hj => hs i j (by omega) hij (by omega)
theorem SortedOn.congr {lt : α → α → Bool} {f g : Nat → α} {a b : Nat} (hs : SortedOn lt f a b) (h : ∀ k, a ≤ k → k < b → g k = f k) : SortedOn lt g a b := fun i j hi hij hj => by
  rw [h i hi (by omega), h j (by omega) hj]
  exact hs i j hi hij hj
theorem SortedOn.join {lt : α → α → Bool} {f : Nat → α} {a m b : Nat} (h1 : SortedOn lt f a m) (h2 : SortedOn lt f m b) (h : ∀ i j, a ≤ i → i < m → m ≤ j → j < b → lt (f j) (f i) = false) : SortedOn lt f a b := fun i j hi hij hj => by
  by_cases hjm : j < m
  · exact h1 i j hi hij hjm
  · by_cases him : i < m
    · exact h i j hi him (by omega) hj
    · exact h2 i j (by omega) hij hj
/-- the two halves, put in order each: all is in order -/
theorem halves {lt : α → α → Bool} {g g1 g2 : Nat → α} {a mid b : Nat} (h1 : a ≤ mid) (h2 : mid ≤ b) (hx : ∀ i j, a ≤ i → i < mid → mid ≤ j → j < b → lt (g j) (g i) = false)
    (m1 : Moved lt g g1 a mid) (s1 : SortedOn lt g1 a mid) (m2 : Moved lt g1 g2 mid b) (s2 : SortedOn lt g2 mid b) : Moved lt g g2 a b ∧ SortedOn lt g2 a b := by
  refine ⟨(m1.wide (Nat.le_refl _) h1 h2).trans (m2.wide h1 h2 (Nat.le_refl _)), ?_⟩
  have e1 : ∀ k, k < mid → g2 k = g1 k := fun k hk => m2.1 k (.inl hk)
  have e2 : ∀ k, mid ≤ k → g1 k = g k := fun k hk => m1.1 k (.inr hk)
  refine SortedOn.join (s1.congr fun k _ hk => e1 k hk) s2 fun i j hi him hj hjb => ?_
  rw [e1 i him]
  obtain ⟨i', hi1, hi2, ei⟩ := m1.mem hi him
  obtain ⟨j', hj1, hj2, ej⟩ := m2.mem hj hjb
  rw [← ei, ← ej, e2 j' hj1]
  exact hx i' j' hi1 hi2 hj1 hj2
/-- what the search finds: a place on the diagonal -/
def Found (lt : α → α → Bool) (f : Nat → α) (n start0 r0 start : Nat) : Prop := start0 ≤ start ∧ start ≤ r0 ∧ (start = start0 ∨ lt (f (n - start)) (f (start - 1)) = false) ∧ (start = r0 ∨ lt (f (n - 1 - start)) (f start) = true)
theorem found_below {lt : α → α → Bool} (h : SWO lt) {f : Nat → α} {a m b mid start : Nat} (ham : a < m) (hmb : m < b) (hmid : mid = (a + b) / 2) (s1 : SortedOn lt f a m) (s2 : SortedOn lt f m b)
    (hF : Found lt f (mid + m) (if m > mid then mid + m - b else a) (if m > mid then mid else m) start) : ∀ i j, start ≤ i → i < m → m ≤ j → j < mid + m - start → lt (f j) (f i) = true := by
  intro i j hi him hj hje
  obtain ⟨f1, f2, _, f4⟩ := hF
  rcases f4 with f4 | f4
  · exfalso
    split at f4 <;> omega
  · have hb : mid + m - start ≤ b := by split at f1 <;> omega
    have ha : a ≤ start := by split at f1 <;> omega
    have x1 : lt (f (mid + m - 1 - start)) (f j) = false := s2.le h hj (by omega) (by omega)
    have x2 : lt (f i) (f start) = false := s1.le h ha hi him
    exact h.le_lt x1 (h.lt_le f4 x2)
theorem found_ends {lt : α → α → Bool} {f : Nat → α} {a m b mid start : Nat} (ham : a < m) (hmb : m < b) (hmid : mid = (a + b) / 2)
    (hF : Found lt f (mid + m) (if m > mid then mid + m - b else a) (if m > mid then mid else m) start) : a ≤ start ∧ start ≤ m ∧ m ≤ mid + m - start ∧ mid + m - start ≤ b ∧ start ≤ mid ∧ mid ≤ mid + m - start := by
  obtain ⟨f1, f2, _, _⟩ := hF
  split at f1 <;> split at f2 <;> omega
/-- the halves behind the turning -/
theorem found_sorted {lt : α → α → Bool} {f : Nat → α} {a m b mid start : Nat} (ham : a < m) (hmb : m < b) (hmid : mid = (a + b) / 2) (s1 : SortedOn lt f a m) (s2 : SortedOn lt f m b)
    (hF : Found lt f (mid + m) (if m > mid then mid + m - b else a) (if m > mid then mid else m) start) :
    SortedOn lt (rot f start m (mid + m - start)) a start ∧ SortedOn lt (rot f start m (mid + m - start)) start mid ∧ SortedOn lt (rot f start m (mid + m - start)) mid (mid + m - start) ∧ SortedOn lt (rot f start m (mid + m - start)) (mid + m - start) b := by
  obtain ⟨e1, e2, e3, e4, e5, e6⟩ := found_ends ham hmb hmid hF
  refine ⟨fun i j hi hij hj => ?_, fun i j hi hij hj => ?_, fun i j hi hij hj => ?_, fun i j hi hij hj => ?_⟩
  · unfold rot
    rw [if_neg (by omega), if_neg (by omega), if_neg (by omega), if_neg (by omega)]
    exact s1 i j hi hij (by omega)
  · unfold rot
    rw [if_pos (by omega), if_pos (by omega)]
    exact s2 _ _ (by omega) (by omega) (by omega)
  · unfold rot
    rw [if_neg (by omega), if_pos (by omega), if_neg (by omega), if_pos (by omega)]
    exact s1 _ _ (by omega) (by omega) (by omega)
  · unfold rot
    rw [if_neg (by omega), if_neg (by omega), if_neg (by omega), if_neg (by omega)]
    exact s2 i j (by omega) hij hj
theorem found_cross {lt : α → α → Bool} (h : SWO lt) {f : Nat → α} {a m b mid start : Nat} (ham : a < m) (hmb : m < b) (hmid : mid = (a + b) / 2) (s1 : SortedOn lt f a m) (s2 : SortedOn lt f m b)
    (hF : Found lt f (mid + m) (if m > mid then mid + m - b else a) (if m > mid then mid else m) start) :
    ∀ i j, a ≤ i → i < mid → mid ≤ j → j < b → lt (rot f start m (mid + m - start) j) (rot f start m (mid + m - start) i) = false := by
  have hb := found_below h ham hmb hmid s1 s2 hF
  obtain ⟨e1, e2, e3, e4, e5, e6⟩ := found_ends ham hmb hmid hF
  obtain ⟨f1, f2, f3, _⟩ := hF
  intro i j hi him hj hjb
  by_cases c1 : i < start
  · have ei : rot f start m (mid + m - start) i = f i := by unfold rot; rw [if_neg (by omega), if_neg (by omega)]
    rw [ei]
    by_cases c2 : j < mid + m - start
    · have ej : rot f start m (mid + m - start) j = f (j - (mid + m - start - m)) := by unfold rot; rw [if_neg (by omega), if_pos (by omega)]
      rw [ej]
      exact s1 i _ hi (by omega) (by omega)
    · have ej : rot f start m (mid + m - start) j = f j := by unfold rot; rw [if_neg (by omega), if_neg (by omega)]
      rw [ej]
      rcases f3 with f3 | f3
      · exfalso
        split at f3 <;> omega
      · have x1 : lt (f (start - 1)) (f i) = false := s1.le h hi (by omega) (by omega)
        have x2 : lt (f j) (f (mid + m - start)) = false := s2.le h (by omega) (by omega) hjb
        exact h.ntrans _ _ _ x2 (h.ntrans _ _ _ f3 x1)
  · have ei : rot f start m (mid + m - start) i = f (i - start + m) := by unfold rot; rw [if_pos (by omega)]
    rw [ei]
    by_cases c2 : j < mid + m - start
    · have ej : rot f start m (mid + m - start) j = f (j - (mid + m - start - m)) := by unfold rot; rw [if_neg (by omega), if_pos (by omega)]
      rw [ej]
      exact h.asym (hb _ _ (by omega) (by omega) (by omega) (by omega))
    · have ej : rot f start m (mid + m - start) j = f j := by unfold rot; rw [if_neg (by omega), if_neg (by omega)]
      rw [ej]
      exact s2 _ _ (by omega) (by omega) hjb
theorem found_moved {lt : α → α → Bool} (h : SWO lt) {f : Nat → α} {a m b mid start : Nat} (ham : a < m) (hmb : m < b) (hmid : mid = (a + b) / 2) (s1 : SortedOn lt f a m) (s2 : SortedOn lt f m b)
    (hF : Found lt f (mid + m) (if m > mid then mid + m - b else a) (if m > mid then mid else m) start) : Moved lt f (rot f start m (mid + m - start)) a b := by
  have hb := found_below h ham hmb hmid s1 s2 hF
  obtain ⟨e1, e2, e3, e4, e5, e6⟩ := found_ends ham hmb hmid hF
  exact (Moved.rot h f e2 e3 hb).wide e1 (by omega) e4
/-- one element put in at the left -/
theorem one_left {lt : α → α → Bool} (h : SWO lt) {f : Nat → α} {a b i : Nat} (s2 : SortedOn lt f (a + 1) b) (h1 : a + 1 ≤ i) (h2 : i ≤ b) (h3 : i = a + 1 ∨ lt (f (i - 1)) (f a) = true) (h4 : i = b ∨ lt (f i) (f a) = false) :
    Moved lt f (rot f a (a + 1) i) a b ∧ SortedOn lt (rot f a (a + 1) i) a b := by
  have hlow : ∀ k, a + 1 ≤ k → k < i → lt (f k) (f a) = true := fun k hk hki => by
    rcases h3 with h3 | h3
    · omega
    · exact h.le_lt (s2.le h hk (by omega) (by omega)) h3
  have hhigh : ∀ k, i ≤ k → k < b → lt (f k) (f a) = false := fun k hk hkb => by
    rcases h4 with h4 | h4
    · omega
    · exact h.ntrans _ _ _ (s2.le h h1 hk hkb) h4
  refine ⟨(Moved.rot h f (Nat.le_succ a) h1 fun x y hx hxm hy hyi => ?_).wide (Nat.le_refl _) (by omega) h2, fun x y hx hxy hy => ?_⟩
  · rw [show x = a by omega]
    exact hlow y hy hyi
  · unfold rot
    by_cases c1 : y < a + (i - (a + 1))
    · rw [if_pos (by omega), if_pos (by omega)]
      exact s2 _ _ (by omega) (by omega) (by omega)
    · by_cases c2 : y < i
      · rw [if_neg (by omega), if_pos (by omega), if_pos (by omega)]
        rw [show y - (i - (a + 1)) = a by omega]
        exact h.asym (hlow _ (by omega) (by omega))
      · rw [if_neg (c := a ≤ y ∧ _) (by omega), if_neg (c := a + _ ≤ y ∧ _) (by omega)]
        by_cases c3 : x < a + (i - (a + 1))
        · rw [if_pos (by omega)]
          exact s2 _ _ (by omega) (by omega) hy
        · by_cases c4 : x < i
          · rw [if_neg (by omega), if_pos (by omega), show x - (i - (a + 1)) = a by omega]
            exact hhigh y (by omega) hy
          · rw [if_neg (by omega), if_neg (by omega)]
            exact s2 _ _ (by omega) hxy hy
/-- one element put in at the right -/
theorem one_right {lt : α → α → Bool} (h : SWO lt) {f : Nat → α} {a m i : Nat} (s1 : SortedOn lt f a m) (h1 : a ≤ i) (h2 : i ≤ m) (h3 : i = a ∨ lt (f m) (f (i - 1)) = false) (h4 : i = m ∨ lt (f m) (f i) = true) :
    Moved lt f (rot f i m (m + 1)) a (m + 1) ∧ SortedOn lt (rot f i m (m + 1)) a (m + 1) := by
  have hlow : ∀ k, a ≤ k → k < i → lt (f m) (f k) = false := fun k hk hki => by
    rcases h3 with h3 | h3
    · omega
    · exact h.ntrans _ _ _ h3 (s1.le h hk (by omega) (by omega))
  have hhigh : ∀ k, i ≤ k → k < m → lt (f m) (f k) = true := fun k hk hkb => by
    rcases h4 with h4 | h4
    · omega
    · exact h.lt_le h4 (s1.le h h1 hk hkb)
  refine ⟨(Moved.rot h f h2 (Nat.le_succ m) fun x y hx hxm hy hyi => ?_).wide h1 (by omega) (Nat.le_refl _), fun x y hx hxy hy => ?_⟩
  · rw [show y = m by omega]
    exact hhigh x hx hxm
  · unfold rot
    by_cases c1 : y < i
    · rw [if_neg (by omega), if_neg (by omega), if_neg (by omega), if_neg (by omega)]
      exact s1 _ _ hx hxy (by omega)
    · by_cases c2 : y = i
      · rw [if_pos (by omega), if_neg (by omega), if_neg (by omega), show y - i + m = m by omega]
        exact hlow x hx (by omega)
      · rw [if_neg (c := i ≤ y ∧ _) (by omega), if_pos (c := i + _ ≤ y ∧ _) (by omega)]
        by_cases c3 : x < i
        · rw [if_neg (by omega), if_neg (by omega)]
          exact s1 _ _ hx (by omega) (by omega)
        · by_cases c4 : x = i
          · rw [if_pos (by omega), show x - i + m = m by omega]
            exact h.asym (hhigh _ (by omega) (by omega))
          · rw [if_neg (by omega), if_pos (by omega)]
            exact s1 _ _ (by omega) (by omega) (by omega)

end Go.Proofs.YtdapnemcdgjeeaaGreatDoor.Stb

namespace Go.Proofs.YtdapnemcdgjeeaaGreatDoor.Stb
variable {α : Type}

theorem ins_head {lt : α → α → Bool} {y : α} {l : List α} (h : ∀ z ∈ l, lt z y = false) : ins lt y l = y :: l := by
  cases l with
  | nil => rfl
  | cons z l => exact ins_no (h z List.mem_cons_self)
/-- two sorted rows merged: of equals that of the first ahead -/
def mergeR (lt : α → α → Bool) : List α → List α → List α
  | [], b => b
  | a, [] => a
  | x :: a, y :: b => if lt y x = true then y :: mergeR lt (x :: a) b else x :: mergeR lt a (y :: b)
termination_by a b => a.length + b.length
theorem mergeR_nil (lt : α → α → Bool) (b : List α) : mergeR lt [] b = b := by rw [mergeR]
theorem mergeR_nil' (lt : α → α → Bool) (a : List α) : mergeR lt a [] = a := by cases a <;> rw [mergeR]; simp
theorem mergeR_yes {lt : α → α → Bool} {x y : α} (a b : List α) (h : lt y x = true) : mergeR lt (x :: a) (y :: b) = y :: mergeR lt (x :: a) b := by rw [mergeR, if_pos h]
theorem mergeR_no {lt : α → α → Bool} {x y : α} (a b : List α) (h : lt y x = false) : mergeR lt (x :: a) (y :: b) = x :: mergeR lt a (y :: b) := by rw [mergeR, if_neg (by rw [h]; simp)]
theorem mergeR_isort {lt : α → α → Bool} (h : SWO lt) : ∀ (n : Nat) (a b : List α), a.length + b.length ≤ n → Sorted lt a → Sorted lt b → mergeR lt a b = isort lt (a ++ b) := by
  intro n
  induction n with
  | zero =>
    intro a b hn _ _
    have ha : a = [] := List.eq_nil_of_length_eq_zero (by omega)
    have hb : b = [] := List.eq_nil_of_length_eq_zero (by omega)
    subst ha hb
    rw [mergeR_nil]; rfl
  | succ n ih =>
    intro a b hn ha hb
    cases a with
    | nil => rw [mergeR_nil, List.nil_append, isort_sorted hb]
    | cons x a =>
      cases b with
      | nil => rw [mergeR_nil', List.append_nil, isort_sorted ha]
      | cons y b =>
        obtain ⟨a1, a2⟩ := List.pairwise_cons.1 ha
        obtain ⟨b1, b2⟩ := List.pairwise_cons.1 hb
        simp only [List.length_cons] at hn
        cases hyx : lt y x with
        | true =>
          have hall : ∀ z ∈ x :: a, lt y z = true := fun z hz => by
            rcases List.mem_cons.1 hz with rfl | hz
            · exact hyx
            · exact h.lt_le hyx (a1 z hz)
          rw [mergeR_yes a b hyx, ih (x :: a) b (by simp only [List.length_cons]; omega) ha b2]
          have e := isort_blocks h (x :: a) [y] b (fun u hu v hv => by rw [List.mem_singleton.1 hv]; exact hall u hu)
          rw [List.singleton_append, List.singleton_append] at e
          rw [e]
          show _ = ins lt y (isort lt (x :: a ++ b))
          rw [ins_head]
          intro z hz
          rcases List.mem_append.1 ((isort_perm lt _).mem_iff.1 hz) with hz | hz
          · exact h.asym (hall z hz)
          · exact b1 z hz
        | false =>
          rw [mergeR_no a b hyx, ih a (y :: b) (by simp only [List.length_cons]; omega) a2 hb]
          show _ = ins lt x (isort lt (a ++ y :: b))
          rw [ins_head]
          intro z hz
          rcases List.mem_append.1 ((isort_perm lt _).mem_iff.1 hz) with hz | hz
          · exact a1 z hz
          · rcases List.mem_cons.1 hz with rfl | hz
            · exact hyx
            · exact h.ntrans z y x (b1 z hz) hyx
theorem isort_isort {lt : α → α → Bool} (h : SWO lt) (a b : List α) : mergeR lt (isort lt a) (isort lt b) = isort lt (a ++ b) := by
  rw [mergeR_isort h _ _ _ (Nat.le_refl _) (isort_is_sorted h a) (isort_is_sorted h b)]
  have hb : isort lt (isort lt b) = isort lt b := isort_sorted (isort_is_sorted h b)
  rw [isort_congr _ hb]
  induction a with
  | nil => rfl
  | cons x a ih =>
    have hx : ∀ (s : List α) (x : α) (l : List α), Sorted lt l → isort lt (ins lt x l ++ s) = ins lt x (isort lt (l ++ s)) := by
      intro s x l
      induction l with
      | nil => intro _; rfl
      | cons y l ihl =>
        intro hl
        obtain ⟨l1, l2⟩ := List.pairwise_cons.1 hl
        cases hyx : lt y x with
        | true =>
          rw [ins_yes hyx]
          show ins lt y (isort lt (ins lt x l ++ s)) = ins lt x (ins lt y (isort lt (l ++ s)))
          rw [ihl l2, ins_comm h hyx]
        | false => rw [ins_no hyx]; rfl
    show isort lt (ins lt x (isort lt a) ++ b) = ins lt x (isort lt (a ++ b))
    rw [hx b x _ (isort_is_sorted h a), ih]
/-- the reference's sorting: halves, merged -/
def rsort (lt : α → α → Bool) : Nat → List α → List α
  | 0, l => l
  | f + 1, l => if l.length < 2 then l else mergeR lt (rsort lt f (l.take (l.length / 2))) (rsort lt f (l.drop (l.length / 2)))
theorem rsort_isort {lt : α → α → Bool} (h : SWO lt) : ∀ (f : Nat) (l : List α), l.length ≤ f + 1 → rsort lt f l = isort lt l := by
  have small : ∀ l : List α, l.length < 2 → isort lt l = l := fun l hl => by
    match l, hl with
    | [], _ => rfl
    | [x], _ => rfl
  intro f
  induction f with
  | zero => intro l hl; exact (small l (by omega)).symm
  | succ f ih =>
    intro l hl
    rw [rsort]
    by_cases c : l.length < 2
    · rw [if_pos c, small l c]
    · rw [if_neg c, ih _ (by rw [List.length_take]; omega), ih _ (by rw [List.length_drop]; omega), isort_isort h, List.take_append_drop]

end Go.Proofs.YtdapnemcdgjeeaaGreatDoor.Stb

namespace Go.Proofs.YtdapnemcdgjeeaaGreatDoor.Ord
open Val

/-- an order told by a number -/
structure Pre {α : Type} (p : α → Prop) (f : α → α → Int) : Prop where
  neg : ∀ a b, f b a = - f a b
  trans : ∀ a b c, p a → p b → p c → f a b ≤ 0 → f b c ≤ 0 → f a c ≤ 0
theorem Pre.lt_le {α : Type} {p : α → Prop} {f : α → α → Int} (h : Pre p f) {a b c : α} (ha : p a) (hb : p b) (hc : p c) (h1 : f a b < 0) (h2 : f b c ≤ 0) : f a c < 0 := by
  rcases Int.lt_trichotomy (f a c) 0 with x | x | x
  · exact x
  · exfalso
    have e := h.neg a c
    have := h.trans b c a hb hc ha h2 (by omega)
    have := h.neg a b
    omega
  · exfalso
    have e := h.neg a c
    have := h.trans b c a hb hc ha h2 (by omega)
    have := h.neg a b
    omega
theorem Pre.lex {α : Type} {p : α → Prop} {f g : α → α → Int} (hf : Pre p f) (hg : Pre p g) : Pre p (fun a b => if f a b ≠ 0 then f a b else g a b) := by
  refine ⟨fun a b => ?_, fun a b c ha hb hc h1 h2 => ?_⟩
  · have := hf.neg a b
    have := hg.neg a b
    by_cases x : f a b = 0
    · simp only [x, _root_.ne_eq, not_true, if_false]
      rw [if_neg (by omega)]
      omega
    · rw [if_pos (by omega), if_pos x]
      omega
  · have n1 := hf.neg a b
    have n2 := hf.neg b c
    by_cases x : f a b = 0
    · rw [if_neg (by omega)] at h1
      by_cases y : f b c = 0
      · rw [if_neg (by omega)] at h2
        have e1 := hf.trans a b c ha hb hc (by omega) (by omega)
        have e2 := hf.trans c b a hc hb ha (by omega) (by omega)
        have e3 := hf.neg a c
        rw [if_neg (by omega)]
        exact hg.trans a b c ha hb hc h1 h2
      · rw [if_pos y] at h2
        have e1 := hf.trans a b c ha hb hc (by omega) h2
        have e2 : f a c ≠ 0 := fun e => by
          have n3 := hf.neg a c
          have := hf.trans c a b hc ha hb (by omega) (by omega)
          omega
        rw [if_pos e2]; exact e1
    · rw [if_pos x] at h1
      have hlt : f a b < 0 := by omega
      have h2' : f b c ≤ 0 := by
        by_cases y : f b c = 0
        · omega
        · rw [if_pos y] at h2; exact h2
      have := hf.lt_le ha hb hc hlt h2'
      rw [if_pos (by omega)]
      omega
theorem Pre.flip {α : Type} {p : α → Prop} {f : α → α → Int} (h : Pre p f) : Pre p (fun a b => - f a b) :=
  ⟨fun a b => by have := h.neg a b; omega, fun a b c ha hb hc h1 h2 => by
    have n1 := h.neg a b
    have n2 := h.neg b c
    have n3 := h.neg a c
    have := h.trans c b a hc hb ha (by omega) (by omega)
    omega⟩
theorem Pre.on {α β : Type} {p : α → Prop} {q : β → Prop} {f : α → α → Int} (h : Pre p f) (m : β → α) (hm : ∀ b, q b → p (m b)) : Pre q (fun a b => f (m a) (m b)) :=
  ⟨fun a b => h.neg _ _, fun a b c ha hb hc h1 h2 => h.trans _ _ _ (hm a ha) (hm b hb) (hm c hc) h1 h2⟩
theorem cmp_pre (c : Int) : Pre (fun v => may v = true) (fun a b => cmp a b c) := ⟨fun a b => cmp_neg a b c, fun a b d ha hb hd h1 h2 => cmp_trans a b d c ha hb hd h1 h2⟩
theorem compareInt_neg (x y : Int) : Lib.compareInt y x = - Lib.compareInt x y := by
  unfold Lib.compareInt
  repeat' split
  all_goals omega
theorem compareInt_le {x y : Int} : Lib.compareInt x y ≤ 0 ↔ x ≤ y := by
  unfold Lib.compareInt
  repeat' split
  all_goals omega
def mayRow (l : List V) : Prop := ∀ v ∈ l, may v = true
/-- rows, value for value under the binary collation, then by length -/
theorem rows_neg : ∀ (a b : List V) (k : Nat), rowsFrom [] k b a = - rowsFrom [] k a b := by
  intro a
  induction a with
  | nil => intro b k; rw [rowsFrom_end _ _ _ _ (.inl rfl), rowsFrom_end _ _ _ _ (.inr rfl), compareInt_neg]
  | cons x a ih =>
    intro b k
    cases b with
    | nil => rw [rowsFrom_end _ _ _ _ (.inl rfl), rowsFrom_end _ _ _ _ (.inr rfl), compareInt_neg]
    | cons y b =>
      rw [rowsFrom, rowsFrom]
      have e := cmp_neg x y (([] : List Int).getD k 0)
      by_cases h : cmp x y (([] : List Int).getD k 0) = 0
      · rw [if_neg (by omega), if_neg (by omega)]; exact ih b (k + 1)
      · rw [if_pos (by omega), if_pos h]; exact e
theorem rows_trans : ∀ (a b c : List V) (k : Nat), mayRow a → mayRow b → mayRow c → rowsFrom [] k a b ≤ 0 → rowsFrom [] k b c ≤ 0 → rowsFrom [] k a c ≤ 0 := by
  intro a
  induction a with
  | nil =>
    intro b c k _ _ _ _ _
    rw [rowsFrom_end _ _ _ _ (.inl rfl), compareInt_le]
    simp
  | cons x a ih =>
    intro b c k ha hb hc h1 h2
    cases b with
    | nil =>
      exfalso
      rw [rowsFrom_end _ _ _ _ (.inr rfl), compareInt_le] at h1
      simp only [List.length_cons, List.length_nil] at h1
      omega
    | cons y b =>
      cases c with
      | nil =>
        exfalso
        rw [rowsFrom_end _ _ _ _ (.inr rfl), compareInt_le] at h2
        simp only [List.length_cons, List.length_nil] at h2
        omega
      | cons z c =>
        rw [rowsFrom] at h1 h2 ⊢
        have hx := ha x List.mem_cons_self
        have hy := hb y List.mem_cons_self
        have hz := hc z List.mem_cons_self
        have P := cmp_pre (([] : List Int).getD k 0)
        have n1 := P.neg x y
        have n2 := P.neg y z
        have n3 := P.neg x z
        try simp only at n1 n2 n3
        by_cases c1 : cmp x y (([] : List Int).getD k 0) = 0
        · rw [if_neg (by omega)] at h1
          by_cases c2 : cmp y z (([] : List Int).getD k 0) = 0
          · rw [if_neg (by omega)] at h2
            have e1 := P.trans x y z hx hy hz (by omega) (by omega)
            have e2 := P.trans z y x hz hy hx (by omega) (by omega)
            try simp only at e1 e2
            rw [if_neg (by omega)]
            exact ih b c (k + 1) (fun v hv => ha v (List.mem_cons_of_mem _ hv)) (fun v hv => hb v (List.mem_cons_of_mem _ hv)) (fun v hv => hc v (List.mem_cons_of_mem _ hv)) h1 h2
          · rw [if_pos c2] at h2
            have e1 := P.trans x y z hx hy hz (by omega) h2
            have e2 : cmp x z (([] : List Int).getD k 0) ≠ 0 := fun e => by
              have := P.trans z x y hz hx hy (by omega) (by omega)
              try simp only at this
              omega
            rw [if_pos e2]; exact e1
        · rw [if_pos c1] at h1
          have h2' : cmp y z (([] : List Int).getD k 0) ≤ 0 := by
            by_cases c2 : cmp y z (([] : List Int).getD k 0) = 0
            · omega
            · rw [if_pos c2] at h2; exact h2
          have := P.lt_le hx hy hz (by omega) h2'
          try simp only at this
          rw [if_pos (by omega)]
          omega
theorem rows_pre : Pre mayRow (fun a b => rowsFrom [] 0 a b) := ⟨fun a b => rows_neg a b 0, fun a b c ha hb hc h1 h2 => rows_trans a b c 0 ha hb hc h1 h2⟩

/-- a key: column, collation, the other way round -/
structure Key where
  col : Int
  coll : Int
  desc : Bool
def atV (row : List V) (col : Int) : V := if col < 0 ∨ (row.length : Int) ≤ col then zero else row.getD col.toNat zero
def firstV (row : List V) (w : Int) : List V := row.take w.toNat
def standV : List Key → Int → List V → List V → Int
  | [], w, a, b => rowsFrom [] 0 (firstV a w) (firstV b w)
  | k :: ks, w, a, b => if cmp (atV a k.col) (atV b k.col) k.coll ≠ 0 then (if k.desc = true then - cmp (atV a k.col) (atV b k.col) k.coll else cmp (atV a k.col) (atV b k.col) k.coll) else standV ks w a b
theorem zero_may : may zero = true := may_iff.2 (.inl ⟨rfl, rfl, rfl⟩)
theorem atV_may {row : List V} (h : mayRow row) (col : Int) : may (atV row col) = true := by
  unfold atV
  split
  · exact zero_may
  · rename_i hc
    have hl : col.toNat < row.length := by omega
    rw [List.getD_eq_getElem?_getD, List.getElem?_eq_getElem hl]
    exact h _ (List.getElem_mem hl)
theorem firstV_may {row : List V} (h : mayRow row) (w : Int) : mayRow (firstV row w) := fun v hv => h v (List.mem_of_mem_take hv)
theorem stand_pre : ∀ (ks : List Key) (w : Int), Pre mayRow (standV ks w) := by
  intro ks
  induction ks with
  | nil => intro w; exact rows_pre.on (fun r => firstV r w) (fun r hr => firstV_may hr w)
  | cons k ks ih =>
    intro w
    have hk : Pre mayRow (fun a b => cmp (atV a k.col) (atV b k.col) k.coll) := (cmp_pre k.coll).on (fun r => atV r k.col) (fun r hr => atV_may hr k.col)
    cases hd : k.desc with
    | false =>
      have := hk.lex (ih w)
      refine ⟨fun a b => ?_, fun a b c ha hb hc h1 h2 => ?_⟩
      · have e := this.neg a b
        simp only [standV, hd]
        simpa using e
      · have e := this.trans a b c ha hb hc
        simp only [standV, hd] at h1 h2 ⊢
        simp at e h1 h2 ⊢
        exact e h1 h2
    | true =>
      have := hk.flip.lex (ih w)
      refine ⟨fun a b => ?_, fun a b c ha hb hc h1 h2 => ?_⟩
      · have e := this.neg a b
        simp only [standV, hd]
        simpa using e
      · have e := this.trans a b c ha hb hc
        simp only [standV, hd] at h1 h2 ⊢
        simp at e h1 h2 ⊢
        exact e h1 h2
/-- rows whose values may be -/
def MRow := { l : List V // mayRow l }
def ltR (ks : List Key) (w : Int) (a b : MRow) : Bool := decide (standV ks w a.1 b.1 < 0)
theorem ltR_swo (ks : List Key) (w : Int) : Stb.SWO (ltR ks w) := by
  have P := stand_pre ks w
  refine ⟨fun a => ?_, fun a b c h1 h2 => ?_, fun a b c h1 h2 => ?_⟩
  · have := P.neg a.1 a.1
    exact decide_eq_false (by omega)
  · have h1 := of_decide_eq_true h1
    have h2 := of_decide_eq_true h2
    exact decide_eq_true (P.lt_le a.2 b.2 c.2 h1 (by omega))
  · have h1 := of_decide_eq_false h1
    have h2 := of_decide_eq_false h2
    have n1 := P.neg a.1 b.1
    have n2 := P.neg b.1 c.1
    have n3 := P.neg a.1 c.1
    have := P.trans c.1 b.1 a.1 c.2 b.2 a.2 (by omega) (by omega)
    exact decide_eq_false (by omega)

end Go.Proofs.YtdapnemcdgjeeaaGreatDoor.Ord

namespace Go.Proofs.YtdapnemcdgjeeaaGreatDoor.Stb
variable {α : Type}

theorem ins_swap {lt : α → α → Bool} (h : SWO lt) (ha : ∀ a b, lt a b = false → lt b a = false → a = b) (x y : α) (s : List α) : ins lt x (ins lt y s) = ins lt y (ins lt x s) := by
  cases c1 : lt y x with
  | true => exact ins_comm h c1 s
  | false =>
    cases c2 : lt x y with
    | true => exact (ins_comm h c2 s).symm
    | false => rw [ha x y c2 c1]
theorem isort_any {lt : α → α → Bool} (h : SWO lt) (ha : ∀ a b, lt a b = false → lt b a = false → a = b) {l m : List α} (hp : l.Perm m) : isort lt l = isort lt m := by
  induction hp with
  | nil => rfl
  | cons x _ ih => show ins lt x _ = ins lt x _; rw [ih]
  | swap x y l => exact ins_swap h ha y x _
  | trans _ _ ih1 ih2 => exact ih1.trans ih2
/-- of rows among which the order tells all apart -/
theorem isort_on {lt : α → α → Bool} (h : SWO lt) {l m : List α} (hp : l.Perm m) (ha : ∀ a ∈ l, ∀ b ∈ l, lt a b = false → lt b a = false → a = b) : isort lt l = isort lt m := by
  induction hp with
  | nil => rfl
  | cons x _ ih =>
    show ins lt x _ = ins lt x _
    rw [ih fun a h1 b h2 => ha a (List.mem_cons_of_mem _ h1) b (List.mem_cons_of_mem _ h2)]
  | swap x y l =>
    show ins lt y (ins lt x (isort lt l)) = ins lt x (ins lt y (isort lt l))
    cases c1 : lt x y with
    | true => exact ins_comm h c1 _
    | false =>
      cases c2 : lt y x with
      | true => exact (ins_comm h c2 _).symm
      | false => rw [ha x (by simp) y (by simp) c1 c2]
  | trans p1 _ ih1 ih2 => exact (ih1 ha).trans (ih2 fun a h1 b h2 => ha a (p1.mem_iff.2 h1) b (p1.mem_iff.2 h2))

/-- runs of like rows -/
def runsG (e : α → α → Bool) : List (List α) → Option α → List α → List (List α)
  | out, _, [] => out
  | out, none, x :: l => runsG e (out ++ [[x]]) (some x) l
  | out, some p, x :: l => if e p x = true then runsG e (out.dropLast ++ [(out.getLast?.getD []) ++ [x]]) (some x) l else runsG e (out ++ [[x]]) (some x) l
theorem runsG_flat (e : α → α → Bool) : ∀ (l : List α) (out : List (List α)) (p : Option α), (p.isSome = true → out ≠ []) → (runsG e out p l).flatten = out.flatten ++ l := by
  intro l
  induction l with
  | nil => intro out p _; cases p <;> simp [runsG]
  | cons x l ih =>
    intro out p hp
    cases p with
    | none =>
      rw [runsG, ih _ _ (fun _ => by simp)]
      simp
    | some q =>
      rw [runsG]
      split
      · rw [ih _ _ (fun _ => by simp)]
        have hne := hp rfl
        have e1 : out = out.dropLast ++ [out.getLast hne] := (List.dropLast_concat_getLast hne).symm
        rw [List.getLast?_eq_some_getLast hne, Option.getD_some]
        conv => rhs; rw [e1]
        simp
      · rw [ih _ _ (fun _ => by simp)]
        simp
end Go.Proofs.YtdapnemcdgjeeaaGreatDoor.Stb
namespace Go.Proofs.YtdapnemcdgjeeaaGreatDoor.Ord
open Val
theorem rows_zero : ∀ (a b : List V) (k : Nat), mayRow a → mayRow b → rowsFrom [] k a b = 0 → a = b := by
  intro a
  induction a with
  | nil =>
    intro b k _ _ h
    rw [rowsFrom_end _ _ _ _ (.inl rfl)] at h
    have h1 := (compareInt_le (x := (([] : List V).length : Int)) (y := (b.length : Int))).1 (by omega)
    have h2 := (compareInt_le (x := (b.length : Int)) (y := (([] : List V).length : Int))).1 (by rw [compareInt_neg]; omega)
    simp only [List.length_nil] at h1 h2
    exact (List.eq_nil_of_length_eq_zero (by omega)).symm
  | cons x a ih =>
    intro b k ha hb h
    cases b with
    | nil =>
      exfalso
      rw [rowsFrom_end _ _ _ _ (.inr rfl)] at h
      have h1 := (compareInt_le (x := ((x :: a).length : Int)) (y := (([] : List V).length : Int))).1 (by omega)
      simp only [List.length_nil, List.length_cons] at h1
      omega
    | cons y b =>
      rw [rowsFrom] at h
      by_cases c : cmp x y (([] : List Int).getD k 0) = 0
      · rw [if_neg (by omega)] at h
        have e1 := cmp_one x y (ha x List.mem_cons_self) (hb y List.mem_cons_self) c
        have e2 := ih b (k + 1) (fun v hv => ha v (List.mem_cons_of_mem _ hv)) (fun v hv => hb v (List.mem_cons_of_mem _ hv)) h
        rw [e1, e2]
      · rw [if_pos c] at h
        exact absurd h c
theorem stand_zero : ∀ (ks : List Key) (w : Int) (a b : List V), mayRow a → mayRow b → standV ks w a b = 0 → firstV a w = firstV b w := by
  intro ks
  induction ks with
  | nil => intro w a b ha hb h; exact rows_zero _ _ 0 (firstV_may ha w) (firstV_may hb w) h
  | cons k ks ih =>
    intro w a b ha hb h
    rw [standV] at h
    by_cases c : cmp (atV a k.col) (atV b k.col) k.coll = 0
    · rw [if_neg (by omega)] at h
      exact ih w a b ha hb h
    · rw [if_pos c] at h
      exfalso
      split at h <;> omega
/-- rows that are not longer than the width are told apart -/
theorem lt_apart (ks : List Key) (w : Int) (a b : MRow) (ha : (a.1.length : Int) ≤ w) (hb : (b.1.length : Int) ≤ w) (h1 : ltR ks w a b = false) (h2 : ltR ks w b a = false) : a = b := by
  have h1 := of_decide_eq_false h1
  have h2 := of_decide_eq_false h2
  have n := (stand_pre ks w).neg a.1 b.1
  have e := stand_zero ks w a.1 b.1 a.2 b.2 (by omega)
  unfold firstV at e
  rw [List.take_of_length_le (by omega), List.take_of_length_le (by omega)] at e
  exact Subtype.ext e

end Go.Proofs.YtdapnemcdgjeeaaGreatDoor.Ord

namespace Go.Proofs.YtdapnemcdgjeeaaGreatDoor.Stb
variable {α : Type}

/-- no child is behind its parent -/
def Heap (lt : α → α → Bool) (f : Nat → α) (n : Nat) : Prop := ∀ k, 0 < k → k < n → lt (f ((k - 1) / 2)) (f k) = false
/-- a heap but for place j and its parent -/
def HeapUp (lt : α → α → Bool) (f : Nat → α) (n j : Nat) : Prop := (∀ k, 0 < k → k < n → k ≠ j → lt (f ((k - 1) / 2)) (f k) = false) ∧ (∀ k, 0 < k → k < n → (k - 1) / 2 = j → 0 < j → lt (f ((j - 1) / 2)) (f k) = false)
theorem up_step {lt : α → α → Bool} (h : SWO lt) {f : Nat → α} {n j : Nat} (hj : 0 < j) (hn : j < n) (hu : HeapUp lt f n j) (hl : lt (f ((j - 1) / 2)) (f j) = true) : HeapUp lt (swap f ((j - 1) / 2) j) n ((j - 1) / 2) := by
  obtain ⟨h1, h2⟩ := hu
  have ha := h.asym hl
  refine ⟨fun k hk hkn hne => ?_, fun k hk hkn hp h0 => ?_⟩
  · unfold swap
    by_cases e1 : k = j
    · subst e1
      rw [if_pos rfl, if_neg (by omega), if_pos rfl]
      exact ha
    · rw [if_neg (show ¬ k = (j - 1) / 2 from hne), if_neg e1]
      by_cases e2 : (k - 1) / 2 = (j - 1) / 2
      · rw [if_pos e2]
        have := h1 k hk hkn e1
        rw [e2] at this
        exact h.ntrans _ _ _ ha this
      · rw [if_neg e2]
        by_cases e3 : (k - 1) / 2 = j
        · rw [if_pos e3]
          exact h2 k hk hkn e3 hj
        · rw [if_neg e3]
          exact h1 k hk hkn e1
  · unfold swap
    rw [if_neg (by omega), if_neg (by omega)]
    have hp1 := h1 ((j - 1) / 2) h0 (by omega) (by omega)
    by_cases e1 : k = j
    · subst e1
      rw [if_neg (by omega), if_pos rfl]
      exact hp1
    · rw [if_neg (by omega), if_neg e1]
      have := h1 k hk hkn e1
      rw [hp] at this
      exact h.ntrans _ _ _ hp1 this
theorem up_done {lt : α → α → Bool} {f : Nat → α} {n j : Nat} (hu : HeapUp lt f n j) (hl : j = 0 ∨ lt (f ((j - 1) / 2)) (f j) = false) : Heap lt f n := by
  intro k hk hkn
  by_cases e : k = j
  · rcases hl with hl | hl
    · omega
    · rw [e]; exact hl
  · exact hu.1 k hk hkn e
theorem up_start {lt : α → α → Bool} {f : Nat → α} {n : Nat} (hh : Heap lt f n) : HeapUp lt f (n + 1) n :=
  ⟨fun k hk hkn hne => hh k hk (by omega), fun k hk hkn hp _ => by omega⟩
/-- a heap but for place i and its children -/
def HeapDown (lt : α → α → Bool) (f : Nat → α) (n i : Nat) : Prop := (∀ k, 0 < k → k < n → (k - 1) / 2 ≠ i → lt (f ((k - 1) / 2)) (f k) = false) ∧ (∀ k, 0 < k → k < n → (k - 1) / 2 = i → 0 < i → lt (f ((i - 1) / 2)) (f k) = false)
theorem down_step {lt : α → α → Bool} (h : SWO lt) {f : Nat → α} {n i j : Nat} (hn : j < n) (hj : j = 2 * i + 1 ∨ j = 2 * i + 2) (hd : HeapDown lt f n i) (hl : lt (f i) (f j) = true) (hb : ∀ k, k < n → (k = 2 * i + 1 ∨ k = 2 * i + 2) → lt (f j) (f k) = false) : HeapDown lt (swap f i j) n j := by
  obtain ⟨h1, h2⟩ := hd
  have ha := h.asym hl
  refine ⟨fun k hk hkn hne => ?_, fun k hk hkn hp h0 => ?_⟩
  · unfold swap
    by_cases e1 : k = i
    · subst e1
      rw [if_neg (by omega), if_neg (by omega), if_pos rfl]
      exact h2 j (by omega) hn (by omega) hk
    · by_cases e2 : k = j
      · subst e2
        rw [if_pos (by omega), if_neg (by omega), if_pos rfl]
        exact ha
      · rw [if_neg e1, if_neg e2]
        by_cases e3 : (k - 1) / 2 = i
        · rw [if_pos e3]
          exact hb k hkn (by omega)
        · rw [if_neg e3, if_neg hne]
          exact h1 k hk hkn e3
  · unfold swap
    rw [if_pos (by omega), if_neg (by omega), if_neg (by omega)]
    have := h1 k hk hkn (by omega)
    rw [hp] at this
    exact this
theorem down_done {lt : α → α → Bool} (h : SWO lt) {f : Nat → α} {n i : Nat} (hd : HeapDown lt f n i) (hb : ∀ k, k < n → (k = 2 * i + 1 ∨ k = 2 * i + 2) → lt (f i) (f k) = false) : Heap lt f n := by
  intro k hk hkn
  by_cases e : (k - 1) / 2 = i
  · rw [e]; exact hb k hkn (by omega)
  · exact hd.1 k hk hkn e
theorem heap_top {lt : α → α → Bool} (h : SWO lt) {f : Nat → α} {n : Nat} (hh : Heap lt f n) : ∀ k, k < n → lt (f 0) (f k) = false := by
  intro k
  induction k using Nat.strongRecOn with
  | _ k ih =>
    intro hk
    rcases Nat.eq_zero_or_pos k with rfl | h0
    · exact h.irr _
    · exact h.ntrans _ _ _ (ih ((k - 1) / 2) (by omega) (by omega)) (hh k h0 hk)
theorem down_start {lt : α → α → Bool} {f : Nat → α} {n : Nat} (hh : Heap lt f (n + 1)) : HeapDown lt (swap f 0 n) n 0 :=
  ⟨fun k hk hkn hne => by
    unfold swap
    rw [if_neg (by omega), if_neg (by omega), if_neg (by omega), if_neg (by omega)]
    exact hh k hk (by omega), fun k hk hkn hp h0 => by omega⟩
theorem seg_swap (f : Nat → α) {i j n : Nat} (hi : i < n) (hj : j < n) : (seg (swap f i j) 0 n).Perm (seg f 0 n) := by
  have aux : ∀ {i j : Nat}, i < j → j < n → (seg (swap f i j) 0 n).Perm (seg f 0 n) := by
    intro i j hij hj
    have e : ∀ g : Nat → α, seg g 0 n = seg g 0 i ++ ([g i] ++ (seg g (i + 1) j ++ ([g j] ++ seg g (j + 1) n))) := fun g => by
      rw [seg_split g (m := i) (by omega) (by omega), seg_split g (a := i) (m := i + 1) (by omega) (by omega), seg_split g (a := i + 1) (m := j) (by omega) (by omega), seg_split g (a := j) (m := j + 1) (by omega) (by omega)]
      have o : ∀ k, seg g k (k + 1) = [g k] := fun k => by unfold seg; rw [show k + 1 - k = 1 by omega]; rfl
      rw [o, o]
    rw [e (swap f i j), e f]
    have s1 : seg (swap f i j) 0 i = seg f 0 i := seg_congr fun k _ hk => by unfold swap; rw [if_neg (by omega), if_neg (by omega)]
    have s2 : seg (swap f i j) (i + 1) j = seg f (i + 1) j := seg_congr fun k hk hk2 => by unfold swap; rw [if_neg (by omega), if_neg (by omega)]
    have s3 : seg (swap f i j) (j + 1) n = seg f (j + 1) n := seg_congr fun k hk hk2 => by unfold swap; rw [if_neg (by omega), if_neg (by omega)]
    have x1 : swap f i j i = f j := by unfold swap; rw [if_pos rfl]
    have x2 : swap f i j j = f i := by unfold swap; rw [if_neg (by omega), if_pos rfl]
    rw [s1, s2, s3, x1, x2]
    refine List.Perm.append_left _ ?_
    have p1 : ∀ (x y : α) (A B : List α), ([x] ++ (A ++ ([y] ++ B))).Perm ([y] ++ (A ++ ([x] ++ B))) := fun x y A B => by
      have a1 : ([x] ++ (A ++ ([y] ++ B))).Perm (x :: y :: (A ++ B)) := List.Perm.cons x (List.perm_middle)
      have a2 : ([y] ++ (A ++ ([x] ++ B))).Perm (y :: x :: (A ++ B)) := List.Perm.cons y (List.perm_middle)
      exact a1.trans ((List.Perm.swap y x _).trans a2.symm)
    exact p1 _ _ _ _
  rcases Nat.lt_trichotomy i j with h | h | h
  · exact aux h hj
  · subst h
    have : swap f i i = f := by funext k; unfold swap; repeat' split
                                all_goals first | rfl | (congr 1; omega)
    rw [this]
  · have : swap f i j = swap f j i := by funext k; unfold swap; repeat' split
                                         all_goals first | rfl | (congr 1; omega) | (exfalso; omega)
    rw [this]
    exact aux h hi

/-- the first so many of the rows in order: those held, of all that came -/
structure Best (lt : α → α → Bool) (n : Nat) (all held : List α) : Prop where
  ex : ∃ rest : List α, all.Perm (held ++ rest) ∧ (∀ a ∈ held, ∀ b ∈ rest, lt a b = true) ∧ (held.length < n → rest = [])
  len : held.length ≤ n
theorem Best.nil (lt : α → α → Bool) (n : Nat) : Best lt n [] [] := ⟨⟨[], List.Perm.refl _, fun a h => (List.not_mem_nil h).elim, fun _ => rfl⟩, Nat.zero_le _⟩
theorem Best.push {lt : α → α → Bool} {n : Nat} {all held : List α} {x : α} (h : Best lt n all held) (hl : held.length < n) : Best lt n (all ++ [x]) (held ++ [x]) := by
  obtain ⟨rest, p, _, h3⟩ := h.ex
  have := h3 hl
  subst this
  rw [List.append_nil] at p
  exact ⟨⟨[], by rw [List.append_nil]; exact p.append_right _, fun a _ b hb => (List.not_mem_nil hb).elim, fun _ => rfl⟩, by simp; omega⟩
theorem Best.same {lt : α → α → Bool} {n : Nat} {all held held' : List α} (h : Best lt n all held) (hp : held.Perm held') : Best lt n all held' := by
  obtain ⟨rest, p, h2, h3⟩ := h.ex
  exact ⟨⟨rest, p.trans (hp.append_right _), fun a ha => h2 a (hp.mem_iff.2 ha), fun hl => h3 (by rw [hp.length_eq]; exact hl)⟩, by rw [← hp.length_eq]; exact h.len⟩
/-- one more came, and the last in order went -/
theorem Best.pop {lt : α → α → Bool} (hs : SWO lt) {n : Nat} {all held keep : List α} {x m : α} (h : Best lt n all held) (hl : held.length = n) (hp : (held ++ [x]).Perm (keep ++ [m])) (hm : ∀ a ∈ keep, lt a m = true) : Best lt n (all ++ [x]) keep := by
  obtain ⟨rest, p, h2, _⟩ := h.ex
  have hk : keep.length = n := by have := hp.length_eq; simp at this; omega
  refine ⟨⟨m :: rest, ?_, fun a ha b hb => ?_, fun hlt => by omega⟩, by omega⟩
  · refine (p.append_right [x]).trans ?_
    have e1 : (held ++ rest ++ [x]).Perm (held ++ [x] ++ rest) := by
      rw [List.append_assoc, List.append_assoc]
      exact List.Perm.append_left _ List.perm_append_comm
    refine e1.trans ((hp.append_right rest).trans ?_)
    rw [List.append_assoc]
    exact List.Perm.refl _
  · rcases List.mem_cons.1 hb with rfl | hb
    · exact hm a ha
    · have ham : a ∈ held ++ [x] := hp.mem_iff.2 (List.mem_append_left _ ha)
      rcases List.mem_append.1 ham with h1 | h1
      · exact h2 a h1 b hb
      · have hmm : m ∈ held ++ [x] := hp.mem_iff.2 (by simp)
        rcases List.mem_append.1 hmm with h3 | h3
        · exact hs.trans _ _ _ (hm a ha) (h2 m h3 b hb)
        · exfalso
          have h4 := hm a ha
          rw [List.mem_singleton.1 h1, List.mem_singleton.1 h3, hs.irr] at h4
          cases h4
/-- sorted, they are the first of all sorted -/
theorem Best.take {lt : α → α → Bool} (hs : SWO lt) (hanti : ∀ a b, lt a b = false → lt b a = false → a = b) {n : Nat} {all held : List α} (h : Best lt n all held) : isort lt held = (isort lt all).take n := by
  obtain ⟨rest, p, h2, h3⟩ := h.ex
  have e : isort lt all = isort lt held ++ isort lt rest := by
    rw [isort_any hs hanti p]
    have hsorted : Sorted lt (isort lt held ++ isort lt rest) := by
      refine List.pairwise_append.2 ⟨isort_is_sorted hs _, isort_is_sorted hs _, fun a ha b hb => ?_⟩
      exact hs.asym (h2 a ((isort_perm lt _).mem_iff.1 ha) b ((isort_perm lt _).mem_iff.1 hb))
    rw [← isort_sorted hsorted]
    exact isort_any hs hanti ((isort_perm lt held).append (isort_perm lt rest)).symm
  have hl : (isort lt held).length = held.length := (isort_perm lt held).length_eq
  rw [e]
  by_cases c : held.length < n
  · rw [h3 c]
    show isort lt held = (isort lt held ++ []).take n
    rw [List.append_nil, List.take_of_length_le (by omega)]
  · have := h.len
    rw [List.take_append_of_le_length (by omega), List.take_of_length_le (by omega)]

end Go.Proofs.YtdapnemcdgjeeaaGreatDoor.Stb

namespace Go.Proofs.YtdapnemcdgjeeaaGreatDoor.Tp
open Go.Proofs.YtdapnemcdgjeeaaGreatDoor.Ord Go.Proofs.YtdapnemcdgjeeaaGreatDoor.Stb

/-- how two rows stand that are held: by keys and first columns, then by their places -/
def cfI (ks : List Key) (width : Int) (rows : Nat → List Val.V) (a b : Nat) : Int := if standV ks width (rows a) (rows b) ≠ 0 then standV ks width (rows a) (rows b) else Lib.compareInt (a : Int) (b : Int)
def ltI (ks : List Key) (width : Int) (rows : Nat → List Val.V) (a b : Nat) : Bool := decide (cfI ks width rows a b < 0)
theorem cfI_pre (ks : List Key) (width : Int) {rows : Nat → List Val.V} (h : ∀ k, mayRow (rows k)) : Pre (fun _ : Nat => True) (cfI ks width rows) := by
  have P := stand_pre ks width
  have h1 : Pre (fun _ : Nat => True) (fun a b => standV ks width (rows a) (rows b)) := P.on rows fun b _ => h b
  have h2 : Pre (fun _ : Nat => True) (fun a b : Nat => Lib.compareInt (a : Int) (b : Int)) :=
    ⟨fun a b => compareInt_neg _ _, fun a b c _ _ _ x y => by rw [compareInt_le] at *; omega⟩
  exact h1.lex h2
theorem cfI_neg (ks : List Key) (width : Int) {rows : Nat → List Val.V} (h : ∀ k, mayRow (rows k)) (a b : Nat) : cfI ks width rows b a = - cfI ks width rows a b := (cfI_pre ks width h).neg a b
theorem ltI_swo (ks : List Key) (width : Int) {rows : Nat → List Val.V} (h : ∀ k, mayRow (rows k)) : SWO (ltI ks width rows) := by
  have P := cfI_pre ks width h
  refine ⟨fun a => ?_, fun a b c h1 h2 => ?_, fun a b c h1 h2 => ?_⟩
  · have := P.neg a a
    exact decide_eq_false (by omega)
  · have h1 := of_decide_eq_true h1
    have h2 := of_decide_eq_true h2
    exact decide_eq_true (P.lt_le trivial trivial trivial h1 (by omega))
  · have h1 := of_decide_eq_false h1
    have h2 := of_decide_eq_false h2
    have n1 := P.neg a b
    have n2 := P.neg b c
    have n3 := P.neg a c
    have := P.trans c b a trivial trivial trivial (by omega) (by omega)
    exact decide_eq_false (by omega)
theorem ltI_apart (ks : List Key) (width : Int) {rows : Nat → List Val.V} (h : ∀ k, mayRow (rows k)) (a b : Nat) (h1 : ltI ks width rows a b = false) (h2 : ltI ks width rows b a = false) : a = b := by
  have h1 := of_decide_eq_false h1
  have h2 := of_decide_eq_false h2
  have n := cfI_neg ks width h a b
  have z : cfI ks width rows a b = 0 := by omega
  unfold cfI at z
  split at z
  · exact absurd z (by assumption)
  · have e1 := compareInt_le (x := (a : Int)) (y := (b : Int))
    have e2 := compareInt_le (x := (b : Int)) (y := (a : Int))
    have e3 := compareInt_neg (a : Int) (b : Int)
    have := e1.1 (by omega)
    have := e2.1 (by omega)
    omega
def ltR' (ks : List Key) (width : Int) (a b : List Val.V) : Bool := decide (standV ks width a b < 0)
theorem ins_rows (ks : List Key) (width : Int) (rows : Nat → List Val.V) (x : Nat) : ∀ l : List Nat, (∀ y ∈ l, x < y) → (ins (ltI ks width rows) x l).map rows = ins (ltR' ks width) (rows x) (l.map rows) := by
  intro l
  induction l with
  | nil => intro _; rfl
  | cons y l ih =>
    intro h
    have hxy := h y List.mem_cons_self
    have e : ltI ks width rows y x = ltR' ks width (rows y) (rows x) := by
      unfold ltI ltR' cfI
      by_cases z : standV ks width (rows y) (rows x) = 0
      · rw [if_neg (by simpa using z), z]
        have := compareInt_le (x := (y : Int)) (y := (x : Int))
        have : ¬ Lib.compareInt (y : Int) (x : Int) < 0 := fun q => by have := this.1 (by omega); omega
        rw [decide_eq_false this]
        rfl
      · rw [if_pos z]
    rw [List.map_cons]
    unfold ins
    rw [e]
    split
    · rw [List.map_cons, ih fun z hz => h z (List.mem_cons_of_mem _ hz)]
    · rfl
theorem sort_rows' (ks : List Key) (width : Int) (rows : Nat → List Val.V) : ∀ l : List Nat, l.Pairwise (· < ·) → (isort (ltI ks width rows) l).map rows = isort (ltR' ks width) (l.map rows) := by
  intro l
  induction l with
  | nil => intro _; rfl
  | cons x l ih =>
    intro h
    obtain ⟨h1, h2⟩ := List.pairwise_cons.1 h
    rw [isort, List.map_cons]
    show _ = ins (ltR' ks width) (rows x) (isort (ltR' ks width) (l.map rows))
    rw [← ih h2]
    exact ins_rows ks width rows x _ fun y hy => h1 y ((isort_perm _ l).mem_iff.1 hy)
/-- THE FIRST ROWS IN ORDER -/
theorem top_rows (ks : List Key) (width : Int) {rows : Nat → List Val.V} (h : ∀ k, mayRow (rows k)) {n N : Nat} {held : List Nat} (hb : Best (ltI ks width rows) n (List.range N) held) :
    (isort (ltI ks width rows) held).map rows = (isort (ltR' ks width) ((List.range N).map rows)).take n := by
  rw [hb.take (ltI_swo ks width h) (ltI_apart ks width h), List.map_take, sort_rows' ks width rows _ List.pairwise_lt_range]
end Go.Proofs.YtdapnemcdgjeeaaGreatDoor.Tp

