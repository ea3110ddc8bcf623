/- Stable sorting, in plain Lean. -/
import Derived.Test.YtdapnemcdgjeeaaGreatDoorPlain
set_option maxRecDepth 100000
set_option linter.unusedVariables false
set_option linter.unusedSimpArgs false
namespace Go.Proofs.YtdapnemcdgjeeaaGreatDoor.Stb
variable {α : Type}

/-- a strict weak order -/
structure SWO (lt : α → α → Bool) : Prop where
  irr : ∀ a, lt a a = false
  trans : ∀ a b c, lt a b = true → lt b c = true → lt a c = true
  ntrans : ∀ a b c, lt a b = false → lt b c = false → lt a c = false
theorem SWO.asym {lt : α → α → Bool} (h : SWO lt) {a b : α} (hab : lt a b = true) : lt b a = false := by
  cases hb : lt b a with
  | false => rfl
  | true =>
    have := h.trans a b a hab hb
    rw [h.irr] at this
    cases this
/-- a < b ≤ c -/
theorem SWO.lt_le {lt : α → α → Bool} (h : SWO lt) {a b c : α} (hab : lt a b = true) (hbc : lt c b = false) : lt a c = true := by
  cases hac : lt a c with
  | true => rfl
  | false =>
    have := h.ntrans a c b hac hbc
    rw [this] at hab
    cases hab
/-- a ≤ b < c -/
theorem SWO.le_lt {lt : α → α → Bool} (h : SWO lt) {a b c : α} (hab : lt b a = false) (hbc : lt b c = true) : lt a c = true := by
  cases hac : lt a c with
  | true => rfl
  | false =>
    have := h.ntrans b a c hab hac
    rw [this] at hbc
    cases hbc

def ins (lt : α → α → Bool) (x : α) : List α → List α
  | [] => [x]
  | y :: l => if lt y x = true then y :: ins lt x l else x :: y :: l
/-- the list sorted, equals in their order -/
def isort (lt : α → α → Bool) : List α → List α
  | [] => []
  | x :: l => ins lt x (isort lt l)
theorem ins_yes {lt : α → α → Bool} {x y : α} {l : List α} (h : lt y x = true) : ins lt x (y :: l) = y :: ins lt x l := by rw [ins, if_pos h]
theorem ins_no {lt : α → α → Bool} {x y : α} {l : List α} (h : lt y x = false) : ins lt x (y :: l) = x :: y :: l := by rw [ins, if_neg (by rw [h]; simp)]
theorem ins_comm {lt : α → α → Bool} (h : SWO lt) {x y : α} (hyx : lt y x = true) : ∀ s, ins lt x (ins lt y s) = ins lt y (ins lt x s) := by
  have hxy := h.asym hyx
  intro s
  induction s with
  | nil => show ins lt x [y] = ins lt y [x]; rw [ins_yes hyx, ins_no hxy]; rfl
  | cons z s ih =>
    cases hzy : lt z y with
    | true =>
      have hzx := h.trans z y x hzy hyx
      rw [ins_yes hzy, ins_yes hzx, ins_yes hzx, ins_yes hzy, ih]
    | false =>
      cases hzx : lt z x with
      | true => rw [ins_no hzy, ins_yes hyx, ins_yes hzx, ins_no hzy]
      | false => rw [ins_no hzy, ins_yes hyx, ins_no hzx, ins_no hxy]
theorem isort_past {lt : α → α → Bool} (h : SWO lt) (x : α) : ∀ (B s : List α), (∀ b ∈ B, lt b x = true) → isort lt (x :: (B ++ s)) = isort lt (B ++ x :: s) := by
  intro B
  induction B with
  | nil => intro s _; rfl
  | cons b B ih =>
    intro s hb
    have h1 := ih s (fun c hc => hb c (List.mem_cons_of_mem _ hc))
    show ins lt x (ins lt b (isort lt (B ++ s))) = ins lt b (isort lt (B ++ x :: s))
    rw [ins_comm h (hb b List.mem_cons_self), ← h1]
    rfl
theorem isort_congr {lt : α → α → Bool} : ∀ (l : List α) {s t : List α}, isort lt s = isort lt t → isort lt (l ++ s) = isort lt (l ++ t) := by
  intro l
  induction l with
  | nil => intro s t h; exact h
  | cons x l ih => intro s t h; show ins lt x (isort lt (l ++ s)) = ins lt x (isort lt (l ++ t)); rw [ih h]
/-- two blocks exchanged, all of the second below all of the first -/
theorem isort_blocks {lt : α → α → Bool} (h : SWO lt) : ∀ (A B s : List α), (∀ a ∈ A, ∀ b ∈ B, lt b a = true) → isort lt (A ++ (B ++ s)) = isort lt (B ++ (A ++ s)) := by
  intro A
  induction A with
  | nil => intro B s _; rfl
  | cons x A ih =>
    intro B s hab
    have h1 := ih B s (fun a ha => hab a (List.mem_cons_of_mem _ ha))
    show ins lt x (isort lt (A ++ (B ++ s))) = _
    rw [h1]
    exact isort_past h x B (A ++ s) (hab x List.mem_cons_self)
def Sorted (lt : α → α → Bool) (l : List α) : Prop := l.Pairwise fun a b => lt b a = false
theorem isort_sorted {lt : α → α → Bool} : ∀ {l : List α}, Sorted lt l → isort lt l = l := by
  intro l
  induction l with
  | nil => intro _; rfl
  | cons x l ih =>
    intro h
    obtain ⟨h1, h2⟩ := List.pairwise_cons.1 h
    show ins lt x (isort lt l) = _
    rw [ih h2]
    cases l with
    | nil => rfl
    | cons y l => exact ins_no (h1 y List.mem_cons_self)
theorem ins_perm (lt : α → α → Bool) (x : α) : ∀ l : List α, (ins lt x l).Perm (x :: l) := by
  intro l
  induction l with
  | nil => exact List.Perm.refl _
  | cons y l ih =>
    rw [ins]
    split
    · exact (List.Perm.cons y ih).trans (List.Perm.swap x y l)
    · exact List.Perm.refl _
theorem isort_perm (lt : α → α → Bool) : ∀ l : List α, (isort lt l).Perm l := by
  intro l
  induction l with
  | nil => exact List.Perm.refl _
  | cons x l ih => exact (ins_perm lt x _).trans (List.Perm.cons x ih)
theorem ins_sorted {lt : α → α → Bool} (h : SWO lt) (x : α) : ∀ {l : List α}, Sorted lt l → Sorted lt (ins lt x l) := by
  intro l
  induction l with
  | nil => intro _; exact List.pairwise_singleton _ _
  | cons y l ih =>
    intro hs
    obtain ⟨h1, h2⟩ := List.pairwise_cons.1 hs
    cases hyx : lt y x with
    | true =>
      rw [ins_yes hyx]
      refine List.pairwise_cons.2 ⟨fun z hz => ?_, ih h2⟩
      rcases List.mem_cons.1 ((ins_perm lt x l).mem_iff.1 hz) with rfl | hz
      · exact h.asym hyx
      · exact h1 z hz
    | false =>
      rw [ins_no hyx]
      refine List.pairwise_cons.2 ⟨fun z hz => ?_, hs⟩
      rcases List.mem_cons.1 hz with rfl | hz
      · exact hyx
      · exact h.ntrans z y x (h1 z hz) hyx
theorem isort_is_sorted {lt : α → α → Bool} (h : SWO lt) : ∀ l : List α, Sorted lt (isort lt l) := by
  intro l
  induction l with
  | nil => exact List.Pairwise.nil
  | cons x l ih => exact ins_sorted h x ih

/-! ### a row as a function of the place -/
def seg (f : Nat → α) (a b : Nat) : List α := (List.range' a (b - a)).map f
theorem seg_split (f : Nat → α) {a m b : Nat} (h1 : a ≤ m) (h2 : m ≤ b) : seg f a b = seg f a m ++ seg f m b := by
  unfold seg
  rw [← List.map_append, show b - a = (m - a) + (b - m) by omega, ← List.range'_append_1, show a + (m - a) = m by omega]
theorem seg_mem {f : Nat → α} {a b : Nat} {x : α} (h : x ∈ seg f a b) : ∃ i, a ≤ i ∧ i < b ∧ f i = x := by
  unfold seg at h
  obtain ⟨i, hi, e⟩ := List.mem_map.1 h
  rw [List.mem_range'_1] at hi
  exact ⟨i, by omega, by omega, e⟩
theorem seg_congr {f g : Nat → α} {a b : Nat} (h : ∀ i, a ≤ i → i < b → f i = g i) : seg f a b = seg g a b := by
  unfold seg
  refine List.map_congr_left fun i hi => ?_
  rw [List.mem_range'_1] at hi
  exact h i (by omega) (by omega)
theorem seg_shift (f : Nat → α) (a b d : Nat) : seg (fun i => f (i + d)) a b = seg f (a + d) (b + d) := by
  unfold seg
  rw [show b + d - (a + d) = b - a by omega]
  refine List.ext_getElem (by simp) fun i h1 h2 => ?_
  simp only [List.getElem_map, List.getElem_range']
  congr 1
  omega
def SortedOn (lt : α → α → Bool) (f : Nat → α) (a b : Nat) : Prop := ∀ i j, a ≤ i → i < j → j < b → lt (f j) (f i) = false
/-- two neighbouring pieces exchanged -/
def rot (f : Nat → α) (a m b : Nat) : Nat → α := fun k => if a ≤ k ∧ k < a + (b - m) then f (k - a + m) else if a + (b - m) ≤ k ∧ k < b then f (k - (b - m)) else f k
/-- two pieces of n exchanged -/
def swapR (f : Nat → α) (a b n : Nat) : Nat → α := fun k => if a ≤ k ∧ k < a + n then f (k - a + b) else if b ≤ k ∧ k < b + n then f (k - b + a) else f k
def swap (f : Nat → α) (i j : Nat) : Nat → α := fun k => if k = i then f j else if k = j then f i else f k
theorem swapR_zero (f : Nat → α) (a b : Nat) : swapR f a b 0 = f := by
  funext k
  unfold swapR
  rw [if_neg (by omega), if_neg (by omega)]
theorem swapR_succ (f : Nat → α) {a b n : Nat} (h : a + n < b) : swap (swapR f a b n) (a + n) (b + n) = swapR f a b (n + 1) := by
  funext k
  unfold swap swapR
  repeat' split
  all_goals first | rfl | (exfalso; omega) | (congr 1; omega)
theorem rot_gt (f : Nat → α) {m i j : Nat} (hi : i ≤ m) (hij : j < i) : rot f (m - i) m (m + j) = rot (swapR f (m - i) m j) (m - i + j) m (m + j) := by
  funext k
  unfold rot swapR
  repeat' split
  all_goals first | rfl | (exfalso; omega) | (congr 1; omega)
theorem rot_lt (f : Nat → α) {m i j : Nat} (hi : i ≤ m) (hij : i < j) : rot f (m - i) m (m + j) = rot (swapR f (m - i) (m + j - i) i) (m - i) m (m + j - i) := by
  funext k
  unfold rot swapR
  repeat' split
  all_goals first | rfl | (exfalso; omega) | (congr 1; omega)
theorem rot_eq (f : Nat → α) {m i : Nat} (hi : i ≤ m) : rot f (m - i) m (m + i) = swapR f (m - i) m i := by
  funext k
  unfold rot swapR
  repeat' split
  all_goals first | rfl | (exfalso; omega) | (congr 1; omega)
/-- one element moved to the right, place by place -/
theorem rot_right (f : Nat → α) {a k : Nat} (h : a ≤ k) : swap (rot f a (a + 1) (k + 1)) k (k + 1) = rot f a (a + 1) (k + 2) := by
  funext x
  unfold swap rot
  repeat' split
  all_goals first | rfl | (exfalso; omega) | (congr 1; omega)
theorem rot_right_zero (f : Nat → α) (a : Nat) : rot f a (a + 1) (a + 1) = f := by
  funext x
  unfold rot
  repeat' split
  all_goals first | rfl | (exfalso; omega) | (congr 1; omega)
/-- one element moved to the left -/
theorem rot_left (f : Nat → α) {k m : Nat} (h : k + 1 ≤ m) : swap (rot f (k + 1) m (m + 1)) (k + 1) k = rot f k m (m + 1) := by
  funext x
  unfold swap rot
  repeat' split
  all_goals first | rfl | (exfalso; omega) | (congr 1; omega)
theorem rot_left_zero (f : Nat → α) (m : Nat) : rot f m m (m + 1) = f := by
  funext x
  unfold rot
  repeat' split
  all_goals first | rfl | (exfalso; omega) | (congr 1; omega)
theorem seg_rot (f : Nat → α) {a m b : Nat} (h1 : a ≤ m) (h2 : m ≤ b) : seg (rot f a m b) a b = seg f m b ++ seg f a m := by
  rw [seg_split (rot f a m b) (m := a + (b - m)) (by omega) (by omega)]
  have e1 : seg (rot f a m b) a (a + (b - m)) = seg f m b := by
    unfold seg
    rw [show a + (b - m) - a = b - m by omega]
    refine List.ext_getElem (by simp) fun i h1' h2' => ?_
    simp only [List.length_map, List.length_range'] at h1'
    simp only [List.getElem_map, List.getElem_range', rot]
    rw [if_pos (by omega)]
    congr 1
    omega
  have e2 : seg (rot f a m b) (a + (b - m)) b = seg f a m := by
    unfold seg
    rw [show b - (a + (b - m)) = m - a by omega]
    refine List.ext_getElem (by simp) fun i h1' h2' => ?_
    simp only [List.length_map, List.length_range'] at h1'
    simp only [List.getElem_map, List.getElem_range', rot]
    rw [if_neg (by omega), if_pos (by omega)]
    congr 1
    omega
  rw [e1, e2]
theorem rot_out (f : Nat → α) {a m b k : Nat} (h1 : a ≤ m) (h2 : m ≤ b) (h : k < a ∨ b ≤ k) : rot f a m b k = f k := by
  unfold rot
  rw [if_neg (by omega), if_neg (by omega)]

/-- from f to g: on [a, b) the same elements, equals in their order; elsewhere nothing -/
def Moved (lt : α → α → Bool) (f g : Nat → α) (a b : Nat) : Prop := (∀ k, k < a ∨ b ≤ k → g k = f k) ∧ ∀ s, isort lt (seg f a b ++ s) = isort lt (seg g a b ++ s)
theorem Moved.refl (lt : α → α → Bool) (f : Nat → α) (a b : Nat) : Moved lt f f a b := ⟨fun _ _ => rfl, fun _ => rfl⟩
theorem Moved.trans {lt : α → α → Bool} {f g h : Nat → α} {a b : Nat} (h1 : Moved lt f g a b) (h2 : Moved lt g h a b) : Moved lt f h a b := ⟨fun k hk => (h2.1 k hk).trans (h1.1 k hk), fun s => (h1.2 s).trans (h2.2 s)⟩
theorem Moved.wide {lt : α → α → Bool} {f g : Nat → α} {a b a' b' : Nat} (h : Moved lt f g a b) (h1 : a' ≤ a) (hab : a ≤ b) (h2 : b ≤ b') : Moved lt f g a' b' := by
  refine ⟨fun k hk => h.1 k (by omega), fun s => ?_⟩
  rw [seg_split f (m := a) h1 (by omega), seg_split g (m := a) h1 (by omega), seg_split f (m := b) hab h2, seg_split g (m := b) hab h2]
  rw [show seg g a' a = seg f a' a from seg_congr fun i _ hi => h.1 i (by omega), show seg g b b' = seg f b b' from seg_congr fun i hi _ => h.1 i (by omega)]
  simp only [List.append_assoc]
  exact isort_congr _ (h.2 _)
theorem Moved.rot {lt : α → α → Bool} (hs : SWO lt) (f : Nat → α) {a m b : Nat} (h1 : a ≤ m) (h2 : m ≤ b) (h : ∀ i j, a ≤ i → i < m → m ≤ j → j < b → lt (f j) (f i) = true) : Moved lt f (rot f a m b) a b := by
  refine ⟨fun k hk => rot_out f h1 h2 hk, fun s => ?_⟩
  rw [seg_rot f h1 h2, seg_split f h1 h2]
  simp only [List.append_assoc]
  refine isort_blocks hs _ _ _ fun x hx y hy => ?_
  obtain ⟨i, hi1, hi2, rfl⟩ := seg_mem hx
  obtain ⟨j, hj1, hj2, rfl⟩ := seg_mem hy
  exact h i j hi1 hi2 hj1 hj2
theorem seg_sorted {lt : α → α → Bool} {f : Nat → α} {a b : Nat} (h : SortedOn lt f a b) : Sorted lt (seg f a b) := by
  unfold Sorted seg
  rw [List.pairwise_map]
  refine List.Pairwise.imp_of_mem (R := fun i j => i < j) (fun {i j} hi hj hij => ?_) (List.pairwise_lt_range')
  rw [List.mem_range'_1] at hi hj
  exact h i j (by omega) hij (by omega)
/-- what is moved and sorted is the sorted list -/
theorem moved_sorted {lt : α → α → Bool} {f g : Nat → α} {a b : Nat} (h : Moved lt f g a b) (hs : SortedOn lt g a b) : seg g a b = isort lt (seg f a b) := by
  have := h.2 []
  rw [List.append_nil, List.append_nil] at this
  rw [this, isort_sorted (seg_sorted hs)]

theorem seg_of {f : Nat → α} {a b k : Nat} (h1 : a ≤ k) (h2 : k < b) : f k ∈ seg f a b := by
  unfold seg
  exact List.mem_map.2 ⟨k, by rw [List.mem_range'_1]; omega, rfl⟩
theorem Moved.mem {lt : α → α → Bool} {f g : Nat → α} {a b : Nat} (h : Moved lt f g a b) {k : Nat} (h1 : a ≤ k) (h2 : k < b) : ∃ i, a ≤ i ∧ i < b ∧ f i = g k := by
  have e := h.2 []
  rw [List.append_nil, List.append_nil] at e
  have hm : g k ∈ seg f a b := (isort_perm lt _).mem_iff.1 (by rw [e]; exact (isort_perm lt _).mem_iff.2 (seg_of h1 h2))
  exact seg_mem hm
theorem SortedOn.le {lt : α → α → Bool} (h : SWO lt) {f : Nat → α} {a b : Nat} (hs : SortedOn lt f a b) {i j : Nat} (h1 : a ≤ i) (h2 : i ≤ j) (h3 : j < b) : lt (f j) (f i) = false := by
  rcases Nat.eq_or_lt_of_le h2 with rfl | h2
  · exact h.irr _
  · exact hs i j h1 h2 h3
theorem SortedOn.sub {lt : α → α → Bool} {f : Nat → α} {a b a' b' : Nat} (hs : SortedOn lt f a b) (h1 : a ≤ a') (h2 : b' ≤ b) : SortedOn lt f a' b' := fun i j hi hij hj => hs i j (by omega) hij (by omega)
theorem SortedOn.congr {lt : α → α → Bool} {f g : Nat → α} {a b : Nat} (hs : SortedOn lt f a b) (h : ∀ k, a ≤ k → k < b → g k = f k) : SortedOn lt g a b := fun i j hi hij hj => by
  rw [h i hi (by omega), h j (by omega) hj]
  exact hs i j hi hij hj
theorem SortedOn.join {lt : α → α → Bool} {f : Nat → α} {a m b : Nat} (h1 : SortedOn lt f a m) (h2 : SortedOn lt f m b) (h : ∀ i j, a ≤ i → i < m → m ≤ j → j < b → lt (f j) (f i) = false) : SortedOn lt f a b := fun i j hi hij hj => by
  by_cases hjm : j < m
  · exact h1 i j hi hij hjm
  · by_cases him : i < m
    · exact h i j hi him (by omega) hj
    · exact h2 i j (by omega) hij hj
/-- the two halves, put in order each: all is in order -/
theorem halves {lt : α → α → Bool} {g g1 g2 : Nat → α} {a mid b : Nat} (h1 : a ≤ mid) (h2 : mid ≤ b) (hx : ∀ i j, a ≤ i → i < mid → mid ≤ j → j < b → lt (g j) (g i) = false)
    (m1 : Moved lt g g1 a mid) (s1 : SortedOn lt g1 a mid) (m2 : Moved lt g1 g2 mid b) (s2 : SortedOn lt g2 mid b) : Moved lt g g2 a b ∧ SortedOn lt g2 a b := by
  refine ⟨(m1.wide (Nat.le_refl _) h1 h2).trans (m2.wide h1 h2 (Nat.le_refl _)), ?_⟩
  have e1 : ∀ k, k < mid → g2 k = g1 k := fun k hk => m2.1 k (.inl hk)
  have e2 : ∀ k, mid ≤ k → g1 k = g k := fun k hk => m1.1 k (.inr hk)
  refine SortedOn.join (s1.congr fun k _ hk => e1 k hk) s2 fun i j hi him hj hjb => ?_
  rw [e1 i him]
  obtain ⟨i', hi1, hi2, ei⟩ := m1.mem hi him
  obtain ⟨j', hj1, hj2, ej⟩ := m2.mem hj hjb
  rw [← ei, ← ej, e2 j' hj1]
  exact hx i' j' hi1 hi2 hj1 hj2
/-- what the search finds: a place on the diagonal -/
def Found (lt : α → α → Bool) (f : Nat → α) (n start0 r0 start : Nat) : Prop := start0 ≤ start ∧ start ≤ r0 ∧ (start = start0 ∨ lt (f (n - start)) (f (start - 1)) = false) ∧ (start = r0 ∨ lt (f (n - 1 - start)) (f start) = true)
theorem found_below {lt : α → α → Bool} (h : SWO lt) {f : Nat → α} {a m b mid start : Nat} (ham : a < m) (hmb : m < b) (hmid : mid = (a + b) / 2) (s1 : SortedOn lt f a m) (s2 : SortedOn lt f m b)
    (hF : Found lt f (mid + m) (if m > mid then mid + m - b else a) (if m > mid then mid else m) start) : ∀ i j, start ≤ i → i < m → m ≤ j → j < mid + m - start → lt (f j) (f i) = true := by
  intro i j hi him hj hje
  obtain ⟨f1, f2, _, f4⟩ := hF
  rcases f4 with f4 | f4
  · exfalso
    split at f4 <;> omega
  · have hb : mid + m - start ≤ b := by split at f1 <;> omega
    have ha : a ≤ start := by split at f1 <;> omega
    have x1 : lt (f (mid + m - 1 - start)) (f j) = false := s2.le h hj (by omega) (by omega)
    have x2 : lt (f i) (f start) = false := s1.le h ha hi him
    exact h.le_lt x1 (h.lt_le f4 x2)
theorem found_ends {lt : α → α → Bool} {f : Nat → α} {a m b mid start : Nat} (ham : a < m) (hmb : m < b) (hmid : mid = (a + b) / 2)
    (hF : Found lt f (mid + m) (if m > mid then mid + m - b else a) (if m > mid then mid else m) start) : a ≤ start ∧ start ≤ m ∧ m ≤ mid + m - start ∧ mid + m - start ≤ b ∧ start ≤ mid ∧ mid ≤ mid + m - start := by
  obtain ⟨f1, f2, _, _⟩ := hF
  split at f1 <;> split at f2 <;> omega
/-- the halves behind the turning -/
theorem found_sorted {lt : α → α → Bool} {f : Nat → α} {a m b mid start : Nat} (ham : a < m) (hmb : m < b) (hmid : mid = (a + b) / 2) (s1 : SortedOn lt f a m) (s2 : SortedOn lt f m b)
    (hF : Found lt f (mid + m) (if m > mid then mid + m - b else a) (if m > mid then mid else m) start) :
    SortedOn lt (rot f start m (mid + m - start)) a start ∧ SortedOn lt (rot f start m (mid + m - start)) start mid ∧ SortedOn lt (rot f start m (mid + m - start)) mid (mid + m - start) ∧ SortedOn lt (rot f start m (mid + m - start)) (mid + m - start) b := by
  obtain ⟨e1, e2, e3, e4, e5, e6⟩ := found_ends ham hmb hmid hF
  refine ⟨fun i j hi hij hj => ?_, fun i j hi hij hj => ?_, fun i j hi hij hj => ?_, fun i j hi hij hj => ?_⟩
  · unfold rot
    rw [if_neg (by omega), if_neg (by omega), if_neg (by omega), if_neg (by omega)]
    exact s1 i j hi hij (by omega)
  · unfold rot
    rw [if_pos (by omega), if_pos (by omega)]
    exact s2 _ _ (by omega) (by omega) (by omega)
  · unfold rot
    rw [if_neg (by omega), if_pos (by omega), if_neg (by omega), if_pos (by omega)]
    exact s1 _ _ (by omega) (by omega) (by omega)
  · unfold rot
    rw [if_neg (by omega), if_neg (by omega), if_neg (by omega), if_neg (by omega)]
    exact s2 i j (by omega) hij hj
theorem found_cross {lt : α → α → Bool} (h : SWO lt) {f : Nat → α} {a m b mid start : Nat} (ham : a < m) (hmb : m < b) (hmid : mid = (a + b) / 2) (s1 : SortedOn lt f a m) (s2 : SortedOn lt f m b)
    (hF : Found lt f (mid + m) (if m > mid then mid + m - b else a) (if m > mid then mid else m) start) :
    ∀ i j, a ≤ i → i < mid → mid ≤ j → j < b → lt (rot f start m (mid + m - start) j) (rot f start m (mid + m - start) i) = false := by
  have hb := found_below h ham hmb hmid s1 s2 hF
  obtain ⟨e1, e2, e3, e4, e5, e6⟩ := found_ends ham hmb hmid hF
  obtain ⟨f1, f2, f3, _⟩ := hF
  intro i j hi him hj hjb
  by_cases c1 : i < start
  · have ei : rot f start m (mid + m - start) i = f i := by unfold rot; rw [if_neg (by omega), if_neg (by omega)]
    rw [ei]
    by_cases c2 : j < mid + m - start
    · have ej : rot f start m (mid + m - start) j = f (j - (mid + m - start - m)) := by unfold rot; rw [if_neg (by omega), if_pos (by omega)]
      rw [ej]
      exact s1 i _ hi (by omega) (by omega)
    · have ej : rot f start m (mid + m - start) j = f j := by unfold rot; rw [if_neg (by omega), if_neg (by omega)]
      rw [ej]
      rcases f3 with f3 | f3
      · exfalso
        split at f3 <;> omega
      · have x1 : lt (f (start - 1)) (f i) = false := s1.le h hi (by omega) (by omega)
        have x2 : lt (f j) (f (mid + m - start)) = false := s2.le h (by omega) (by omega) hjb
        exact h.ntrans _ _ _ x2 (h.ntrans _ _ _ f3 x1)
  · have ei : rot f start m (mid + m - start) i = f (i - start + m) := by unfold rot; rw [if_pos (by omega)]
    rw [ei]
    by_cases c2 : j < mid + m - start
    · have ej : rot f start m (mid + m - start) j = f (j - (mid + m - start - m)) := by unfold rot; rw [if_neg (by omega), if_pos (by omega)]
      rw [ej]
      exact h.asym (hb _ _ (by omega) (by omega) (by omega) (by omega))
    · have ej : rot f start m (mid + m - start) j = f j := by unfold rot; rw [if_neg (by omega), if_neg (by omega)]
      rw [ej]
      exact s2 _ _ (by omega) (by omega) hjb
theorem found_moved {lt : α → α → Bool} (h : SWO lt) {f : Nat → α} {a m b mid start : Nat} (ham : a < m) (hmb : m < b) (hmid : mid = (a + b) / 2) (s1 : SortedOn lt f a m) (s2 : SortedOn lt f m b)
    (hF : Found lt f (mid + m) (if m > mid then mid + m - b else a) (if m > mid then mid else m) start) : Moved lt f (rot f start m (mid + m - start)) a b := by
  have hb := found_below h ham hmb hmid s1 s2 hF
  obtain ⟨e1, e2, e3, e4, e5, e6⟩ := found_ends ham hmb hmid hF
  exact (Moved.rot h f e2 e3 hb).wide e1 (by omega) e4
/-- one element put in at the left -/
theorem one_left {lt : α → α → Bool} (h : SWO lt) {f : Nat → α} {a b i : Nat} (s2 : SortedOn lt f (a + 1) b) (h1 : a + 1 ≤ i) (h2 : i ≤ b) (h3 : i = a + 1 ∨ lt (f (i - 1)) (f a) = true) (h4 : i = b ∨ lt (f i) (f a) = false) :
    Moved lt f (rot f a (a + 1) i) a b ∧ SortedOn lt (rot f a (a + 1) i) a b := by
  have hlow : ∀ k, a + 1 ≤ k → k < i → lt (f k) (f a) = true := fun k hk hki => by
    rcases h3 with h3 | h3
    · omega
    · exact h.le_lt (s2.le h hk (by omega) (by omega)) h3
  have hhigh : ∀ k, i ≤ k → k < b → lt (f k) (f a) = false := fun k hk hkb => by
    rcases h4 with h4 | h4
    · omega
    · exact h.ntrans _ _ _ (s2.le h h1 hk hkb) h4
  refine ⟨(Moved.rot h f (Nat.le_succ a) h1 fun x y hx hxm hy hyi => ?_).wide (Nat.le_refl _) (by omega) h2, fun x y hx hxy hy => ?_⟩
  · rw [show x = a by omega]
    exact hlow y hy hyi
  · unfold rot
    by_cases c1 : y < a + (i - (a + 1))
    · rw [if_pos (by omega), if_pos (by omega)]
      exact s2 _ _ (by omega) (by omega) (by omega)
    · by_cases c2 : y < i
      · rw [if_neg (by omega), if_pos (by omega), if_pos (by omega)]
        rw [show y - (i - (a + 1)) = a by omega]
        exact h.asym (hlow _ (by omega) (by omega))
      · rw [if_neg (c := a ≤ y ∧ _) (by omega), if_neg (c := a + _ ≤ y ∧ _) (by omega)]
        by_cases c3 : x < a + (i - (a + 1))
        · rw [if_pos (by omega)]
          exact s2 _ _ (by omega) (by omega) hy
        · by_cases c4 : x < i
          · rw [if_neg (by omega), if_pos (by omega), show x - (i - (a + 1)) = a by omega]
            exact hhigh y (by omega) hy
          · rw [if_neg (by omega), if_neg (by omega)]
            exact s2 _ _ (by omega) hxy hy
/-- one element put in at the right -/
theorem one_right {lt : α → α → Bool} (h : SWO lt) {f : Nat → α} {a m i : Nat} (s1 : SortedOn lt f a m) (h1 : a ≤ i) (h2 : i ≤ m) (h3 : i = a ∨ lt (f m) (f (i - 1)) = false) (h4 : i = m ∨ lt (f m) (f i) = true) :
    Moved lt f (rot f i m (m + 1)) a (m + 1) ∧ SortedOn lt (rot f i m (m + 1)) a (m + 1) := by
  have hlow : ∀ k, a ≤ k → k < i → lt (f m) (f k) = false := fun k hk hki => by
    rcases h3 with h3 | h3
    · omega
    · exact h.ntrans _ _ _ h3 (s1.le h hk (by omega) (by omega))
  have hhigh : ∀ k, i ≤ k → k < m → lt (f m) (f k) = true := fun k hk hkb => by
    rcases h4 with h4 | h4
    · omega
    · exact h.lt_le h4 (s1.le h h1 hk hkb)
  refine ⟨(Moved.rot h f h2 (Nat.le_succ m) fun x y hx hxm hy hyi => ?_).wide h1 (by omega) (Nat.le_refl _), fun x y hx hxy hy => ?_⟩
  · rw [show y = m by omega]
    exact hhigh x hx hxm
  · unfold rot
    by_cases c1 : y < i
    · rw [if_neg (by omega), if_neg (by omega), if_neg (by omega), if_neg (by omega)]
      exact s1 _ _ hx hxy (by omega)
    · by_cases c2 : y = i
      · rw [if_pos (by omega), if_neg (by omega), if_neg (by omega), show y - i + m = m by omega]
        exact hlow x hx (by omega)
      · rw [if_neg (c := i ≤ y ∧ _) (by omega), if_pos (c := i + _ ≤ y ∧ _) (by omega)]
        by_cases c3 : x < i
        · rw [if_neg (by omega), if_neg (by omega)]
          exact s1 _ _ hx (by omega) (by omega)
        · by_cases c4 : x = i
          · rw [if_pos (by omega), show x - i + m = m by omega]
            exact h.asym (hhigh _ (by omega) (by omega))
          · rw [if_neg (by omega), if_pos (by omega)]
            exact s1 _ _ (by omega) (by omega) (by omega)

end Go.Proofs.YtdapnemcdgjeeaaGreatDoor.Stb
