/- The library's unstable sort in plain Lean: what a round of it keeps, where no two entries are the same. -/
import Derived.Sort.LotC
set_option maxRecDepth 100000
set_option linter.unusedVariables false
set_option linter.unusedSimpArgs false
namespace Go.Proofs.YtdapnemcdgjeeaaGreatDoor.Pdq
open Go.Sort (swp PermIn SortedIn SWO)

theorem pm (d d' : Array Nat) (a b a' b' : Nat) (h1 : a' ≤ a) (h2 : b ≤ b') (h3 : b' ≤ d.size) (h : PermIn a b d d') : PermIn a' b' d d' := Go.Sort.permIn_mono d d' a b a' b' h1 h2 h3 h
theorem pall {d d' : Array Nat} {a b : Nat} {p : Nat → Prop} (hb : b ≤ d.size) (h : PermIn a b d d') (hp : ∀ i, a ≤ i → i < b → p d[i]!) : ∀ i, a ≤ i → i < b → p d'[i]! := Go.Sort.permIn_all d d' a b p hb h hp
theorem swo_asym {lt : Nat → Nat → Bool} (h : SWO lt) {x y : Nat} (hxy : lt x y = true) : lt y x = false := by
  cases hyx : lt y x with
  | false => rfl
  | true => have := h.trans x y x hxy hyx; rw [h.irrefl] at this; cases this
/-- no two entries are the same -/
def Uniq (d : Array Nat) : Prop := d.toList.Nodup
theorem Uniq.eq {d : Array Nat} (h : Uniq d) {i j : Nat} (hi : i < d.size) (hj : j < d.size) (e : d[i]! = d[j]!) : i = j := by
  rw [getElem!_pos d i hi, getElem!_pos d j hj] at e
  have hp := List.pairwise_iff_getElem.1 h
  rcases Nat.lt_trichotomy i j with hl | hl | hl
  · exact absurd e (hp i j (by simpa using hi) (by simpa using hj) hl)
  · exact hl
  · exact absurd e.symm (hp j i (by simpa using hj) (by simpa using hi) hl)
theorem perm_whole {d d' : Array Nat} {a b : Nat} (hb : b ≤ d.size) (h : PermIn a b d d') : d'.toList.Perm d.toList := by
  obtain ⟨h1, _, h3⟩ := pm d d' a b 0 d.size (Nat.zero_le _) hb (Nat.le_refl _) h
  have e1 : d'.extract 0 d.size = d' := by rw [← h1]; exact Array.extract_size
  rw [e1, Array.extract_size] at h3
  exact h3
theorem Uniq.perm {d d' : Array Nat} {a b : Nat} (h : Uniq d) (hb : b ≤ d.size) (hp : PermIn a b d d') : Uniq d' := (perm_whole hb hp).nodup_iff.2 h
/-- THE ROUND's RELATION: what lies outside of [p, q) is in its place -/
def Inv (lt : Nat → Nat → Bool) (a b p q : Nat) (d : Array Nat) : Prop := ∀ i j, a ≤ i → i < j → j < b → (i < p ∨ q ≤ j) → lt d[j]! d[i]! = false
theorem Inv.start (lt : Nat → Nat → Bool) (a b : Nat) (d : Array Nat) : Inv lt a b a b d := fun i j h1 h2 h3 h => by omega
theorem Inv.perm {lt : Nat → Nat → Bool} {a b p q : Nat} {d d' : Array Nat} (h : Inv lt a b p q d) (hap : a ≤ p) (hq : q ≤ d.size) (hqb : q ≤ b) (hp : PermIn p q d d') : Inv lt a b p q d' := by
  intro i j h1 h2 h3 hc
  by_cases hi : p ≤ i ∧ i < q
  · have hj : q ≤ j := by omega
    rw [hp.2.1 j (.inr hj)]
    exact pall (p := fun x => lt d[j]! x = false) hq hp (fun k k1 k2 => h k j (by omega) (by omega) h3 (.inr hj)) i hi.1 hi.2
  · rw [hp.2.1 i (by omega)]
    by_cases hj : p ≤ j ∧ j < q
    · exact pall (p := fun x => lt x d[i]! = false) hq hp (fun k k1 k2 => h i k h1 (by omega) (by omega) (.inl (by omega))) j hj.1 hj.2
    · rw [hp.2.1 j (by omega)]
      exact h i j h1 h2 h3 hc
theorem Inv.sorted {lt : Nat → Nat → Bool} {a b p q : Nat} {d : Array Nat} (h : Inv lt a b p q d) (hs : SortedIn lt p q d) : SortedIn lt a b d := by
  intro i j h1 h2 h3
  by_cases hc : i < p ∨ q ≤ j
  · exact h i j h1 h2 h3 hc
  · exact hs i j (by omega) h2 (by omega)
theorem Inv.below {lt : Nat → Nat → Bool} {a b p q : Nat} {d : Array Nat} (h : Inv lt a b p q d) (hB : Go.Sort.Below lt a b d) (hap : a ≤ p) (hpq : p ≤ q) (hqb : q ≤ b) : Go.Sort.Below lt p q d := by
  by_cases e : a = p
  · subst e
    rcases hB with hB | hB
    · exact .inl hB
    · exact .inr fun i h1 h2 => hB i h1 (by omega)
  · exact .inr fun i h1 h2 => h (p - 1) i (by omega) (by omega) (by omega) (.inl (by omega))
theorem below_perm {lt : Nat → Nat → Bool} {a b : Nat} {d d' : Array Nat} (h : Go.Sort.Below lt a b d) (hb : b ≤ d.size) (hp : PermIn a b d d') : Go.Sort.Below lt a b d' := by
  rcases h with h | h
  · exact .inl h
  · by_cases ha : a = 0
    · exact .inl ha
    · refine .inr fun i h1 h2 => ?_
      rw [hp.2.1 (a - 1) (.inl (by omega))]
      exact pall (p := fun x => lt x d[a - 1]! = false) hb hp h i h1 h2
/-- what a partition leaves: the pivot at m -/
structure Parted (lt : Nat → Nat → Bool) (p q m : Nat) (d : Array Nat) : Prop where
  lo : p ≤ m
  hi : m < q
  left : ∀ i, p ≤ i → i < m → lt d[i]! d[m]! = true
  right : ∀ i, m < i → i < q → lt d[i]! d[m]! = false
theorem Parted.cross {lt : Nat → Nat → Bool} (hS : SWO lt) {p q m : Nat} {d : Array Nat} (h : Parted lt p q m d) {i j : Nat} (h1 : p ≤ i) (h2 : i ≤ m) (h3 : m ≤ j) (h4 : j < q) : lt d[j]! d[i]! = false := by
  by_cases e1 : i = m
  · subst e1
    by_cases e2 : j = i
    · subst e2; exact hS.irrefl _
    · exact h.right j (by omega) h4
  · have l := h.left i h1 (by omega)
    by_cases e2 : j = m
    · subst e2; exact swo_asym hS l
    · have r := h.right j (by omega) h4
      cases hc : lt d[j]! d[i]! with
      | false => rfl
      | true => have := hS.trans _ _ _ hc l; rw [r] at this; cases this
/-- the lesser ones are sorted: on with the others -/
theorem Inv.left {lt : Nat → Nat → Bool} (hS : SWO lt) {a b p q m : Nat} {d L : Array Nat} (h : Inv lt a b p q d) (hP : Parted lt p q m d) (hap : a ≤ p) (hqb : q ≤ b) (hq : q ≤ d.size) (hp : PermIn p m d L) (hs : SortedIn lt p m L) : Inv lt a b (m + 1) q L := by
  have hlo := hP.lo
  have hhi := hP.hi
  have hL : Inv lt a b p q L := h.perm hap hq hqb (pm _ _ _ _ _ _ (Nat.le_refl _) (by omega) hq hp)
  intro i j h1 h2 h3 hc
  by_cases hout : i < p ∨ q ≤ j
  · exact hL i j h1 h2 h3 hout
  · by_cases hj : j < m
    · exact hs i j (by omega) h2 hj
    · rw [hp.2.1 j (.inr (by omega))]
      by_cases hi : i = m
      · rw [hp.2.1 i (.inr (by omega))]
        exact hP.cross hS (by omega) (by omega) (by omega) (by omega)
      · exact pall (p := fun x => lt d[j]! x = false) (by omega) hp (fun k k1 k2 => hP.cross hS k1 (by omega) (by omega) (by omega)) i (by omega) (by omega)
/-- the others are sorted: on with the lesser ones -/
theorem Inv.right {lt : Nat → Nat → Bool} (hS : SWO lt) {a b p q m : Nat} {d R : Array Nat} (h : Inv lt a b p q d) (hP : Parted lt p q m d) (hap : a ≤ p) (hqb : q ≤ b) (hq : q ≤ d.size) (hp : PermIn (m + 1) q d R) (hs : SortedIn lt (m + 1) q R) : Inv lt a b p m R := by
  have hlo := hP.lo
  have hhi := hP.hi
  have hR : Inv lt a b p q R := h.perm hap hq hqb (pm _ _ _ _ _ _ (by omega) (Nat.le_refl _) hq hp)
  intro i j h1 h2 h3 hc
  by_cases hout : i < p ∨ q ≤ j
  · exact hR i j h1 h2 h3 hout
  · by_cases hi : m < i
    · exact hs i j (by omega) h2 (by omega)
    · rw [hp.2.1 i (.inl (by omega))]
      by_cases hj : j = m
      · rw [hp.2.1 j (.inl (by omega))]
        exact hP.cross hS (by omega) (by omega) (by omega) (by omega)
      · exact pall (p := fun x => lt x d[i]! = false) hq hp (fun k k1 k2 => hP.cross hS (by omega) (by omega) (by omega) k2) j (by omega) (by omega)
theorem Parted.belowR {lt : Nat → Nat → Bool} {p q m : Nat} {d : Array Nat} (h : Parted lt p q m d) : Go.Sort.Below lt (m + 1) q d := .inr fun i h1 h2 => h.right i (by omega) h2
/-- THE PARTITION's RELATION at (i, j), the pivot P in the first place -/
structure PartR (lt : Nat → Nat → Bool) (a b i j P : Nat) (d g : Array Nat) : Prop where
  ai : a < i
  ij : i ≤ j + 1
  jb : j < b
  bs : b ≤ g.size
  perm : PermIn a b d g
  piv : g[a]! = P
  lo : ∀ t, a < t → t < i → lt g[t]! P = true
  hi : ∀ t, j < t → t < b → lt g[t]! P = false
theorem PartR.start (lt : Nat → Nat → Bool) {a b p : Nat} {d : Array Nat} (hap : a ≤ p) (hpb : p < b) (hb : b ≤ d.size) : PartR lt a b (a + 1) (b - 1) (swp d a p)[a]! d (swp d a p) :=
  ⟨by omega, by omega, by omega, by rw [Go.Sort.size_swp]; exact hb, Go.Sort.swp_permIn d a b a p (Nat.le_refl _) (by omega) hap hpb hb, rfl, fun t h1 h2 => by omega, fun t h1 h2 => by omega⟩
theorem PartR.up {lt : Nat → Nat → Bool} {a b i j P : Nat} {d g : Array Nat} (h : PartR lt a b i j P d g) (hij : i ≤ j) (hl : lt g[i]! P = true) : PartR lt a b (i + 1) j P d g :=
  ⟨by have := h.ai; omega, by omega, h.jb, h.bs, h.perm, h.piv, fun t h1 h2 => by
    by_cases e : t = i
    · rw [e]; exact hl
    · exact h.lo t h1 (by omega), h.hi⟩
theorem PartR.down {lt : Nat → Nat → Bool} {a b i j P : Nat} {d g : Array Nat} (h : PartR lt a b i j P d g) (hij : i ≤ j) (hl : lt g[j]! P = false) : PartR lt a b i (j - 1) P d g :=
  ⟨h.ai, by have := h.ai; omega, by have := h.jb; omega, h.bs, h.perm, h.piv, h.lo, fun t h1 h2 => by
    by_cases e : t = j
    · rw [e]; exact hl
    · exact h.hi t (by omega) h2⟩
theorem PartR.apart {lt : Nat → Nat → Bool} {i j P : Nat} {g : Array Nat} (hij : i ≤ j) (h1 : lt g[i]! P = false) (h2 : lt g[j]! P = true) : i < j := by
  by_cases e : i = j
  · subst e; rw [h1] at h2; cases h2
  · omega
theorem PartR.swap {lt : Nat → Nat → Bool} {a b i j P : Nat} {d g : Array Nat} (h : PartR lt a b i j P d g) (hij : i < j) (h1 : lt g[i]! P = false) (h2 : lt g[j]! P = true) : PartR lt a b (i + 1) (j - 1) P d (swp g i j) := by
  have h3 := h.ai
  have h4 := h.jb
  have h5 := h.bs
  refine ⟨by omega, by omega, by omega, by rw [Go.Sort.size_swp]; exact h5, Go.Sort.permIn_trans _ _ _ _ _ h.perm (Go.Sort.swp_permIn g a b i j (by omega) (by omega) (by omega) h4 h5), ?_, fun t t1 t2 => ?_, fun t t1 t2 => ?_⟩
  · rw [Go.Sort.swp_other g i j a (by omega) (by omega)]; exact h.piv
  · by_cases e : t = i
    · rw [e, Go.Sort.swp_left g i j (by omega) (by omega)]; exact h2
    · rw [Go.Sort.swp_other g i j t e (by omega)]; exact h.lo t t1 (by omega)
  · by_cases e : t = j
    · rw [e, Go.Sort.swp_right g i j (by omega)]; exact h1
    · rw [Go.Sort.swp_other g i j t (by omega) e]; exact h.hi t (by omega) t2
theorem PartR.fin {lt : Nat → Nat → Bool} {a b i j P : Nat} {d g : Array Nat} (h : PartR lt a b i j P d g) (hij : ¬ i ≤ j) : PermIn a b d (swp g j a) ∧ Parted lt a b j (swp g j a) := by
  have h3 := h.ai
  have h3' := h.ij
  have h4 := h.jb
  have h5 := h.bs
  have em : (swp g j a)[j]! = P := by
    by_cases e : j = a
    · subst e; rw [Go.Sort.swp_right g j j (by omega)]; exact h.piv
    · rw [Go.Sort.swp_left g j a (by omega) e]; exact h.piv
  refine ⟨Go.Sort.permIn_trans _ _ _ _ _ h.perm (Go.Sort.swp_permIn g a b j a (by omega) h4 (Nat.le_refl _) (by omega) h5), by omega, h4, fun t t1 t2 => ?_, fun t t1 t2 => ?_⟩
  · rw [em]
    by_cases e : t = a
    · rw [e, Go.Sort.swp_right g j a (by omega)]; exact h.lo j (by omega) (by omega)
    · rw [Go.Sort.swp_other g j a t (by omega) e]; exact h.lo t (by omega) (by omega)
  · rw [em, Go.Sort.swp_other g j a t (by omega) (by omega)]
    exact h.hi t t1 t2
/-- the pivot is no smaller than what stands ahead: it's greater, for no two are the same -/
theorem pivot_gt {lt : Nat → Nat → Bool} {a b p : Nat} {d : Array Nat} (hT : ∀ x y, lt x y = false → lt y x = false → x = y) (hU : Uniq d) (hB : Go.Sort.Below lt a b d) (ha : 0 < a) (hap : a ≤ p) (hpb : p < b) (hb : b ≤ d.size) : lt d[a - 1]! d[p]! = true := by
  rcases hB with hB | hB
  · omega
  · cases hc : lt d[a - 1]! d[p]! with
    | true => rfl
    | false =>
      have := hU.eq (by omega) (by omega) (hT _ _ hc (hB p hap hpb))
      omega
end Go.Proofs.YtdapnemcdgjeeaaGreatDoor.Pdq
