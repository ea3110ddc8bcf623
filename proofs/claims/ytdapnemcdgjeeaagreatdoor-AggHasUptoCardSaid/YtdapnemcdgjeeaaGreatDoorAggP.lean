/- Aggregates in plain Lean: what is taken, what is answered; order counts for nothing; the document's answer is the same. -/
import Derived.Test.YtdapnemcdgjeeaaGreatDoorStb3
import Derived.Test.YtdapnemcdgjeeaaGreatDoorSets
set_option maxRecDepth 100000
set_option linter.unusedVariables false
set_option linter.unusedSimpArgs false
namespace Go.Proofs.YtdapnemcdgjeeaaGreatDoor.Ag
open Val Stb Sets
open Go.Proofs.YtdapnemcdgjeeaaGreatDoor.Ord

/-- a value that may -/
abbrev MV := { v : V // may v = true }
def ltB (a b : V) : Bool := decide (cmp a b 0 < 0)
def ltM (a b : MV) : Bool := ltB a.1 b.1
theorem pre_swo {f : V → V → Int} (P : Pre (fun v => may v = true) f) : SWO (fun a b : MV => decide (f a.1 b.1 < 0)) := by
  refine ⟨fun a => ?_, fun a b c h1 h2 => ?_, fun a b c h1 h2 => ?_⟩
  · have := P.neg a.1 a.1
    exact decide_eq_false (by omega)
  · have h1 := of_decide_eq_true h1
    have h2 := of_decide_eq_true h2
    exact decide_eq_true (P.lt_le a.2 b.2 c.2 h1 (by omega))
  · have h1 := of_decide_eq_false h1
    have h2 := of_decide_eq_false h2
    have n1 := P.neg a.1 b.1
    have n2 := P.neg b.1 c.1
    have n3 := P.neg a.1 c.1
    have := P.trans c.1 b.1 a.1 c.2 b.2 a.2 (by omega) (by omega)
    exact decide_eq_false (by omega)
theorem ltM_swo : SWO ltM := pre_swo (cmp_pre 0)
theorem ltM_apart (a b : MV) (h1 : ltM a b = false) (h2 : ltM b a = false) : a = b := by
  have h1 := of_decide_eq_false h1
  have h2 := of_decide_eq_false h2
  have := cmp_neg a.1 b.1 0
  exact Subtype.ext (cmp_one a.1 b.1 a.2 b.2 (by omega))
def mayL (l : List V) : Prop := ∀ v ∈ l, may v = true
theorem mvs {l : List V} (h : mayL l) : ∃ m : List MV, m.map (·.1) = l := by
  induction l with
  | nil => exact ⟨[], rfl⟩
  | cons v l ih =>
    obtain ⟨m, hm⟩ := ih fun x hx => h x (List.mem_cons_of_mem _ hx)
    exact ⟨⟨v, h v List.mem_cons_self⟩ :: m, congrArg (fun x => v :: x) hm⟩
theorem map_inj {a b : List MV} (h : a.map (·.1) = b.map (·.1)) : a = b := (List.map_inj_right fun x y e => Subtype.ext e).1 h
def toMV (v : V) : Option MV := if h : may v = true then some ⟨v, h⟩ else none
theorem toMV_map (a : List MV) : (a.map (·.1)).filterMap toMV = a := by
  induction a with
  | nil => rfl
  | cons x a ih =>
    rw [List.map_cons, List.filterMap_cons]
    have : toMV x.1 = some x := by unfold toMV; rw [dif_pos x.2]
    rw [this, ih]
theorem perm_mv {a b : List MV} (h : (a.map (·.1)).Perm (b.map (·.1))) : a.Perm b := by
  have := h.filterMap toMV
  rwa [toMV_map, toMV_map] at this
theorem perm_sum {a b : List Int} (h : a.Perm b) : a.sum = b.sum := by
  induction h with
  | nil => rfl
  | cons x _ ih => rw [List.sum_cons, List.sum_cons, ih]
  | swap x y l => simp only [List.sum_cons]; omega
  | trans _ _ h1 h2 => exact h1.trans h2

/-- in the binary order -/
def bsort (l : List V) : List V := isort ltB l
theorem ins_map {α β : Type} {lt : α → α → Bool} {lt' : β → β → Bool} (g : α → β) (hg : ∀ x y, lt' (g x) (g y) = lt x y) (x : α) : ∀ l, (ins lt x l).map g = ins lt' (g x) (l.map g) := by
  intro l
  induction l with
  | nil => rfl
  | cons y l ih =>
    simp only [List.map_cons, ins, hg]
    split
    · rw [List.map_cons, ih]
    · rfl
theorem sort_map {α β : Type} {lt : α → α → Bool} {lt' : β → β → Bool} (g : α → β) (hg : ∀ x y, lt' (g x) (g y) = lt x y) : ∀ l, (isort lt l).map g = isort lt' (l.map g) := by
  intro l
  induction l with
  | nil => rfl
  | cons y l ih => rw [isort, ins_map g hg, ih]; rfl
theorem bsort_map (m : List MV) : bsort (m.map (·.1)) = (isort ltM m).map (·.1) := (sort_map (fun x : MV => x.1) (fun _ _ => rfl) m).symm
theorem bsort_perm (l : List V) : (bsort l).Perm l := isort_perm _ l
theorem bsort_any {l m : List V} (hl : mayL l) (hp : l.Perm m) : bsort l = bsort m := by
  obtain ⟨a, rfl⟩ := mvs hl
  have hm : mayL m := fun v hv => hl v (hp.mem_iff.2 hv)
  obtain ⟨b, rfl⟩ := mvs hm
  rw [bsort_map, bsort_map, isort_any ltM_swo ltM_apart (perm_mv hp)]
/-- what is sorted and has the same values is what is sorted -/
theorem bsort_of {l m : List V} (hl : mayL l) (hp : m.Perm l) (hs : Sorted ltB m) : m = bsort l := by
  rw [← bsort_any (fun v hv => hl v (hp.mem_iff.1 hv)) hp]
  exact (isort_sorted hs).symm
theorem bsort_sorted {l : List V} (hl : mayL l) : Sorted ltB (bsort l) := by
  obtain ⟨a, rfl⟩ := mvs hl
  rw [bsort_map]
  exact List.pairwise_map.2 (isort_is_sorted ltM_swo a)

/-! what comes through -/
def nonNull (all : List V) : List V := all.filter fun v => decide (v.kind ≠ 0)
def through (once : Bool) (all : List V) : List V := if once = true then dd (nonNull all) else nonNull all
theorem mem_through (once : Bool) (all : List V) (v : V) : v ∈ through once all ↔ v ∈ all ∧ v.kind ≠ 0 := by
  unfold through nonNull
  split
  · rw [mem_dd]; simp
  · simp
theorem through_may {once : Bool} {all : List V} (h : mayL all) : mayL (through once all) := fun v hv => h v ((mem_through once all v).1 hv).1
theorem perm_of_mem {α : Type} [DecidableEq α] {a b : List α} (ha : a.Nodup) (hb : b.Nodup) (h : ∀ x, x ∈ a ↔ x ∈ b) : a.Perm b := List.perm_iff_count.2 fun x => by
  rw [count_nodup ha, count_nodup hb]
  by_cases hx : x ∈ a
  · rw [if_pos hx, if_pos ((h x).1 hx)]
  · rw [if_neg hx, if_neg (fun y => hx ((h x).2 y))]
theorem through_once {a b : List V} (h : ∀ v, v.kind ≠ 0 → (v ∈ a ↔ v ∈ b)) : (through true a).Perm (through true b) := by
  refine perm_of_mem (by unfold through; rw [if_pos rfl]; exact nodup_dd _) (by unfold through; rw [if_pos rfl]; exact nodup_dd _) fun v => ?_
  rw [mem_through, mem_through]
  constructor
  · exact fun ⟨h1, h2⟩ => ⟨(h v h2).1 h1, h2⟩
  · exact fun ⟨h1, h2⟩ => ⟨(h v h2).2 h1, h2⟩
theorem through_all {a b : List V} (h : a.Perm b) : (through false a).Perm (through false b) := by
  unfold through nonNull
  exact h.filter _

/-! gatherers -/
inductive Gat where
  | count (n : Int)
  | sum (t : Int) (some : Bool)
  | best (way c : Int) (v : V)
  | join (l : List V)
def better (way c : Int) (v b : V) : Bool := decide (cmp v b c = way ∨ cmp v b c = 0 ∧ cmp v b 0 < 0)
def Gat.take : Gat → V → Gat
  | .count n, _ => .count (n + 1)
  | .sum t s, v => if (num v).kind = 0 then .sum t s else .sum (t + (num v).int) true
  | .best w c b, v => .best w c (if b.kind = 0 ∨ better w c v b = true then v else b)
  | .join l, v => .join (l ++ [v])
def comma (l : List (List UInt8)) : List UInt8 := Lib.join l [44]
def joined (l : List V) : V := if l = [] then zero else ptext (comma ((bsort l).map fun v => (pshow v).text))
def Gat.answer : Gat → V
  | .count n => ⟨1, n, []⟩
  | .sum t s => if s = true then fit t else zero
  | .best _ _ v => v
  | .join l => joined l
def Gat.takes (g : Gat) (l : List V) : Gat := l.foldl Gat.take g
/-- the sorts of aggregates: 0 count, 1 sum, 2 min, 3 max, 4 group_concat -/
def start (k : Nat) (c : Int) : Gat := match k with
  | 0 => .count 0
  | 1 => .sum 0 false
  | 2 => .best (-1) c zero
  | 3 => .best 1 c zero
  | _ => .join []
def answerV (k : Nat) (once star : Bool) (c : Int) (all : List V) : V := ((start k c).takes (if star = true then all else through once all)).answer
theorem takes_count (l : List V) : ∀ n, (Gat.count n).takes l = .count (n + l.length) := by
  induction l with
  | nil => intro n; simp [Gat.takes]
  | cons v l ih =>
    intro n
    have := ih (n + 1)
    simp only [Gat.takes, List.foldl_cons, Gat.take] at this ⊢
    rw [this, List.length_cons]
    congr 1
    omega
/-- the numbers among the values -/
def numsOf (l : List V) : List Int := (l.filter fun v => decide ((num v).kind ≠ 0)).map fun v => (num v).int
theorem takes_sum (l : List V) : ∀ t s, (Gat.sum t s).takes l = .sum (t + (numsOf l).sum) (s || decide (numsOf l ≠ [])) := by
  induction l with
  | nil => intro t s; simp [Gat.takes, numsOf]
  | cons v l ih =>
    intro t s
    by_cases h : (num v).kind = 0
    · have e : numsOf (v :: l) = numsOf l := by unfold numsOf; rw [List.filter_cons_of_neg (by simpa using h)]
      rw [e, ← ih t s]
      simp only [Gat.takes, List.foldl_cons, Gat.take, if_pos h]
    · have e : numsOf (v :: l) = (num v).int :: numsOf l := by unfold numsOf; rw [List.filter_cons_of_pos (by simpa using h), List.map_cons]
      have := ih (t + (num v).int) true
      simp only [Gat.takes, List.foldl_cons, Gat.take, if_neg h] at this ⊢
      rw [this, e]
      simp
      omega
theorem takes_join (l : List V) : ∀ a, (Gat.join a).takes l = .join (a ++ l) := by
  induction l with
  | nil => intro a; simp [Gat.takes]
  | cons v l ih =>
    intro a
    have := ih (a ++ [v])
    simp only [Gat.takes, List.foldl_cons, Gat.take] at this ⊢
    rw [this, List.append_assoc]; rfl
/-- nothing of a list is ahead of it -/
def IsMin (lt : V → V → Bool) (l : List V) (m : V) : Prop := m ∈ l ∧ ∀ x ∈ l, lt x m = false
def bnum (way c : Int) (a b : V) : Int := if - way * cmp a b c ≠ 0 then - way * cmp a b c else cmp a b 0
theorem better_num {way c : Int} (hw : way = 1 ∨ way = -1) (a b : V) : better way c a b = decide (bnum way c a b < 0) := by
  unfold better bnum
  rcases cmp_range a b c with h | h | h <;> rcases hw with rfl | rfl <;> rw [h] <;> simp
theorem bnum_pre {way c : Int} (hw : way = 1 ∨ way = -1) : Pre (fun v => may v = true) (bnum way c) := by
  have h : Pre (fun v => may v = true) (fun a b => - way * cmp a b c) := by
    rcases hw with rfl | rfl
    · have := (cmp_pre c).flip
      refine ⟨fun a b => ?_, fun a b d ha hb hd h1 h2 => ?_⟩
      · have := this.neg a b; omega
      · have := this.trans a b d ha hb hd (by omega) (by omega); omega
    · have := cmp_pre c
      refine ⟨fun a b => ?_, fun a b d ha hb hd h1 h2 => ?_⟩
      · have := this.neg a b; omega
      · have := this.trans a b d ha hb hd (by omega) (by omega); omega
  exact h.lex (cmp_pre 0)
def betterM (way c : Int) (a b : MV) : Bool := better way c a.1 b.1
theorem better_swo {way c : Int} (hw : way = 1 ∨ way = -1) : SWO (betterM way c) := by
  have := pre_swo (bnum_pre (c := c) hw)
  have e : betterM way c = fun a b : MV => decide (bnum way c a.1 b.1 < 0) := funext fun a => funext fun b => better_num hw _ _
  rw [e]; exact this
theorem better_apart {way c : Int} (hw : way = 1 ∨ way = -1) {a b : V} (ha : may a = true) (hb : may b = true) (h1 : better way c a b = false) (h2 : better way c b a = false) : a = b := by
  rw [better_num hw] at h1 h2
  have h1 := of_decide_eq_false h1
  have h2 := of_decide_eq_false h2
  have n := (bnum_pre (c := c) hw).neg a b
  have z : bnum way c a b = 0 := by omega
  refine cmp_one a b ha hb ?_
  unfold bnum at z
  split at z
  · exact absurd z (by assumption)
  · exact z
theorem min_one {way c : Int} (hw : way = 1 ∨ way = -1) {l : List V} (hl : mayL l) {m m' : V} (h : IsMin (better way c) l m) (h' : IsMin (better way c) l m') : m = m' :=
  better_apart hw (hl m h.1) (hl m' h'.1) (h'.2 m h.1) (h.2 m' h'.1)
theorem takes_best {way c : Int} (hw : way = 1 ∨ way = -1) : ∀ (l p : List V) (b : V), mayL p → mayL l → (∀ v ∈ l, v.kind ≠ 0) → (p = [] ∧ b = zero ∨ b.kind ≠ 0 ∧ IsMin (better way c) p b) →
    ∃ b', (Gat.best way c b).takes l = .best way c b' ∧ (p ++ l = [] ∧ b' = zero ∨ b'.kind ≠ 0 ∧ IsMin (better way c) (p ++ l) b') := by
  intro l
  induction l with
  | nil => intro p b _ _ _ h; exact ⟨b, rfl, by rw [List.append_nil]; exact h⟩
  | cons v l ih =>
    intro p b hp hl hk h
    have hv := hl v List.mem_cons_self
    have hvk := hk v List.mem_cons_self
    have S := better_swo (c := c) hw
    have hstep : (if b.kind = 0 ∨ better way c v b = true then v else b).kind ≠ 0 ∧ IsMin (better way c) (p ++ [v]) (if b.kind = 0 ∨ better way c v b = true then v else b) := by
      rcases h with ⟨rfl, rfl⟩ | ⟨hbk, hbm, hbl⟩
      · rw [if_pos (.inl rfl)]
        refine ⟨hvk, by simp, fun x hx => ?_⟩
        obtain rfl : x = v := by simpa using hx
        exact S.irr ⟨x, hv⟩
      · have hbmay := hp b hbm
        by_cases hx : better way c v b = true
        · rw [if_pos (.inr hx)]
          refine ⟨hvk, by simp, fun x hxm => ?_⟩
          rcases List.mem_append.1 hxm with hxm | hxm
          · have h1 := hbl x hxm
            cases hq : better way c x v with
            | false => rfl
            | true =>
              have := S.trans ⟨x, hp x hxm⟩ ⟨v, hv⟩ ⟨b, hbmay⟩ hq hx
              exact absurd (show better way c x b = true from this) (by rw [h1]; simp)
          · obtain rfl : x = v := by simpa using hxm
            exact S.irr ⟨x, hv⟩
        · rw [if_neg (fun h => h.elim hbk hx)]
          refine ⟨hbk, List.mem_append_left _ hbm, fun x hxm => ?_⟩
          rcases List.mem_append.1 hxm with hxm | hxm
          · exact hbl x hxm
          · obtain rfl : x = v := by simpa using hxm
            simpa using hx
    have hp2 : mayL (p ++ [v]) := fun x hx => (List.mem_append.1 hx).elim (hp x) fun hx => by rw [List.mem_singleton.1 hx]; exact hv
    obtain ⟨b', h1, h2⟩ := ih (p ++ [v]) _ hp2 (fun x hx => hl x (List.mem_cons_of_mem _ hx)) (fun x hx => hk x (List.mem_cons_of_mem _ hx)) (.inr hstep)
    refine ⟨b', h1, ?_⟩
    rw [List.append_assoc] at h2
    exact h2
/-- ORDER COUNTS FOR NOTHING -/
theorem takes_perm (k : Nat) (c : Int) {a b : List V} (hp : a.Perm b) (ha : mayL a) (hk : ∀ v ∈ a, v.kind ≠ 0) : ((start k c).takes a).answer = ((start k c).takes b).answer := by
  have hb : mayL b := fun v hv => ha v (hp.mem_iff.2 hv)
  have hkb : ∀ v ∈ b, v.kind ≠ 0 := fun v hv => hk v (hp.mem_iff.2 hv)
  have best : ∀ way : Int, way = 1 ∨ way = -1 → ((Gat.best way c zero).takes a).answer = ((Gat.best way c zero).takes b).answer := by
    intro way hw
    obtain ⟨x, hx, h1⟩ := takes_best (c := c) hw a [] zero (fun v hv => by cases hv) ha hk (.inl ⟨rfl, rfl⟩)
    obtain ⟨y, hy, h2⟩ := takes_best (c := c) hw b [] zero (fun v hv => by cases hv) hb hkb (.inl ⟨rfl, rfl⟩)
    rw [hx, hy]
    show x = y
    rw [List.nil_append] at h1 h2
    rcases h1 with ⟨rfl, rfl⟩ | ⟨_, h1⟩
    · rcases h2 with ⟨_, rfl⟩ | ⟨_, h2⟩
      · rfl
      · have := hp.mem_iff.2 h2.1; cases this
    · rcases h2 with ⟨rfl, _⟩ | ⟨_, h2⟩
      · have := hp.mem_iff.1 h1.1; cases this
      · exact min_one (c := c) hw ha h1 ⟨hp.mem_iff.2 h2.1, fun z hz => h2.2 z (hp.mem_iff.1 hz)⟩
  match k with
  | 0 => simp only [start, takes_count, Gat.answer, hp.length_eq]
  | 1 =>
    have hn : (numsOf a).Perm (numsOf b) := (hp.filter _).map _
    have hs : (numsOf a).sum = (numsOf b).sum := perm_sum hn
    have he : decide (numsOf a ≠ []) = decide (numsOf b ≠ []) := by
      have : numsOf a = [] ↔ numsOf b = [] := ⟨fun h => by rw [h] at hn; exact hn.nil_eq.symm, fun h => by rw [h] at hn; exact hn.eq_nil⟩
      simp [this]
    simp only [start, takes_sum, Gat.answer, hs, he]
  | 2 => exact best (-1) (.inr rfl)
  | 3 => exact best 1 (.inl rfl)
  | k + 4 =>
    simp only [start, takes_join, Gat.answer, List.nil_append, joined]
    rw [bsort_any ha hp]
    have : a = [] ↔ b = [] := ⟨fun h => by rw [h] at hp; exact hp.nil_eq.symm, fun h => by rw [h] at hp; exact hp.eq_nil⟩
    simp [this]

/-! the document's way -/
/-- put ahead of the first that it does not stand behind; once: not if it is there -/
def insR (once : Bool) (v : V) : List V → List V
  | [] => [v]
  | x :: l => if cmp v x 0 ≤ 0 then (if cmp v x 0 < 0 ∨ once = false then v :: x :: l else x :: l) else x :: insR once v l
theorem insR_mem (once : Bool) (v : V) (hv : may v = true) : ∀ (l : List V), mayL l → ∀ x, x ∈ insR once v l ↔ x = v ∨ x ∈ l := by
  intro l
  induction l with
  | nil => intro _ x; simp [insR]
  | cons y l ih =>
    intro hl x
    have hy := hl y List.mem_cons_self
    rw [insR]
    split
    · split
      · simp
      · rename_i h1 h2
        have : cmp v y 0 = 0 := by have := not_or.1 h2; omega
        have e := cmp_one v y hv hy this
        subst e
        simp
    · rw [List.mem_cons, ih (fun z hz => hl z (List.mem_cons_of_mem _ hz)) x, List.mem_cons]
      constructor
      · rintro (h | h | h)
        · exact .inr (.inl h)
        · exact .inl h
        · exact .inr (.inr h)
      · rintro (h | h | h)
        · exact .inr (.inl h)
        · exact .inl h
        · exact .inr (.inr h)
theorem insR_may (once : Bool) {v : V} (hv : may v = true) {l : List V} (hl : mayL l) : mayL (insR once v l) := fun x hx => by
  rcases (insR_mem once v hv l hl x).1 hx with rfl | h
  · exact hv
  · exact hl x h
theorem insR_perm (v : V) : ∀ l : List V, (insR false v l).Perm (v :: l) := by
  intro l
  induction l with
  | nil => exact .refl _
  | cons y l ih =>
    rw [insR]
    split
    · rw [if_pos (.inr rfl)]
    · exact (ih.cons y).trans (.swap v y l)
theorem insR_sorted (once : Bool) (v : V) (hv : may v = true) : ∀ l : List V, mayL l → Sorted ltB l → Sorted ltB (insR once v l) := by
  intro l
  induction l with
  | nil => intro _ _; exact List.pairwise_singleton _ _
  | cons y l ih =>
    intro hl hs
    have hy := hl y List.mem_cons_self
    have hl' : mayL l := fun z hz => hl z (List.mem_cons_of_mem _ hz)
    obtain ⟨h1, h2⟩ := List.pairwise_cons.1 hs
    rw [insR]
    split
    · rename_i hle
      split
      · refine List.pairwise_cons.2 ⟨fun z hz => ?_, hs⟩
        have nv : cmp y v 0 ≥ 0 := by have := cmp_neg v y 0; omega
        rcases List.mem_cons.1 hz with rfl | hz
        · exact decide_eq_false (by omega)
        · have := of_decide_eq_false (h1 z hz)
          have n2 := cmp_neg z y 0
          have n3 := cmp_neg v z 0
          have := cmp_trans v y z 0 hv hy (hl' z hz) hle (by omega)
          exact decide_eq_false (by omega)
      · exact hs
    · rename_i hgt
      refine List.pairwise_cons.2 ⟨fun z hz => ?_, ih hl' h2⟩
      rcases (insR_mem once v hv l hl' z).1 hz with rfl | hz
      · exact decide_eq_false (by omega)
      · exact h1 z hz
theorem insR_nodup (v : V) (hv : may v = true) : ∀ l : List V, mayL l → Sorted ltB l → l.Nodup → (insR true v l).Nodup := by
  intro l
  induction l with
  | nil => intro _ _ _; simp [insR]
  | cons y l ih =>
    intro hl hs hn
    have hy := hl y List.mem_cons_self
    have hl' : mayL l := fun z hz => hl z (List.mem_cons_of_mem _ hz)
    obtain ⟨h1, h2⟩ := List.pairwise_cons.1 hs
    obtain ⟨n1, n2⟩ := List.nodup_cons.1 hn
    rw [insR]
    split
    · rename_i hle
      split
      · rename_i hlt
        have hlt : cmp v y 0 < 0 := hlt.resolve_right (by simp)
        refine List.nodup_cons.2 ⟨fun hm => ?_, hn⟩
        rcases List.mem_cons.1 hm with rfl | hm
        · rw [cmp_self] at hlt; omega
        · have := of_decide_eq_false (h1 v hm)
          omega
      · exact hn
    · rename_i hgt
      refine List.nodup_cons.2 ⟨fun hm => ?_, ih hl' h2 n2⟩
      rcases (insR_mem true v hv l hl' y).1 hm with rfl | hm
      · rw [cmp_self] at hgt; omega
      · exact n1 hm
def counting (once : Bool) (all : List V) : List V := (nonNull all).foldl (fun out v => insR once v out) []
theorem counting_from (once : Bool) : ∀ (l p out : List V), mayL l → mayL out → Sorted ltB out → (once = false → out.Perm p) → (once = true → out.Nodup ∧ ∀ x, x ∈ out ↔ x ∈ p) →
    mayL (l.foldl (fun out v => insR once v out) out) ∧ Sorted ltB (l.foldl (fun out v => insR once v out) out) ∧ (once = false → (l.foldl (fun out v => insR once v out) out).Perm (p ++ l)) ∧ (once = true → (l.foldl (fun out v => insR once v out) out).Nodup ∧ ∀ x, x ∈ l.foldl (fun out v => insR once v out) out ↔ x ∈ p ++ l) := by
  intro l
  induction l with
  | nil => intro p out _ h1 h2 h3 h4; rw [List.append_nil]; exact ⟨h1, h2, h3, h4⟩
  | cons v l ih =>
    intro p out hl h1 h2 h3 h4
    have hv := hl v List.mem_cons_self
    have := ih (p ++ [v]) (insR once v out) (fun x hx => hl x (List.mem_cons_of_mem _ hx)) (insR_may once hv h1) (insR_sorted once v hv out h1 h2)
      (fun e => by subst e; exact (insR_perm v out).trans (((h3 rfl).cons v).trans (List.perm_append_comm (l₁ := [v]))))
      (fun e => by
        subst e
        refine ⟨insR_nodup v hv out h1 h2 (h4 rfl).1, fun x => ?_⟩
        rw [insR_mem true v hv out h1, (h4 rfl).2 x]
        simp [or_comm])
    rw [List.append_assoc] at this
    exact this
theorem counting_is (once : Bool) {all : List V} (h : mayL all) : counting once all = bsort (through once all) := by
  have hn : mayL (nonNull all) := fun v hv => h v ((List.mem_filter.1 hv).1)
  obtain ⟨h1, h2, h3, h4⟩ := counting_from once (nonNull all) [] [] hn (fun v hv => by cases hv) .nil (fun _ => .refl _) (fun _ => ⟨.nil, fun x => Iff.rfl⟩)
  refine bsort_of (through_may h) ?_ h2
  cases once with
  | false => unfold through; rw [if_neg (by decide)]; exact h3 rfl
  | true =>
    unfold through
    rw [if_pos rfl]
    refine perm_of_mem (h4 rfl).1 (nodup_dd _) fun x => ?_
    rw [mem_dd]
    exact (h4 rfl).2 x
/-- the reference's sum: those below 0 and those above in turn -/
def sumFrom : Nat → List Int → List Int → Int → V
  | 0, _, _, _ => zero
  | n + 1, up, down, s =>
    if up = [] ∧ down = [] then fit s
    else if down ≠ [] ∧ (s ≥ 0 ∨ up = []) then (if inr (s + down.headD 0) then sumFrom n up (down.drop 1) (s + down.headD 0) else zero)
    else (if inr (s + up.headD 0) then sumFrom n (up.drop 1) down (s + up.headD 0) else zero)
theorem sum_pos {l : List Int} (h : ∀ x ∈ l, 0 ≤ x) : 0 ≤ l.sum := by
  induction l with
  | nil => simp
  | cons x l ih => rw [List.sum_cons]; have := h x List.mem_cons_self; have := ih fun y hy => h y (List.mem_cons_of_mem _ hy); omega
theorem sum_neg {l : List Int} (h : ∀ x ∈ l, x < 0) : l.sum ≤ 0 := by
  induction l with
  | nil => simp
  | cons x l ih => rw [List.sum_cons]; have := h x List.mem_cons_self; have := ih fun y hy => h y (List.mem_cons_of_mem _ hy); omega
theorem sumFrom_is : ∀ (n : Nat) (up down : List Int) (s : Int), up.length + down.length < n → (∀ x ∈ up, 0 ≤ x ∧ inr x) → (∀ x ∈ down, x < 0 ∧ inr x) → inr s → sumFrom n up down s = fit (s + up.sum + down.sum) := by
  intro n
  induction n with
  | zero => intro up down s h; omega
  | succ n ih =>
    intro up down s h hu hd hs
    rw [sumFrom]
    have pu := sum_pos fun x hx => (hu x hx).1
    have pd := sum_neg fun x hx => (hd x hx).1
    split
    · rename_i e
      rw [e.1, e.2]
      simp
    · rename_i e
      split
      · rename_i e2
        cases down with
        | nil => exact absurd rfl e2.1
        | cons x down =>
          have hx := hd x List.mem_cons_self
          have hd' : ∀ y ∈ down, y < 0 ∧ inr y := fun y hy => hd y (List.mem_cons_of_mem _ hy)
          have pd' := sum_neg fun y hy => (hd' y hy).1
          simp only [List.headD_cons, List.drop_one, List.tail_cons, List.sum_cons]
          split
          · rename_i hin
            rw [ih up down (s + x) (by simp at h; omega) hu hd' hin]
            congr 1
            omega
          · rename_i hout
            refine (fit_out ?_).symm
            intro hin
            unfold inr at *
            rcases e2.2 with h0 | h0
            · omega
            · rw [h0] at hin
              simp at hin
              omega
      · rename_i e2
        cases up with
        | nil =>
          exfalso
          cases down with
          | nil => exact e ⟨rfl, rfl⟩
          | cons x down => exact e2 ⟨by simp, .inr rfl⟩
        | cons x up =>
          have hx := hu x List.mem_cons_self
          have hu' : ∀ y ∈ up, 0 ≤ y ∧ inr y := fun y hy => hu y (List.mem_cons_of_mem _ hy)
          have pu' := sum_pos fun y hy => (hu' y hy).1
          simp only [List.headD_cons, List.drop_one, List.tail_cons, List.sum_cons]
          split
          · rename_i hin
            rw [ih up down (s + x) (by simp at h; omega) hu' hd hin]
            congr 1
            omega
          · rename_i hout
            refine (fit_out ?_).symm
            intro hin
            unfold inr at *
            by_cases hd0 : down = []
            · rw [hd0] at hin
              simp at hin
              omega
            · have : ¬ s ≥ 0 := fun h0 => e2 ⟨hd0, .inl h0⟩
              omega
def ups (l : List V) : List Int := (numsOf l).filter fun n => decide (0 ≤ n)
def downs (l : List V) : List Int := (numsOf l).filter fun n => decide (n < 0)
def rsum (l : List V) : V := if numsOf l = [] then zero else sumFrom ((numsOf l).length + 1) (ups l) (downs l) 0
theorem parts_sum (l : List Int) : (l.filter fun n => decide (0 ≤ n)).sum + (l.filter fun n => decide (n < 0)).sum = l.sum := by
  induction l with
  | nil => rfl
  | cons x l ih =>
    by_cases h : 0 ≤ x
    · rw [List.filter_cons_of_pos (by simpa using h), List.filter_cons_of_neg (by simp; omega), List.sum_cons, List.sum_cons]; omega
    · rw [List.filter_cons_of_neg (by simpa using h), List.filter_cons_of_pos (by simp; omega), List.sum_cons, List.sum_cons]; omega
theorem parts_len (l : List Int) : (l.filter fun n => decide (0 ≤ n)).length + (l.filter fun n => decide (n < 0)).length = l.length := by
  induction l with
  | nil => rfl
  | cons x l ih =>
    by_cases h : 0 ≤ x
    · rw [List.filter_cons_of_pos (by simpa using h), List.filter_cons_of_neg (by simp; omega), List.length_cons, List.length_cons]; omega
    · rw [List.filter_cons_of_neg (by simpa using h), List.filter_cons_of_pos (by simp; omega), List.length_cons, List.length_cons]; omega
theorem nums_in {l : List V} (h : ∀ v ∈ l, fits v) : ∀ n ∈ numsOf l, inr n := by
  intro n hn
  obtain ⟨v, hv, rfl⟩ := List.mem_map.1 hn
  exact num_fits (h v ((List.mem_filter.1 hv).1))
theorem rsum_is {l : List V} (h : ∀ v ∈ l, fits v) : rsum l = ((start 1 0).takes l).answer := by
  have hn := nums_in h
  simp only [start, takes_sum, Gat.answer, Bool.false_or, Int.zero_add]
  unfold rsum
  by_cases h0 : numsOf l = []
  · rw [if_pos h0, h0]; rfl
  · rw [if_neg h0, if_pos (by simpa using h0), sumFrom_is ((numsOf l).length + 1) (ups l) (downs l) 0 (by unfold ups downs; have := parts_len (numsOf l); omega) (fun x hx => ⟨by simpa using (List.mem_filter.1 hx).2, hn x ((List.mem_filter.1 hx).1)⟩) (fun x hx => ⟨by simpa using (List.mem_filter.1 hx).2, hn x ((List.mem_filter.1 hx).1)⟩) (by unfold inr; omega)]
    congr 1
    have := parts_sum (numsOf l)
    unfold ups downs
    omega
/-- the reference's best of what is sorted -/
def rbest (way c : Int) : List V → V
  | [] => zero
  | x :: l => l.foldl (fun b v => if cmp v b c = way then v else b) x
theorem rbest_from {way c : Int} (hw : way = 1 ∨ way = -1) : ∀ (l p : List V) (b : V), mayL p → mayL l → (∀ x ∈ p, ∀ y ∈ l, ltB y x = false) → Sorted ltB l → IsMin (better way c) p b → IsMin (better way c) (p ++ l) (l.foldl (fun b v => if cmp v b c = way then v else b) b) := by
  intro l
  induction l with
  | nil => intro p b _ _ _ _ h; rw [List.append_nil]; exact h
  | cons v l ih =>
    intro p b hp hl hx hs hb
    have hv := hl v List.mem_cons_self
    have S := better_swo (c := c) hw
    obtain ⟨s1, s2⟩ := List.pairwise_cons.1 hs
    have hp2 : mayL (p ++ [v]) := fun x hx => (List.mem_append.1 hx).elim (hp x) fun hx => by rw [List.mem_singleton.1 hx]; exact hv
    have hstep : IsMin (better way c) (p ++ [v]) (if cmp v b c = way then v else b) := by
      have hbm := hp b hb.1
      by_cases h : cmp v b c = way
      · rw [if_pos h]
        have hvb : better way c v b = true := by unfold better; exact decide_eq_true (.inl h)
        refine ⟨by simp, fun x hxm => ?_⟩
        rcases List.mem_append.1 hxm with hxm | hxm
        · have h1 := hb.2 x hxm
          cases hq : better way c x v with
          | false => rfl
          | true =>
            have := S.trans ⟨x, hp x hxm⟩ ⟨v, hv⟩ ⟨b, hbm⟩ hq hvb
            exact absurd (show better way c x b = true from this) (by rw [h1]; simp)
        · obtain rfl : x = v := by simpa using hxm
          exact S.irr ⟨x, hv⟩
      · rw [if_neg h]
        refine ⟨List.mem_append_left _ hb.1, fun x hxm => ?_⟩
        rcases List.mem_append.1 hxm with hxm | hxm
        · exact hb.2 x hxm
        · obtain rfl : x = v := by simpa using hxm
          have := of_decide_eq_false (hx b hb.1 x List.mem_cons_self)
          unfold better
          exact decide_eq_false fun e => e.elim h fun e => this e.2
    have := ih (p ++ [v]) _ hp2 (fun x hx => hl x (List.mem_cons_of_mem _ hx)) (fun x hxm y hy => ?_) s2 hstep
    · rw [List.append_assoc] at this
      exact this
    · rcases List.mem_append.1 hxm with hxm | hxm
      · exact hx x hxm y (List.mem_cons_of_mem _ hy)
      · obtain rfl : x = v := by simpa using hxm
        exact s1 y hy
theorem rbest_is {way c : Int} (hw : way = 1 ∨ way = -1) {l : List V} (hl : mayL l) (hk : ∀ v ∈ l, v.kind ≠ 0) (hs : Sorted ltB l) : rbest way c l = ((Gat.best way c zero).takes l).answer := by
  obtain ⟨b, h1, h2⟩ := takes_best (c := c) hw l [] zero (fun v hv => by cases hv) hl hk (.inl ⟨rfl, rfl⟩)
  rw [h1]
  show rbest way c l = b
  rw [List.nil_append] at h2
  cases l with
  | nil =>
    rcases h2 with ⟨_, rfl⟩ | ⟨_, h2⟩
    · rfl
    · cases h2.1
  | cons x l =>
    rcases h2 with ⟨h, _⟩ | ⟨_, h2⟩
    · cases h
    · obtain ⟨s1, s2⟩ := List.pairwise_cons.1 hs
      have hx := hl x List.mem_cons_self
      have m1 : mayL [x] := fun y hy => by rw [List.mem_singleton.1 hy]; exact hx
      have m2 : ∀ y ∈ [x], ∀ z ∈ l, ltB z y = false := fun y hy z hz => by rw [List.mem_singleton.1 hy]; exact s1 z hz
      have m3 : IsMin (better way c) [x] x := ⟨List.mem_singleton.2 rfl, fun y hy => by rw [List.mem_singleton.1 hy]; exact (better_swo (c := c) hw).irr ⟨x, hx⟩⟩
      have := rbest_from (c := c) hw l [x] x m1 (fun y hy => hl y (List.mem_cons_of_mem _ hy)) m2 s2 m3
      exact min_one (c := c) hw hl this h2
def ranswer (k : Nat) (once star : Bool) (c : Int) (all : List V) : V :=
  if star = true then ⟨1, all.length, []⟩ else
  let l := counting once all
  match k with
  | 0 => ⟨1, l.length, []⟩
  | 1 => rsum l
  | 2 => rbest (-1) c l
  | 3 => rbest 1 c l
  | _ => if l = [] then zero else ptext (comma (l.map fun v => (pshow v).text))
/-- BOTH SIDES ANSWER THE SAME -/
theorem answers {k : Nat} {once star : Bool} {c : Int} {all : List V} (hst : star = true → k = 0) (h : mayL all) (hf : ∀ v ∈ all, fits v) : ranswer k once star c all = answerV k once star c all := by
  unfold ranswer answerV
  cases star with
  | true =>
    rw [if_pos rfl, if_pos rfl, hst rfl]
    simp only [start, takes_count, Gat.answer, Int.zero_add]
  | false =>
    rw [if_neg (by decide), if_neg (by decide), counting_is once h]
    have ht := through_may (once := once) h
    have hk : ∀ v ∈ through once all, v.kind ≠ 0 := fun v hv => ((mem_through once all v).1 hv).2
    have hp := bsort_perm (through once all)
    have hb : mayL (bsort (through once all)) := fun v hv => ht v (hp.mem_iff.1 hv)
    have hkb : ∀ v ∈ bsort (through once all), v.kind ≠ 0 := fun v hv => hk v (hp.mem_iff.1 hv)
    have hfb : ∀ v ∈ bsort (through once all), fits v := fun v hv => hf v ((mem_through once all v).1 (hp.mem_iff.1 hv)).1
    rw [← takes_perm k c hp hb hkb]
    match k with
    | 0 => simp only [start, takes_count, Gat.answer, Int.zero_add]
    | 1 => exact rsum_is hfb
    | 2 => exact rbest_is (.inr rfl) hb hkb (bsort_sorted ht)
    | 3 => exact rbest_is (.inl rfl) hb hkb (bsort_sorted ht)
    | k + 4 =>
      simp only [start, takes_join, Gat.answer, List.nil_append, joined]
      have : bsort (bsort (through once all)) = bsort (through once all) := bsort_any hb hp
      rw [this]
end Go.Proofs.YtdapnemcdgjeeaaGreatDoor.Ag
