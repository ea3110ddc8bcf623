/- The reference's reading of a number is that of the number's text, in plain Lean. -/
import Derived.Test.YtiiaamkmnbegdaaDoorValRnd
namespace Go.Proofs.YtiiaamkmnbegdaaDoor.Val
set_option maxRecDepth 100000
set_option linter.unusedVariables false
set_option linter.unusedSimpArgs false

/-- one digit more -/
def stepN (neg : Bool) (n : Int) (c : UInt8) : Option Int :=
  if 48 ≤ c.toNat ∧ c.toNat ≤ 57 then
    (if neg = true then (if n < Int.tdiv (-9223372036854775808 + ((c.toNat : Int) - 48)) 10 then none else some (n * 10 - ((c.toNat : Int) - 48)))
     else (if n > Int.tdiv (9223372036854775807 - ((c.toNat : Int) - 48)) 10 then none else some (n * 10 + ((c.toNat : Int) - 48))))
  else none
/-- the reference's number, from a place on -/
def numFrom (neg : Bool) (n : Int) (l : List UInt8) : Option Int := l.foldl (fun o c => o.bind fun m => stepN neg m c) (some n)
theorem fold_none (neg : Bool) (l : List UInt8) : l.foldl (fun o c => o.bind fun m => stepN neg m c) none = none := by
  induction l with
  | nil => rfl
  | cons c r ih => rw [List.foldl_cons]; exact ih
theorem numFrom_nil (neg : Bool) (n : Int) : numFrom neg n [] = some n := rfl
theorem numFrom_some {neg : Bool} {n m : Int} {c : UInt8} (r : List UInt8) (h : stepN neg n c = some m) : numFrom neg n (c :: r) = numFrom neg m r := by
  rw [numFrom, List.foldl_cons, Option.bind_some, h]; rfl
theorem numFrom_none {neg : Bool} {n : Int} {c : UInt8} (r : List UInt8) (h : stepN neg n c = none) : numFrom neg n (c :: r) = none := by
  rw [numFrom, List.foldl_cons, Option.bind_some, h, fold_none]
/-- the digits' worth -/
def valS (a : Nat) (c : UInt8) : Nat := a * 10 + (c.toNat - 48)
def valM (a : Nat) (l : List UInt8) : Nat := l.foldl valS a
theorem valM_nil (a : Nat) : valM a [] = a := rfl
theorem valM_cons (a : Nat) (c : UInt8) (r : List UInt8) : valM a (c :: r) = valM (a * 10 + (c.toNat - 48)) r := by rw [valM, List.foldl_cons, valS, ← valM]
def digs (l : List UInt8) : Prop := ∀ c ∈ l, 48 ≤ c.toNat ∧ c.toNat ≤ 57
theorem digs_cons (c : UInt8) (r : List UInt8) : digs (c :: r) ↔ (48 ≤ c.toNat ∧ c.toNat ≤ 57) ∧ digs r := by
  unfold digs
  rw [List.forall_mem_cons]
attribute [irreducible] valM
theorem valM_ge (l : List UInt8) (a : Nat) : a ≤ valM a l := by
  induction l generalizing a with
  | nil => rw [valM_nil]; exact Nat.le_refl _
  | cons c r ih =>
    have h := ih (a * 10 + (c.toNat - 48))
    rw [valM_cons]
    generalize valM (a * 10 + (c.toNat - 48)) r = v at h ⊢
    omega
theorem valM_append (l r : List UInt8) (a : Nat) : valM a (l ++ r) = valM (valM a l) r := by
  induction l generalizing a with
  | nil => rw [List.nil_append, valM_nil]
  | cons c l ih => rw [List.cons_append, valM_cons, valM_cons, ih]

theorem numFrom_pos (l : List UInt8) (a : Nat) (n : Int) (ha : a ≤ 9223372036854775807) :
    numFrom false (a : Int) l = some n ↔ digs l ∧ (valM a l : Int) = n ∧ n ≤ 9223372036854775807 := by
  induction l generalizing a with
  | nil =>
    rw [numFrom_nil, valM_nil]
    constructor
    · intro h; cases h; exact ⟨(by intro c hc; cases hc), rfl, by omega⟩
    · rintro ⟨_, h, _⟩; rw [h]
  | cons c r ih =>
    rw [valM_cons, digs_cons]
    by_cases hc : 48 ≤ c.toNat ∧ c.toNat ≤ 57
    · have ht : Int.tdiv (9223372036854775807 - ((c.toNat : Int) - 48)) 10 = (9223372036854775807 - ((c.toNat : Int) - 48)) / 10 := Int.tdiv_eq_ediv_of_nonneg (by omega)
      by_cases hb : (a : Int) > (9223372036854775807 - ((c.toNat : Int) - 48)) / 10
      · rw [numFrom_none r (by rw [stepN, if_pos hc, if_neg (by decide), ht, if_pos hb])]
        constructor
        · intro h; cases h
        · rintro ⟨_, h1, h2⟩
          have hg := valM_ge r (a * 10 + (c.toNat - 48))
          generalize valM (a * 10 + (c.toNat - 48)) r = v at h1 hg
          omega
      · have e : (a : Int) * 10 + ((c.toNat : Int) - 48) = ((a * 10 + (c.toNat - 48) : Nat) : Int) := by omega
        rw [numFrom_some r (m := ((a * 10 + (c.toNat - 48) : Nat) : Int)) (by rw [stepN, if_pos hc, if_neg (by decide), ht, if_neg hb, e]), ih _ (by omega)]
        exact ⟨fun ⟨x, y⟩ => ⟨⟨hc, x⟩, y⟩, fun ⟨x, y⟩ => ⟨x.2, y⟩⟩
    · rw [numFrom_none r (by rw [stepN, if_neg hc])]
      constructor
      · intro h; cases h
      · rintro ⟨h, _⟩
        exact absurd h.1 hc
theorem numFrom_neg (l : List UInt8) (a : Nat) (n : Int) (ha : a ≤ 9223372036854775808) :
    numFrom true (-(a : Int)) l = some n ↔ digs l ∧ -(valM a l : Int) = n ∧ -9223372036854775808 ≤ n := by
  induction l generalizing a with
  | nil =>
    rw [numFrom_nil, valM_nil]
    constructor
    · intro h; cases h; exact ⟨(by intro c hc; cases hc), rfl, by omega⟩
    · rintro ⟨_, h, _⟩; rw [h]
  | cons c r ih =>
    rw [valM_cons, digs_cons]
    by_cases hc : 48 ≤ c.toNat ∧ c.toNat ≤ 57
    · have ht : Int.tdiv (-9223372036854775808 + ((c.toNat : Int) - 48)) 10 = -((9223372036854775808 - ((c.toNat : Int) - 48)) / 10) := by
        have e : -9223372036854775808 + ((c.toNat : Int) - 48) = -(9223372036854775808 - ((c.toNat : Int) - 48)) := by omega
        rw [e, Int.neg_tdiv, Int.tdiv_eq_ediv_of_nonneg (by omega)]
      by_cases hb : -(a : Int) < -((9223372036854775808 - ((c.toNat : Int) - 48)) / 10)
      · rw [numFrom_none r (by rw [stepN, if_pos hc, if_pos rfl, ht, if_pos hb])]
        constructor
        · intro h; cases h
        · rintro ⟨_, h1, h2⟩
          have hg := valM_ge r (a * 10 + (c.toNat - 48))
          generalize valM (a * 10 + (c.toNat - 48)) r = v at h1 hg
          omega
      · have e : -(a : Int) * 10 - ((c.toNat : Int) - 48) = -((a * 10 + (c.toNat - 48) : Nat) : Int) := by omega
        rw [numFrom_some r (m := -((a * 10 + (c.toNat - 48) : Nat) : Int)) (by rw [stepN, if_pos hc, if_pos rfl, ht, if_neg hb, e]), ih _ (by omega)]
        exact ⟨fun ⟨x, y⟩ => ⟨⟨hc, x⟩, y⟩, fun ⟨x, y⟩ => ⟨x.2, y⟩⟩
    · rw [numFrom_none r (by rw [stepN, if_neg hc])]
      constructor
      · intro h; cases h
      · rintro ⟨h, _⟩
        exact absurd h.1 hc

/-- a row of digits that begins with no nought, or is one digit -/
def plainD (l : List UInt8) : Prop := l ≠ [] ∧ digs l ∧ ((l.getD 0 0).toNat ≠ 48 ∨ l.length = 1)
theorem dec_plain (u : Nat) : plainD (Lib.decDigits u) ∧ valM 0 (Lib.decDigits u) = u := by
  induction u using Nat.strongRecOn with
  | _ u ih =>
    by_cases h : u < 10
    · rw [Lib.decDigits, dif_pos h]
      have e := digit_nat h
      refine ⟨⟨by simp, ?_, .inr rfl⟩, ?_⟩
      · intro c hc
        rw [List.mem_singleton.1 hc, e]; omega
      · rw [valM_cons, valM_nil, e]; omega
    · rw [Lib.decDigits, dif_neg h]
      obtain ⟨⟨h1, h2, h3⟩, h4⟩ := ih (u / 10) (by omega)
      have e := digit_nat (show u % 10 < 10 by omega)
      refine ⟨⟨by simp, ?_, ?_⟩, ?_⟩
      · intro c hc
        rcases List.mem_append.1 hc with hc | hc
        · exact h2 c hc
        · rw [List.mem_singleton.1 hc, e]; omega
      · left
        rcases hd : Lib.decDigits (u / 10) with _ | ⟨x, l⟩
        · exact absurd hd h1
        · rw [hd] at h3 h4
          rcases h3 with h3 | h3
          · simpa using h3
          · have : l = [] := by simpa using h3
            subst this
            rw [valM_cons, valM_nil] at h4
            have hx := h2 x (by rw [hd]; simp)
            simp; omega
      · rw [valM_append, h4]
        rw [valM_cons, valM_nil, e]; omega
theorem plain_dec (l : List UInt8) (h : plainD l) : Lib.decDigits (valM 0 l) = l := by
  induction hn : l.length using Nat.strongRecOn generalizing l with
  | _ k ih =>
    obtain ⟨h1, h2, h3⟩ := h
    obtain ⟨r, c, rfl⟩ : ∃ r c, l = r ++ [c] := ⟨l.dropLast, l.getLast h1, (List.dropLast_concat_getLast h1).symm⟩
    have hc := h2 c (by simp)
    have hco : UInt8.ofNat (48 + (c.toNat - 48)) = c := by
      rw [← UInt8.toNat_inj, UInt8.toNat_ofNat']; have := c.toNat_lt; omega
    rw [valM_append, valM_cons, valM_nil]
    by_cases hr : r = []
    · subst hr
      rw [valM_nil, Lib.decDigits, dif_pos (by omega)]
      simp only [Nat.zero_mul, Nat.zero_add, List.nil_append]
      rw [hco]
    · have hr0 : (r.getD 0 0).toNat ≠ 48 := by
        rcases h3 with h3 | h3
        · intro hh
          apply h3
          rcases r with _ | ⟨x, r⟩
          · exact absurd rfl hr
          · simpa using hh
        · rcases r with _ | ⟨x, r⟩
          · exact absurd rfl hr
          · simp at h3
      have hp : plainD r := ⟨hr, fun x hx => h2 x (by simp [hx]), .inl hr0⟩
      have hi := ih r.length (by rw [← hn]; simp) r hp rfl
      have hpos : 1 ≤ valM 0 r := by
        rcases r with _ | ⟨x, r⟩
        · exact absurd rfl hr
        · have hx := h2 x (by simp)
          simp at hr0
          have hg := valM_ge r (0 * 10 + (x.toNat - 48))
          rw [valM_cons]; generalize valM (0 * 10 + (x.toNat - 48)) r = v at hg ⊢; omega
      rw [Lib.decDigits, dif_neg (by omega)]
      have e1 : (valM 0 r * 10 + (c.toNat - 48)) / 10 = valM 0 r := by omega
      have e2 : (valM 0 r * 10 + (c.toNat - 48)) % 10 = c.toNat - 48 := by omega
      rw [e1, e2, hi, hco]

/-- the reference's number of a text -/
def number (s : List UInt8) : Option Int :=
  match s with
  | [] => none
  | c :: r =>
    if c.toNat = 45 then (if r = [] ∨ (r.getD 0 0).toNat = 48 then none else numFrom true 0 r)
    else (if c.toNat = 48 ∧ r ≠ [] then none else numFrom false 0 (c :: r))
theorem number_itoa (n : Int) (h0 : -9223372036854775808 ≤ n) (h1 : n ≤ 9223372036854775807) : number (Lib.itoa n) = some n := by
  unfold Lib.itoa
  split
  · rename_i hn
    obtain ⟨⟨p1, p2, p3⟩, p4⟩ := dec_plain n.natAbs
    rw [number, if_pos (by rfl), if_neg]
    · have := (numFrom_neg (Lib.decDigits n.natAbs) 0 n (by omega)).2 ⟨p2, by rw [p4]; omega, h0⟩
      simpa using this
    · rintro (h | h)
      · exact p1 h
      · rcases p3 with p3 | p3
        · exact p3 h
        · rcases hd : Lib.decDigits n.natAbs with _ | ⟨x, l⟩
          · exact absurd hd p1
          · rw [hd] at p3 p4 h
            have : l = [] := by simpa using p3
            subst this
            rw [valM_cons, valM_nil] at p4
            simp at h
            omega
  · rename_i hn
    obtain ⟨⟨p1, p2, p3⟩, p4⟩ := dec_plain n.toNat
    rcases hd : Lib.decDigits n.toNat with _ | ⟨x, l⟩
    · exact absurd hd p1
    · rw [hd] at p2 p3 p4
      have hx := p2 x (by simp)
      rw [number, if_neg (by omega), if_neg]
      · have := (numFrom_pos (x :: l) 0 n (by omega)).2 ⟨p2, by rw [p4]; omega, h1⟩
        simpa using this
      · rintro ⟨h, hl⟩
        rcases p3 with p3 | p3
        · simp at p3; exact p3 h
        · exact hl (by simpa using p3)
theorem number_is {s : List UInt8} {n : Int} (h : number s = some n) : s = Lib.itoa n ∧ -9223372036854775808 ≤ n ∧ n ≤ 9223372036854775807 := by
  rcases s with _ | ⟨c, r⟩
  · cases h
  · rw [number] at h
    by_cases hc : c.toNat = 45
    · rw [if_pos hc] at h
      by_cases hr : r = [] ∨ (r.getD 0 0).toNat = 48
      · rw [if_pos hr] at h; cases h
      · rw [if_neg hr] at h
        have hz : numFrom true (-((0 : Nat) : Int)) r = some n := by simpa using h
        obtain ⟨d, hv, hn⟩ := (numFrom_neg r 0 n (by omega)).1 hz
        have hp : plainD r := ⟨fun e => hr (.inl e), d, .inl fun e => hr (.inr e)⟩
        have hi := plain_dec r hp
        have hpos : 1 ≤ valM 0 r := by
          rcases r with _ | ⟨x, r⟩
          · exact absurd (.inl rfl) hr
          · have hx := d x (by simp)
            have : x.toNat ≠ 48 := fun e => hr (.inr (by simpa using e))
            have hg := valM_ge r (0 * 10 + (x.toNat - 48))
            rw [valM_cons]; generalize valM (0 * 10 + (x.toNat - 48)) r = v at hg ⊢; omega
        refine ⟨?_, hn, by omega⟩
        have hc' : c = 45 := UInt8.toNat_inj.1 hc
        unfold Lib.itoa
        rw [if_pos (by omega), hc', show n.natAbs = valM 0 r by omega, hi]
    · rw [if_neg hc] at h
      by_cases hr : c.toNat = 48 ∧ r ≠ []
      · rw [if_pos hr] at h; cases h
      · rw [if_neg hr] at h
        have hz : numFrom false ((0 : Nat) : Int) (c :: r) = some n := by simpa using h
        obtain ⟨d, hv, hn⟩ := (numFrom_pos (c :: r) 0 n (by omega)).1 hz
        have hp : plainD (c :: r) := ⟨by simp, d, by
          by_cases hc0 : c.toNat = 48
          · right
            have : r = [] := Classical.byContradiction fun e => hr ⟨hc0, e⟩
            simp [this]
          · left; simpa using hc0⟩
        have hi := plain_dec (c :: r) hp
        refine ⟨?_, by omega, hn⟩
        unfold Lib.itoa
        rw [if_neg (by omega), show n.toNat = valM 0 (c :: r) by omega, hi]

end Go.Proofs.YtiiaamkmnbegdaaDoor.Val
