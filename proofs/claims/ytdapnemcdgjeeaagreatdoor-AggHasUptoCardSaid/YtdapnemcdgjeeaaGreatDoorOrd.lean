/- How rows stand by keys and first columns: a total order of rows whose values may be. In plain Lean. -/
import Derived.Test.YtdapnemcdgjeeaaGreatDoorRowsP
import Derived.Test.YtdapnemcdgjeeaaGreatDoorStb2
set_option maxRecDepth 100000
set_option linter.unusedVariables false
set_option linter.unusedSimpArgs false
namespace Go.Proofs.YtdapnemcdgjeeaaGreatDoor.Ord
open Val

/-- an order told by a number -/
structure Pre {α : Type} (p : α → Prop) (f : α → α → Int) : Prop where
  neg : ∀ a b, f b a = - f a b
  trans : ∀ a b c, p a → p b → p c → f a b ≤ 0 → f b c ≤ 0 → f a c ≤ 0
theorem Pre.lt_le {α : Type} {p : α → Prop} {f : α → α → Int} (h : Pre p f) {a b c : α} (ha : p a) (hb : p b) (hc : p c) (h1 : f a b < 0) (h2 : f b c ≤ 0) : f a c < 0 := by
  rcases Int.lt_trichotomy (f a c) 0 with x | x | x
  · exact x
  · exfalso
    have e := h.neg a c
    have := h.trans b c a hb hc ha h2 (by omega)
    have := h.neg a b
    omega
  · exfalso
    have e := h.neg a c
    have := h.trans b c a hb hc ha h2 (by omega)
    have := h.neg a b
    omega
theorem Pre.lex {α : Type} {p : α → Prop} {f g : α → α → Int} (hf : Pre p f) (hg : Pre p g) : Pre p (fun a b => if f a b ≠ 0 then f a b else g a b) := by
  refine ⟨fun a b => ?_, fun a b c ha hb hc h1 h2 => ?_⟩
  · have := hf.neg a b
    have := hg.neg a b
    by_cases x : f a b = 0
    · simp only [x, _root_.ne_eq, not_true, if_false]
      rw [if_neg (by omega)]
      omega
    · rw [if_pos (by omega), if_pos x]
      omega
  · have n1 := hf.neg a b
    have n2 := hf.neg b c
    by_cases x : f a b = 0
    · rw [if_neg (by omega)] at h1
      by_cases y : f b c = 0
      · rw [if_neg (by omega)] at h2
        have e1 := hf.trans a b c ha hb hc (by omega) (by omega)
        have e2 := hf.trans c b a hc hb ha (by omega) (by omega)
        have e3 := hf.neg a c
        rw [if_neg (by omega)]
        exact hg.trans a b c ha hb hc h1 h2
      · rw [if_pos y] at h2
        have e1 := hf.trans a b c ha hb hc (by omega) h2
        have e2 : f a c ≠ 0 := fun e => by
          have n3 := hf.neg a c
          have := hf.trans c a b hc ha hb (by omega) (by omega)
          omega
        rw [if_pos e2]; exact e1
    · rw [if_pos x] at h1
      have hlt : f a b < 0 := by omega
      have h2' : f b c ≤ 0 := by
        by_cases y : f b c = 0
        · omega
        · rw [if_pos y] at h2; exact h2
      have := hf.lt_le ha hb hc hlt h2'
      rw [if_pos (by omega)]
      omega
theorem Pre.flip {α : Type} {p : α → Prop} {f : α → α → Int} (h : Pre p f) : Pre p (fun a b => - f a b) :=
  ⟨fun a b => by have := h.neg a b; omega, fun a b c ha hb hc h1 h2 => by
    have n1 := h.neg a b
    have n2 := h.neg b c
    have n3 := h.neg a c
    have := h.trans c b a hc hb ha (by omega) (by omega)
    omega⟩
theorem Pre.on {α β : Type} {p : α → Prop} {q : β → Prop} {f : α → α → Int} (h : Pre p f) (m : β → α) (hm : ∀ b, q b → p (m b)) : Pre q (fun a b => f (m a) (m b)) :=
  ⟨fun a b => h.neg _ _, fun a b c ha hb hc h1 h2 => h.trans _ _ _ (hm a ha) (hm b hb) (hm c hc) h1 h2⟩
theorem cmp_pre (c : Int) : Pre (fun v => may v = true) (fun a b => cmp a b c) := ⟨fun a b => cmp_neg a b c, fun a b d ha hb hd h1 h2 => cmp_trans a b d c ha hb hd h1 h2⟩
theorem compareInt_neg (x y : Int) : Lib.compareInt y x = - Lib.compareInt x y := by
  unfold Lib.compareInt
  repeat' split
  all_goals omega
theorem compareInt_le {x y : Int} : Lib.compareInt x y ≤ 0 ↔ x ≤ y := by
  unfold Lib.compareInt
  repeat' split
  all_goals omega
def mayRow (l : List V) : Prop := ∀ v ∈ l, may v = true
/-- rows, value for value under the binary collation, then by length -/
theorem rows_neg : ∀ (a b : List V) (k : Nat), rowsFrom [] k b a = - rowsFrom [] k a b := by
  intro a
  induction a with
  | nil => intro b k; rw [rowsFrom_end _ _ _ _ (.inl rfl), rowsFrom_end _ _ _ _ (.inr rfl), compareInt_neg]
  | cons x a ih =>
    intro b k
    cases b with
    | nil => rw [rowsFrom_end _ _ _ _ (.inl rfl), rowsFrom_end _ _ _ _ (.inr rfl), compareInt_neg]
    | cons y b =>
      rw [rowsFrom, rowsFrom]
      have e := cmp_neg x y (([] : List Int).getD k 0)
      by_cases h : cmp x y (([] : List Int).getD k 0) = 0
      · rw [if_neg (by omega), if_neg (by omega)]; exact ih b (k + 1)
      · rw [if_pos (by omega), if_pos h]; exact e
theorem rows_trans : ∀ (a b c : List V) (k : Nat), mayRow a → mayRow b → mayRow c → rowsFrom [] k a b ≤ 0 → rowsFrom [] k b c ≤ 0 → rowsFrom [] k a c ≤ 0 := by
  intro a
  induction a with
  | nil =>
    intro b c k _ _ _ _ _
    rw [rowsFrom_end _ _ _ _ (.inl rfl), compareInt_le]
    simp
  | cons x a ih =>
    intro b c k ha hb hc h1 h2
    cases b with
    | nil =>
      exfalso
      rw [rowsFrom_end _ _ _ _ (.inr rfl), compareInt_le] at h1
      simp only [List.length_cons, List.length_nil] at h1
      omega
    | cons y b =>
      cases c with
      | nil =>
        exfalso
        rw [rowsFrom_end _ _ _ _ (.inr rfl), compareInt_le] at h2
        simp only [List.length_cons, List.length_nil] at h2
        omega
      | cons z c =>
        rw [rowsFrom] at h1 h2 ⊢
        have hx := ha x List.mem_cons_self
        have hy := hb y List.mem_cons_self
        have hz := hc z List.mem_cons_self
        have P := cmp_pre (([] : List Int).getD k 0)
        have n1 := P.neg x y
        have n2 := P.neg y z
        have n3 := P.neg x z
        try simp only at n1 n2 n3
        by_cases c1 : cmp x y (([] : List Int).getD k 0) = 0
        · rw [if_neg (by omega)] at h1
          by_cases c2 : cmp y z (([] : List Int).getD k 0) = 0
          · rw [if_neg (by omega)] at h2
            have e1 := P.trans x y z hx hy hz (by omega) (by omega)
            have e2 := P.trans z y x hz hy hx (by omega) (by omega)
            try simp only at e1 e2
            rw [if_neg (by omega)]
            exact ih b c (k + 1) (fun v hv => ha v (List.mem_cons_of_mem _ hv)) (fun v hv => hb v (List.mem_cons_of_mem _ hv)) (fun v hv => hc v (List.mem_cons_of_mem _ hv)) h1 h2
          · rw [if_pos c2] at h2
            have e1 := P.trans x y z hx hy hz (by omega) h2
            have e2 : cmp x z (([] : List Int).getD k 0) ≠ 0 := fun e => by
              have := P.trans z x y hz hx hy (by omega) (by omega)
              try simp only at this
              omega
            rw [if_pos e2]; exact e1
        · rw [if_pos c1] at h1
          have h2' : cmp y z (([] : List Int).getD k 0) ≤ 0 := by
            by_cases c2 : cmp y z (([] : List Int).getD k 0) = 0
            · omega
            · rw [if_pos c2] at h2; exact h2
          have := P.lt_le hx hy hz (by omega) h2'
          try simp only at this
          rw [if_pos (by omega)]
          omega
theorem rows_pre : Pre mayRow (fun a b => rowsFrom [] 0 a b) := ⟨fun a b => rows_neg a b 0, fun a b c ha hb hc h1 h2 => rows_trans a b c 0 ha hb hc h1 h2⟩

/-- a key: column, collation, the other way round -/
structure Key where
  col : Int
  coll : Int
  desc : Bool
def atV (row : List V) (col : Int) : V := if col < 0 ∨ (row.length : Int) ≤ col then zero else row.getD col.toNat zero
def firstV (row : List V) (w : Int) : List V := row.take w.toNat
def standV : List Key → Int → List V → List V → Int
  | [], w, a, b => rowsFrom [] 0 (firstV a w) (firstV b w)
  | k :: ks, w, a, b => if cmp (atV a k.col) (atV b k.col) k.coll ≠ 0 then (if k.desc = true then - cmp (atV a k.col) (atV b k.col) k.coll else cmp (atV a k.col) (atV b k.col) k.coll) else standV ks w a b
theorem zero_may : may zero = true := may_iff.2 (.inl ⟨rfl, rfl, rfl⟩)
theorem atV_may {row : List V} (h : mayRow row) (col : Int) : may (atV row col) = true := by
  unfold atV
  split
  · exact zero_may
  · rename_i hc
    have hl : col.toNat < row.length := by omega
    rw [List.getD_eq_getElem?_getD, List.getElem?_eq_getElem hl]
    exact h _ (List.getElem_mem hl)
theorem firstV_may {row : List V} (h : mayRow row) (w : Int) : mayRow (firstV row w) := fun v hv => h v (List.mem_of_mem_take hv)
theorem stand_pre : ∀ (ks : List Key) (w : Int), Pre mayRow (standV ks w) := by
  intro ks
  induction ks with
  | nil => intro w; exact rows_pre.on (fun r => firstV r w) (fun r hr => firstV_may hr w)
  | cons k ks ih =>
    intro w
    have hk : Pre mayRow (fun a b => cmp (atV a k.col) (atV b k.col) k.coll) := (cmp_pre k.coll).on (fun r => atV r k.col) (fun r hr => atV_may hr k.col)
    cases hd : k.desc with
    | false =>
      have := hk.lex (ih w)
      refine ⟨fun a b => ?_, fun a b c ha hb hc h1 h2 => ?_⟩
      · have e := this.neg a b
        simp only [standV, hd]
        simpa using e
      · have e := this.trans a b c ha hb hc
        simp only [standV, hd] at h1 h2 ⊢
        simp at e h1 h2 ⊢
        exact e h1 h2
    | true =>
      have := hk.flip.lex (ih w)
      refine ⟨fun a b => ?_, fun a b c ha hb hc h1 h2 => ?_⟩
      · have e := this.neg a b
        simp only [standV, hd]
        simpa using e
      · have e := this.trans a b c ha hb hc
        simp only [standV, hd] at h1 h2 ⊢
        simp at e h1 h2 ⊢
        exact e h1 h2
/-- rows whose values may be -/
def MRow := { l : List V // mayRow l }
def ltR (ks : List Key) (w : Int) (a b : MRow) : Bool := decide (standV ks w a.1 b.1 < 0)
theorem ltR_swo (ks : List Key) (w : Int) : Stb.SWO (ltR ks w) := by
  have P := stand_pre ks w
  refine ⟨fun a => ?_, fun a b c h1 h2 => ?_, fun a b c h1 h2 => ?_⟩
  · have := P.neg a.1 a.1
    exact decide_eq_false (by omega)
  · have h1 := of_decide_eq_true h1
    have h2 := of_decide_eq_true h2
    exact decide_eq_true (P.lt_le a.2 b.2 c.2 h1 (by omega))
  · have h1 := of_decide_eq_false h1
    have h2 := of_decide_eq_false h2
    have n1 := P.neg a.1 b.1
    have n2 := P.neg b.1 c.1
    have n3 := P.neg a.1 c.1
    have := P.trans c.1 b.1 a.1 c.2 b.2 a.2 (by omega) (by omega)
    exact decide_eq_false (by omega)

end Go.Proofs.YtdapnemcdgjeeaaGreatDoor.Ord
