/- Tokens written, in plain Lean: what Print answers. -/
import Derived.Test.YtiiaamkmnbegdaaDoorTok4
import Derived.Lib.Replace
import Derived.Lib.Join
namespace Go.Proofs.YtiiaamkmnbegdaaDoor.Tok
set_option maxRecDepth 100000
set_option linter.unusedVariables false
set_option linter.unusedSimpArgs false

/-- quotes twice -/
def dbl : List UInt8 → List UInt8
  | [] => []
  | c :: r => if c.toNat = 39 then 39 :: 39 :: dbl r else c :: dbl r
theorem dbl_quote {c : UInt8} (r : List UInt8) (h : c.toNat = 39) : dbl (c :: r) = 39 :: 39 :: dbl r := by rw [dbl, if_pos h]
theorem dbl_byte {c : UInt8} (r : List UInt8) (h : c.toNat ≠ 39) : dbl (c :: r) = c :: dbl r := by rw [dbl, if_neg h]
theorem dbl_len (l : List UInt8) : (dbl l).length ≤ 2 * l.length := by
  induction l with
  | nil => simp [dbl]
  | cons c r ih => rw [dbl]; split <;> simp only [List.length_cons] <;> omega
theorem dbl_append (a b : List UInt8) : dbl (a ++ b) = dbl a ++ dbl b := by
  induction a with
  | nil => rfl
  | cons c r ih => rw [List.cons_append, dbl, dbl, ih]; split <;> rfl

theorem replaceK_dbl (l : List UInt8) : Lib.replaceK [39] [39, 39] (Lib.count l [39]) l = dbl l := by
  induction l with
  | nil => rw [Lib.count_miss (by simp [Lib.index])]; rfl
  | cons b r ih =>
    by_cases hb : b = 39
    · subst hb
      rw [Lib.count_cons_eq, Nat.add_comm, Lib.replaceK_hit _ _ _ _ 0 (by rw [Lib.index]; simp [List.isPrefixOf])]
      simp [dbl, ih]
    · rw [Lib.count_cons_ne _ _ _ hb]
      have hd : dbl (b :: r) = b :: dbl r := dbl_byte r (fun h => hb (UInt8.toNat_inj.1 h))
      rw [hd, ← ih]
      cases hk : Lib.count r [39] with
      | zero => rfl
      | succ k =>
        obtain ⟨i, hi⟩ := Lib.index_of_count (s := r) (old := [39]) (by omega)
        have hi' : Lib.index (b :: r) [39] = ((i + 1 : Nat) : Int) := by
          have hp : ([39] : List UInt8).isPrefixOf (b :: r) = false := by simp [List.isPrefixOf]; exact fun h => hb h.symm
          rw [Lib.index, hp, hi]
          have : ¬ ((i : Int) = -1) := by omega
          simp [this]
        rw [Lib.replaceK_hit _ _ _ _ _ hi', Lib.replaceK_hit _ _ _ _ _ hi]
        simp
theorem replaceAll_dbl (l : List UInt8) : Lib.replaceAll l [39] [39, 39] = dbl l := by
  rw [Lib.replaceAll, Lib.replace, if_neg (by decide), Lib.replaceNum, if_pos (by omega)]
  exact replaceK_dbl l

/-- a small digit to the base 16 -/
def dig (n : Nat) : UInt8 := if n < 10 then UInt8.ofNat (48 + n) else UInt8.ofNat (87 + n)
theorem dig_hex {n : Nat} (h : n < 16) : hex (dig n) = (n : Int) ∧ (dig n).toNat ≠ 39 := by
  have all : ∀ m : Fin 16, hex (dig m.val) = (m.val : Int) ∧ (dig m.val).toNat ≠ 39 := by decide
  exact all ⟨n, h⟩
/-- bytes as digits -/
def hexs : List UInt8 → List UInt8
  | [] => []
  | c :: r => dig (c.toNat / 16) :: dig (c.toNat % 16) :: hexs r
theorem hexs_len (l : List UInt8) : (hexs l).length = 2 * l.length := by
  induction l with
  | nil => rfl
  | cons c r ih => simp only [hexs, List.length_cons]; omega
theorem hexs_append (a b : List UInt8) : hexs (a ++ b) = hexs a ++ hexs b := by
  induction a with
  | nil => rfl
  | cons c r ih => rw [List.cons_append, hexs, hexs, ih]; rfl

theorem one_at (l : List UInt8) (i : Nat) : (one l i).1.at_ = i := by
  unfold one
  repeat' split
  all_goals rfl

/-- a token's text, or nothing -/
def written (k : Int) (t : List UInt8) : Option (List UInt8) :=
  if k = 3 then some (39 :: (dbl t ++ [39]))
  else if k = 4 then some (120 :: 39 :: (hexs t ++ [39]))
  else if k = 5 then (if runEnd digit t 0 = t.length then some (63 :: t) else none)
  else if k = 1 ∨ k = 2 ∨ k = 6 then (if t ≠ [] ∧ (one t 0).2.2 = true ∧ (one t 0).2.1 = t.length ∧ ((one t 0).1.kind : Int) = k then some t else none)
  else none
theorem written_text (t : List UInt8) : written 3 t = some (39 :: (dbl t ++ [39])) := by rw [written, if_pos rfl]
theorem written_blob (t : List UInt8) : written 4 t = some (120 :: 39 :: (hexs t ++ [39])) := by rw [written, if_neg (by decide), if_pos rfl]
theorem written_param (t : List UInt8) : written 5 t = if runEnd digit t 0 = t.length then some (63 :: t) else none := by rw [written, if_neg (by decide), if_neg (by decide), if_pos rfl]
theorem written_as {k : Int} (t : List UInt8) (h : k = 1 ∨ k = 2 ∨ k = 6) : written k t = if t ≠ [] ∧ (one t 0).2.2 = true ∧ (one t 0).2.1 = t.length ∧ ((one t 0).1.kind : Int) = k then some t else none := by
  rw [written, if_neg (by omega), if_neg (by omega), if_neg (by omega), if_pos h]
theorem written_no {k : Int} (t : List UInt8) (h : k < 1 ∨ 6 < k) : written k t = none := by
  rw [written, if_neg (by omega), if_neg (by omega), if_neg (by omega), if_neg (by omega)]
theorem written_len {k : Int} {t x : List UInt8} (h : written k t = some x) : x.length ≤ 2 * t.length + 3 := by
  have h1 := dbl_len t
  have h2 := hexs_len t
  unfold written at h
  split at h
  · cases h; simp only [List.length_cons, List.length_append, List.length_nil]; omega
  · split at h
    · cases h; simp only [List.length_cons, List.length_append, List.length_nil]; omega
    · split at h
      · split at h
        · cases h; simp only [List.length_cons]; omega
        · cases h
      · split at h
        · split at h
          · cases h; omega
          · cases h
        · cases h

/-- a token that is given: of any kind, at any place -/
structure G where
  kind : Int
  at_ : Int
  text : List UInt8

/-- all texts, or nothing -/
def wall : List G → Option (List (List UInt8))
  | [] => some []
  | g :: r => match written g.kind g.text, wall r with
    | some w, some ws => some (w :: ws)
    | _, _ => none
theorem wall_nil : wall [] = some [] := rfl
theorem wall_cons {g : G} {r : List G} {w : List UInt8} {ws : List (List UInt8)} (h : written g.kind g.text = some w) (hr : wall r = some ws) : wall (g :: r) = some (w :: ws) := by
  simp only [wall, h, hr]
theorem wall_cons_inv {g : G} {r : List G} {ws : List (List UInt8)} (h : wall (g :: r) = some ws) : ∃ w ws', written g.kind g.text = some w ∧ wall r = some ws' ∧ ws = w :: ws' := by
  simp only [wall] at h
  cases h1 : written g.kind g.text with
  | none => rw [h1] at h; cases h
  | some w =>
    cases h2 : wall r with
    | none => rw [h1, h2] at h; cases h
    | some ws' => rw [h1, h2] at h; cases h; exact ⟨w, ws', rfl, rfl, rfl⟩
theorem wall_snoc {l : List G} {g : G} {w : List UInt8} {ws : List (List UInt8)} (h : wall l = some ws) (hg : written g.kind g.text = some w) : wall (l ++ [g]) = some (ws ++ [w]) := by
  induction l generalizing ws with
  | nil => cases h; exact wall_cons hg rfl
  | cons a r ih =>
    obtain ⟨w', ws', h1, h2, rfl⟩ := wall_cons_inv h
    exact wall_cons h1 (ih h2)
theorem wall_none {l : List G} {g : G} {i : Nat} (hi : l[i]? = some g) (hg : written g.kind g.text = none) : wall l = none := by
  induction l generalizing i with
  | nil => simp at hi
  | cons a r ih =>
    cases i with
    | zero => simp at hi; subst hi; simp only [wall, hg]
    | succ i =>
      simp at hi
      simp only [wall, ih hi]
      split <;> simp_all
theorem wall_len {l : List G} {ws : List (List UInt8)} (h : wall l = some ws) : ws.length = l.length := by
  induction l generalizing ws with
  | nil => cases h; rfl
  | cons a r ih =>
    obtain ⟨w', ws', h1, h2, rfl⟩ := wall_cons_inv h
    simp [ih h2]

/-- Print: the text and the error's number -/
def print (l : List G) : List UInt8 × Nat := match wall l with
  | some ws => (Lib.join ws [32], 0)
  | none => ([], 2)
theorem print_ok {l : List G} {ws : List (List UInt8)} (h : wall l = some ws) : print l = (Lib.join ws [32], 0) := by rw [print, h]
theorem print_bad {l : List G} (h : wall l = none) : print l = ([], 2) := by rw [print, h]

theorem join_snoc {ws : List (List UInt8)} (w sep : List UInt8) (h : ws ≠ []) : Lib.join (ws ++ [w]) sep = Lib.join ws sep ++ sep ++ w := by
  cases ws with
  | nil => exact absurd rfl h
  | cons x r => rw [List.cons_append, Lib.join_cons, Lib.join_cons, Lib.joinTail, Lib.joinTail]; simp
theorem join_len (ws : List (List UInt8)) (B : Nat) (h : ∀ w ∈ ws, w.length ≤ B) : (Lib.join ws [32]).length ≤ ws.length * (B + 1) := by
  cases ws with
  | nil => simp [Lib.join_nil]
  | cons x r =>
    rw [Lib.join_cons, List.length_append]
    have hx := h x (by simp)
    have hr : (Lib.joinTail [32] r).length ≤ r.length * (B + 1) := by
      have hr' : ∀ w ∈ r, w.length ≤ B := fun w hw => h w (by simp [hw])
      clear h hx
      induction r with
      | nil => simp [Lib.joinTail]
      | cons y r ih =>
        have hy := hr' y (by simp)
        have := ih (fun w hw => hr' w (by simp [hw]))
        have e : Lib.joinTail [32] (y :: r) = 32 :: (y ++ Lib.joinTail [32] r) := rfl
        rw [e, List.length_cons, List.length_append, List.length_cons, Nat.add_mul, Nat.one_mul]
        omega
    rw [List.length_cons, Nat.add_mul, Nat.one_mul]
    omega

theorem runEnd_cons (p : UInt8 → Bool) (c : UInt8) (t : List UInt8) (i : Nat) : runEnd p (c :: t) (i + 1) = runEnd p t i + 1 := by
  induction hn : t.length - i generalizing i with
  | zero => rw [runEnd_end (by simp; omega), runEnd_end (by omega)]
  | succ n ih =>
    have hi : i < t.length := by omega
    have hi' : i + 1 < (c :: t).length := by simp; omega
    cases hp : p t[i] with
    | false => rw [runEnd_stop hi hp, runEnd_stop hi' (by simpa using hp)]
    | true => rw [← runEnd_step hi hp, ← runEnd_step hi' (by simpa using hp)]; exact ih (i + 1) (by omega)

end Go.Proofs.YtiiaamkmnbegdaaDoor.Tok
