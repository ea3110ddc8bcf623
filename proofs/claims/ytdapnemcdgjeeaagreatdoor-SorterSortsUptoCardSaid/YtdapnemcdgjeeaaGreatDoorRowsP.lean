/- How rows stand and how a row is written, in plain Lean. -/
import Derived.Test.YtdapnemcdgjeeaaGreatDoorPlain
import Derived.Lib.Join
set_option maxRecDepth 100000
set_option linter.unusedVariables false
set_option linter.unusedSimpArgs false
namespace Go.Proofs.YtdapnemcdgjeeaaGreatDoor.Val

/-- how two rows stand from a place on -/
def rowsFrom (cs : List Int) : Nat → List V → List V → Int
  | k, x :: a, y :: b => if cmp x y (cs.getD k 0) ≠ 0 then cmp x y (cs.getD k 0) else rowsFrom cs (k + 1) a b
  | _, a, b => Lib.compareInt (a.length : Int) (b.length : Int)
theorem rowsFrom_end (cs : List Int) (k : Nat) (a b : List V) (h : a = [] ∨ b = []) : rowsFrom cs k a b = Lib.compareInt (a.length : Int) (b.length : Int) := by
  rcases h with rfl | rfl
  · cases b <;> rfl
  · cases a <;> rfl
theorem rows_step (cs : List Int) (k : Nat) (a b : List V) (x y : V) (hx : a[k]? = some x) (hy : b[k]? = some y) :
    rowsFrom cs k (a.drop k) (b.drop k) = if cmp x y (cs.getD k 0) ≠ 0 then cmp x y (cs.getD k 0) else rowsFrom cs (k + 1) (a.drop (k + 1)) (b.drop (k + 1)) := by
  have dr {l : List V} {z : V} (h : l[k]? = some z) : l.drop k = z :: l.drop (k + 1) := by
    obtain ⟨hl, rfl⟩ := List.getElem?_eq_some_iff.1 h
    exact List.drop_eq_getElem_cons hl
  rw [dr hx, dr hy]
  rfl
theorem rows_end (cs : List Int) (k : Nat) (a b : List V) (h : ¬ (k < a.length ∧ k < b.length)) (ha : k ≤ a.length) (hb : k ≤ b.length) :
    rowsFrom cs k (a.drop k) (b.drop k) = Lib.compareInt (a.length : Int) (b.length : Int) := by
  rw [rowsFrom_end]
  · rw [List.length_drop, List.length_drop]
    have ea : ((a.length - k : Nat) : Int) = (a.length : Int) - (k : Int) := by omega
    have eb : ((b.length - k : Nat) : Int) = (b.length : Int) - (k : Int) := by omega
    rw [ea, eb]
    unfold Lib.compareInt
    by_cases h1 : (a.length : Int) < (b.length : Int)
    · rw [if_pos (show (a.length : Int) - (k : Int) < (b.length : Int) - (k : Int) by omega), if_pos h1]
    · rw [if_neg (show ¬ (a.length : Int) - (k : Int) < (b.length : Int) - (k : Int) by omega), if_neg h1]
      by_cases h2 : (a.length : Int) > (b.length : Int)
      · rw [if_pos (show (a.length : Int) - (k : Int) > (b.length : Int) - (k : Int) by omega), if_pos h2]
      · rw [if_neg (show ¬ (a.length : Int) - (k : Int) > (b.length : Int) - (k : Int) by omega), if_neg h2]
  · by_cases h1 : k < a.length
    · exact .inr (List.drop_of_length_le (by omega))
    · exact .inl (List.drop_of_length_le (by omega))

/-- the literals of values -/
def litsOf (vs : List V) : List (List UInt8) := vs.map fun v => (print v).1
/-- a row's literals, and the error's number -/
def printRow (vs : List V) (e : Nat) : List UInt8 × Nat := if e = 0 then (Lib.join (litsOf vs) [44], 0) else ([], e)
theorem litsOf_snoc {vs : List V} {k : Nat} {v : V} (h : vs[k]? = some v) : litsOf (vs.take (k + 1)) = litsOf (vs.take k) ++ [(print v).1] := by
  rw [List.take_add_one, h]; simp [litsOf]
theorem join_snoc (l : List (List UInt8)) (x sep : List UInt8) (h : l ≠ []) : Lib.join (l ++ [x]) sep = Lib.join l sep ++ sep ++ x := by
  cases l with
  | nil => exact absurd rfl h
  | cons y r =>
    rw [List.cons_append, Lib.join_cons, Lib.join_cons]
    simp [Lib.joinTail, List.append_assoc]
theorem print_len (v : V) (h : v.text.length ≤ 400) (h0 : -9223372036854775808 ≤ v.int) (h1 : v.int ≤ 9223372036854775807) : (print v).1.length ≤ 1000 := by
  unfold print
  split
  · split
    · simp
    · split
      · have := itoa_len v.int h0 h1; simp only; omega
      · split
        · have := Tok.dbl_len v.text; simp; omega
        · have := Tok.hexs_len v.text; simp; omega
  · simp
theorem print_short (v : V) (h0 : -9223372036854775808 ≤ v.int) (h1 : v.int ≤ 9223372036854775807) : (print v).1.length ≤ 1000 := by
  by_cases hm : may v = true
  · refine print_len v ?_ h0 h1
    have := may_iff.1 hm
    rcases this with h | h | h
    · rw [h.2.2]; simp
    · rw [h.2]; simp
    · exact h.2.2
  · rw [print_no (by simpa using hm)]; simp
theorem joinB_len (ws : List (List UInt8)) (B : Nat) (s : UInt8) (h : ∀ w ∈ ws, w.length ≤ B) : (Lib.join ws [s]).length ≤ ws.length * (B + 1) := by
  cases ws with
  | nil => simp [Lib.join_nil]
  | cons x r =>
    rw [Lib.join_cons, List.length_append]
    have hx := h x (by simp)
    have hr : (Lib.joinTail [s] r).length ≤ r.length * (B + 1) := by
      have hr' : ∀ w ∈ r, w.length ≤ B := fun w hw => h w (by simp [hw])
      clear h hx
      induction r with
      | nil => simp [Lib.joinTail]
      | cons y r ih =>
        have hy := hr' y (by simp)
        have := ih (fun w hw => hr' w (by simp [hw]))
        have e : Lib.joinTail [s] (y :: r) = s :: (y ++ Lib.joinTail [s] r) := rfl
        rw [e, List.length_cons, List.length_append, List.length_cons, Nat.add_mul, Nat.one_mul]
        omega
    rw [List.length_cons, Nat.add_mul, Nat.one_mul]
    omega

end Go.Proofs.YtdapnemcdgjeeaaGreatDoor.Val
