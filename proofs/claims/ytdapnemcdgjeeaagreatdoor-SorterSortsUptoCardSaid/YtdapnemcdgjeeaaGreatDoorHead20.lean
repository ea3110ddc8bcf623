/- Walks: the head of the laws of layer 20. -/
import Derived.Test.YtdapnemcdgjeeaaGreatDoorCmpd
import Derived.Test.YtdapnemcdgjeeaaGreatDoorSorB
set_option maxRecDepth 100000
set_option linter.unusedVariables false
set_option linter.unusedSimpArgs false
namespace Go.Proofs.YtdapnemcdgjeeaaGreatDoor
open Go.RowKit

theorem hint_any (n : Int) (w : World) : Calls Tryz.prog 30 #[.int .i64 n] w fun e w' => e = .returned (.agg #[.int .i64 1, .int .i64 n, .string ⟨#[]⟩]) ∧ Below w.heap.size w w' := by
  go_enter Tryz.func30, Tryz.ntmps30
  go_wp2
  exact bodyPost_ret (v := .agg #[.int .i64 1, .int .i64 n, .string ⟨#[]⟩]) (by simp only [results, Tryz.results30]; go_simp) rfl ⟨rfl, (Below.refl _ _).alloc (Nat.le_refl _) _⟩
theorem one_at (w : World) (n : Int) : ValsAt (w.alloc (.cells #[.int .i64 1, .int .i64 n, .string ⟨#[]⟩] 33)) (some ⟨w.heap.size, 0, none⟩) 1 [⟨1, n, []⟩] := by
  refine ⟨rfl, .inr ⟨w.heap.size, 0, rfl, by simp, fun k v hk => ?_⟩⟩
  obtain ⟨x0, x1, x2, _⟩ := cells3 (Below.refl (w.alloc (.cells #[.int .i64 1, .int .i64 n, .string ⟨#[]⟩] 33)).heap.size (w.alloc (.cells #[.int .i64 1, .int .i64 n, .string ⟨#[]⟩] 33))) (by simp) (heap_new w (.cells #[.int .i64 1, .int .i64 n, .string ⟨#[]⟩] 33))
  match k, hk with
  | 0, hk =>
    simp only [List.getElem?_cons_zero, Option.some.injEq] at hk
    subst hk
    exact ⟨x0, x1, x2⟩
  | k + 1, hk => simp at hk
/-- the head's three rows -/
def headR : List (List Val.V) := [[⟨1, 2, []⟩], [⟨1, 1, []⟩], [⟨1, 2, []⟩]]
theorem head_rows (w w1 w2 w3 : World) (h1 : w.heap.size ≤ w1.heap.size) (h2 : Below (w1.heap.size + 1) (w1.alloc (.cells #[.int .i64 1, .int .i64 2, .string ⟨#[]⟩] 33)) w2) (h3 : Below (w2.heap.size + 1) (w2.alloc (.cells #[.int .i64 1, .int .i64 1, .string ⟨#[]⟩] 33)) w3) :
    RowsAt ((w3.alloc (.cells #[.int .i64 1, .int .i64 2, .string ⟨#[]⟩] 33)).alloc (.cells #[.slice (some ⟨w1.heap.size, 0, none⟩) 1 1, .slice (some ⟨w2.heap.size, 0, none⟩) 1 1, .slice (some ⟨w3.heap.size, 0, none⟩) 1 1] 30)) (some ⟨w3.heap.size + 1, 0, none⟩) 3 headR := by
  have s2 := h2.size
  have s3 := h3.size
  simp at s2 s3
  have n3 := heap_new2 w3 (.cells #[.int .i64 1, .int .i64 2, .string ⟨#[]⟩] 33) (.cells #[.slice (some ⟨w1.heap.size, 0, none⟩) 1 1, .slice (some ⟨w2.heap.size, 0, none⟩) 1 1, .slice (some ⟨w3.heap.size, 0, none⟩) 1 1] 30)
  have v1 := (one_at w1 2).below (by simpa using h2)
  have v2 := (one_at w2 1).below (by simpa using h3)
  have v1 := v1.below ((Below.refl _ _).alloc (Nat.le_refl _) (.cells #[.int .i64 1, .int .i64 1, .string ⟨#[]⟩] 33))
  have v1 := v1.below (by simpa using h3)
  have a1 (o : Obj) := v1.below ((Below.refl _ _).alloc (Nat.le_refl _) o)
  have a2 (o : Obj) := v2.below ((Below.refl _ _).alloc (Nat.le_refl _) o)
  have a3 := one_at w3 2
  refine ⟨rfl, .inr ⟨w3.heap.size + 1, 0, rfl, by simp, fun k r hk => ?_⟩⟩
  match k, hk with
  | 0, hk =>
    simp only [headR, List.getElem?_cons_zero, Option.some.injEq] at hk
    subst hk
    exact ⟨_, 1, cell_of_row _ _ _ _ _ _ n3, ⟨Nat.le_refl _, fun h => by cases h⟩, (a1 _).below ((Below.refl _ _).alloc (Nat.le_refl _) _)⟩
  | 1, hk =>
    simp only [headR, List.getElem?_cons_zero, List.getElem?_cons_succ, Option.some.injEq] at hk
    subst hk
    exact ⟨_, 1, cell_of_row _ _ _ _ _ _ n3, ⟨Nat.le_refl _, fun h => by cases h⟩, (a2 _).below ((Below.refl _ _).alloc (Nat.le_refl _) _)⟩
  | 2, hk =>
    simp only [headR, List.getElem?_cons_zero, List.getElem?_cons_succ, Option.some.injEq] at hk
    subst hk
    exact ⟨_, 1, cell_of_row _ _ _ _ _ _ n3, ⟨Nat.le_refl _, fun h => by cases h⟩, a3.below ((Below.refl _ _).alloc (Nat.le_refl _) _)⟩
  | k + 3, hk => simp [headR] at hk
theorem headR_sort : sortV [] 1 headR = [[⟨1, 1, []⟩], [⟨1, 2, []⟩], [⟨1, 2, []⟩]] := by decide +kernel
theorem headR_dd : (Sets.dd headR).length = 2 := by decide +kernel
theorem headR_may : ∀ r ∈ headR, Ord.mayRow r := by
  intro r hr v hv
  simp only [headR, List.mem_cons, List.not_mem_nil, or_false] at hr
  rcases hr with rfl | rfl | rfl <;> (simp only [List.mem_cons, List.not_mem_nil, or_false] at hv; subst hv; decide)
theorem headR_b : RowsB headR := by
  refine ⟨by decide, fun r hr => ?_⟩
  simp only [headR, List.mem_cons, List.not_mem_nil, or_false] at hr
  rcases hr with rfl | rfl | rfl <;> exact ⟨by decide, fun v hv => by simp only [List.mem_cons, List.not_mem_nil, or_false] at hv; subst hv; decide⟩
theorem headR_i : RowsI headR := by
  intro r hr v hv
  simp only [headR, List.mem_cons, List.not_mem_nil, or_false] at hr
  rcases hr with rfl | rfl | rfl <;> (simp only [List.mem_cons, List.not_mem_nil, or_false] at hv; subst hv; exact ⟨by decide, by decide, by decide⟩)
/-- the first number of rows that begin so -/
theorem rows_one {W : World} {q : Option Addr} {N : Nat} {n : Int} {l : List (List Val.V)} (h : RowsAt W q N ([⟨1, n, []⟩] :: l)) : ∃ b off b' off' c, q = some ⟨b, off, none⟩ ∧ b < W.heap.size ∧ b' < W.heap.size ∧ W.cell? ⟨b, off, none⟩ = some (.slice (some ⟨b', off', none⟩) 1 c) ∧ W.cell? ⟨b', off' + 1, none⟩ = some (.int .i64 n) := by
  rcases h.2 with h0 | ⟨b, off, rfl, hb, hc⟩
  · cases h0
  · obtain ⟨q', c, c0, _, hv⟩ := hc 0 _ rfl
    rcases hv.2 with h0 | ⟨b', off', rfl, hb', hc'⟩
    · cases h0
    · exact ⟨b, off, b', off', c, rfl, hb, hb', c0, (hc' 0 _ rfl).2.1⟩
theorem head_dist (T : Lib.PrintTabs) (p : Option Addr) (c : Nat) (w : World) (hR : RowsAt w p 3 headR) (hT : Tabs T w) : Calls Tryz.prog 31 #[.slice p 3 c] w fun e w' => (∃ q c', e = .returned (.slice q 2 c')) ∧ Below w.heap.size w w' := by
  refine (sdistinct_is T p 3 c headR w hR headR_b headR_i hT).mono ?_
  rintro e w' ⟨q, c', he, _, hb⟩
  rw [headR_dd] at he
  exact ⟨⟨q, c', he⟩, hb⟩
theorem head_comp (T : Lib.PrintTabs) (p : Option Addr) (c : Nat) (w : World) (hR : RowsAt w p 3 headR) (hT : Tabs T w) : Calls Tryz.prog 32 #[.int .i64 0, .slice p 3 c, .slice p 3 c] w fun e w' => (∃ q n c', e = .returned (.tuple #[.slice q n c', .int .i64 2])) ∧ Below w.heap.size w w' := by
  refine (scompound_is T 0 p 3 c p 3 c headR headR w hR hR headR_b headR_b (by omega) (by omega) headR_i headR_i hT).mono ?_
  rintro e w' ⟨q, c', he, _, hb⟩
  exact ⟨⟨q, _, c', he⟩, hb⟩
set_option maxHeartbeats 1000000 in
theorem head_any (T : Lib.PrintTabs) (w : World) (hT : Tabs T w) : Calls Tryz.prog 8 #[] w fun e w' => e = .returned (.bool true) ∧ Below w.heap.size w w' := by
  have hK : KeysAt w none 0 [] := ⟨rfl, .inl rfl⟩
  replace hT := Lib.hid hT
  go_enter Tryz.func8, Tryz.ntmps8
  go_wp2_with (first
    | (go_at_call_of 30 (Value.int IntKind.i64 1); refine (hint_any _ _).mono ?_; rintro e w2 ⟨rfl, hb2⟩)
    | (go_at_call_of 30 (Value.int IntKind.i64 2); first
      | (have tok := hb2; refine (hint_any _ _).mono ?_; rintro e w3 ⟨rfl, hb3⟩; have s1 := hb1.size; have s2 := hb2.size; have s3 := hb3.size; have hR := head_rows w w1 w2 w3 s1 (by simpa using hb2) (by simpa using hb3); have hB : Below w.heap.size w ((w3.alloc (.cells #[.int .i64 1, .int .i64 2, .string ⟨#[]⟩] 33)).alloc (.cells #[.slice (some ⟨w1.heap.size, 0, none⟩) 1 1, .slice (some ⟨w2.heap.size, 0, none⟩) 1 1, .slice (some ⟨w3.heap.size, 0, none⟩) 1 1] 30)) := ((((hb1.alloc s1 _).trans (hb2.mono (by simp; omega))).alloc (by simp at s2; omega) _).trans (hb3.mono (by simp at s2 ⊢; omega)) |>.alloc (by simp at s2 s3; omega) _).alloc (by simp at s2 s3 ⊢; omega) _)
      | (refine (hint_any _ _).mono ?_; rintro e w1 ⟨rfl, hb1⟩))
    | (go_at_call 12; go_loud (refine (ssort_is _ 3 3 headR none 0 0 [] 1 _ hR headR_b headR_may ⟨rfl, .inl rfl⟩ (by omega)).mono ?_; rintro e w4 ⟨q4, c4, rfl, hs4, hR4, hb4⟩; rw [headR_sort] at hR4; have hRb := hR.below hb4; have hT4 := hT.out.below (hB.trans (hb4.mono hB.size))))
    | (go_at_call 31; refine (head_dist T _ 3 w4 hRb hT4).mono ?_; rintro e w5 ⟨⟨q5, c5, rfl⟩, hb5⟩; have hRc := hRb.below hb5; have hT5 := hT4.below hb5)
    | (go_at_call 32; refine (head_comp T _ 3 w5 hRc hT5).mono ?_; rintro e w6 ⟨⟨q6, n6, c6, rfl⟩, hb6⟩; obtain ⟨b, off, b', off', c', rfl, l1, l2, c0, c1⟩ := rows_one ((hR4.below hb5).below hb6)))
  go_ret
  exact ⟨rfl, ((hB.trans (hb4.mono hB.size)).trans (hb5.mono (Nat.le_trans hB.size hb4.size))).trans (hb6.mono (Nat.le_trans (Nat.le_trans hB.size hb4.size) hb5.size))⟩
end Go.Proofs.YtdapnemcdgjeeaaGreatDoor
