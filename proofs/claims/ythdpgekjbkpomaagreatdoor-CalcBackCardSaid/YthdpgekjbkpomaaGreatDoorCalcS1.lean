/- Walks: a type's affinity, a value as one of a type. -/
import Derived.Test.YthdpgekjbkpomaaGreatDoorEqual
import Derived.Test.YthdpgekjbkpomaaGreatDoorCalcM
import Derived.Test.YthdpgekjbkpomaaGreatDoorCalcR2
set_option maxRecDepth 100000
set_option linter.unusedVariables false
set_option linter.unusedSimpArgs false
namespace Go.Proofs.YthdpgekjbkpomaaGreatDoor
open Go.RowKit

theorem text_field (k n : Int) (t : ByteArray) (w : World) : (Instr.field 24 (.agg #[.int .i64 k, .int .i64 n, .string t]) 2).run Tryz.prog w = .ok (.string t) w := by kernel_rfl
/-- are two names alike, capitals apart -/
def isT (name s : ByteArray) : Bool := Val.texts name.data.toList s.data.toList 1 == 0
theorem isT_iff (name s : ByteArray) : isT name s = true ↔ Txt.fold name.data.toList 1 = Txt.fold s.data.toList 1 := by
  rw [isT, beq_iff_eq, Val.texts, Val.cb_zero]
attribute [irreducible] isT
theorem affis_any (name s : ByteArray) (g : Nat) (w : World) (hg : w.cell? ⟨g, 0, none⟩ = some (.string name)) (hn : name.size ≤ 1048576) (hs : s.size ≤ 1048576) :
    Calls Tryz.prog 65 #[.string s, .pointer (some ⟨g, 0, none⟩)] w fun e w' => e = .returned (.bool (isT name s)) ∧ Below w.heap.size w w' := by
  have hq : Hid ((Val.texts name.data.toList s.data.toList 1 == 0) = isT name s) := Lib.hid (by unfold isT; rfl)
  go_enter Tryz.func65, Tryz.ntmps65
  go_wp2_with (go_at_call 66; refine (vequal_is _ _ _ _ hn hs _ hq).mono ?_; rintro e w1 ⟨rfl, hb1⟩)
  go_ret
  exact ⟨rfl, hb1⟩
theorem keepN {w0 W W' : World} {g : Nat} {x : Value} (h : W.cell? ⟨g, 0, none⟩ = some x ∧ g < W.heap.size ∧ w0.heap.size ≤ W.heap.size ∧ Below w0.heap.size w0 W) (hb : Below W.heap.size W W') :
    W'.cell? ⟨g, 0, none⟩ = some x ∧ g < W'.heap.size ∧ w0.heap.size ≤ W'.heap.size ∧ Below w0.heap.size w0 W' := by
  obtain ⟨h0, h1, h2, h3⟩ := h
  exact ⟨(hb.cell (p := ⟨g, 0, none⟩) h1).trans h0, Nat.lt_of_lt_of_le h1 hb.size, Nat.le_trans h2 hb.size, below_step h3 h2 hb⟩
/-- what a type's affinity is, as an ending -/
def AffP (f : Int) (ok : Bool) (w : World) (e : Ending) (w' : World) : Prop := e = .returned (.tuple #[.int .i64 f, .bool ok]) ∧ Below w.heap.size w w'
theorem caffof_integer (name : ByteArray) (w : World) (hn : name.size ≤ 1048576) (q0 : isT name (⟨#[73, 78, 84, 69, 71, 69, 82]⟩ : ByteArray) = true) : Calls Tryz.prog 28 #[.string name] w (AffP 1 true w) := by
  have hC : (w.alloc (.cells #[.string name] 9)).cell? ⟨w.heap.size, 0, none⟩ = some (.string name) ∧ w.heap.size < (w.alloc (.cells #[.string name] 9)).heap.size ∧ w.heap.size ≤ (w.alloc (.cells #[.string name] 9)).heap.size ∧ Below w.heap.size w (w.alloc (.cells #[.string name] 9)) :=
    ⟨cell_of_row _ _ 0 _ 9 _ (heap_new w (.cells #[.string name] 9)), by simp, by simp, below_new _ _⟩
  go_enter Tryz.func28, Tryz.ntmps28
  go_wp2_with (go_at_call 65; refine (affis_any name _ _ _ hC.1 hn (by decide)).mono ?_; rintro e w1 ⟨rfl, hb1⟩; replace hC := keepN hC hb1; obtain ⟨hc, hlt, _, hB⟩ := id hC)
  go_ret2
  exact ⟨rfl, hB⟩
theorem caffof_int (name : ByteArray) (w : World) (hn : name.size ≤ 1048576) (q0 : isT name (⟨#[73, 78, 84, 69, 71, 69, 82]⟩ : ByteArray) = false) (q1 : isT name (⟨#[73, 78, 84]⟩ : ByteArray) = true) : Calls Tryz.prog 28 #[.string name] w (AffP 1 true w) := by
  have hC : (w.alloc (.cells #[.string name] 9)).cell? ⟨w.heap.size, 0, none⟩ = some (.string name) ∧ w.heap.size < (w.alloc (.cells #[.string name] 9)).heap.size ∧ w.heap.size ≤ (w.alloc (.cells #[.string name] 9)).heap.size ∧ Below w.heap.size w (w.alloc (.cells #[.string name] 9)) :=
    ⟨cell_of_row _ _ 0 _ 9 _ (heap_new w (.cells #[.string name] 9)), by simp, by simp, below_new _ _⟩
  go_enter Tryz.func28, Tryz.ntmps28
  go_wp2_with (go_at_call 65; refine (affis_any name _ _ _ hC.1 hn (by decide)).mono ?_; rintro e w1 ⟨rfl, hb1⟩; replace hC := keepN hC hb1; obtain ⟨hc, hlt, _, hB⟩ := id hC)
  go_ret2
  exact ⟨rfl, hB⟩
theorem caffof_text (name : ByteArray) (w : World) (hn : name.size ≤ 1048576) (q0 : isT name (⟨#[73, 78, 84, 69, 71, 69, 82]⟩ : ByteArray) = false) (q1 : isT name (⟨#[73, 78, 84]⟩ : ByteArray) = false) (q2 : isT name (⟨#[84, 69, 88, 84]⟩ : ByteArray) = true) : Calls Tryz.prog 28 #[.string name] w (AffP 2 true w) := by
  have hC : (w.alloc (.cells #[.string name] 9)).cell? ⟨w.heap.size, 0, none⟩ = some (.string name) ∧ w.heap.size < (w.alloc (.cells #[.string name] 9)).heap.size ∧ w.heap.size ≤ (w.alloc (.cells #[.string name] 9)).heap.size ∧ Below w.heap.size w (w.alloc (.cells #[.string name] 9)) :=
    ⟨cell_of_row _ _ 0 _ 9 _ (heap_new w (.cells #[.string name] 9)), by simp, by simp, below_new _ _⟩
  go_enter Tryz.func28, Tryz.ntmps28
  go_wp2_with (go_at_call 65; refine (affis_any name _ _ _ hC.1 hn (by decide)).mono ?_; rintro e w1 ⟨rfl, hb1⟩; replace hC := keepN hC hb1; obtain ⟨hc, hlt, _, hB⟩ := id hC)
  go_ret2
  exact ⟨rfl, hB⟩
theorem caffof_blob (name : ByteArray) (w : World) (hn : name.size ≤ 1048576) (q0 : isT name (⟨#[73, 78, 84, 69, 71, 69, 82]⟩ : ByteArray) = false) (q1 : isT name (⟨#[73, 78, 84]⟩ : ByteArray) = false) (q2 : isT name (⟨#[84, 69, 88, 84]⟩ : ByteArray) = false) (q3 : isT name (⟨#[66, 76, 79, 66]⟩ : ByteArray) = true) : Calls Tryz.prog 28 #[.string name] w (AffP 0 true w) := by
  have hC : (w.alloc (.cells #[.string name] 9)).cell? ⟨w.heap.size, 0, none⟩ = some (.string name) ∧ w.heap.size < (w.alloc (.cells #[.string name] 9)).heap.size ∧ w.heap.size ≤ (w.alloc (.cells #[.string name] 9)).heap.size ∧ Below w.heap.size w (w.alloc (.cells #[.string name] 9)) :=
    ⟨cell_of_row _ _ 0 _ 9 _ (heap_new w (.cells #[.string name] 9)), by simp, by simp, below_new _ _⟩
  go_enter Tryz.func28, Tryz.ntmps28
  go_wp2_with (go_at_call 65; refine (affis_any name _ _ _ hC.1 hn (by decide)).mono ?_; rintro e w1 ⟨rfl, hb1⟩; replace hC := keepN hC hb1; obtain ⟨hc, hlt, _, hB⟩ := id hC)
  go_ret2
  exact ⟨rfl, hB⟩
theorem caffof_empty (name : ByteArray) (w : World) (hn : name.size ≤ 1048576) (q0 : isT name (⟨#[73, 78, 84, 69, 71, 69, 82]⟩ : ByteArray) = false) (q1 : isT name (⟨#[73, 78, 84]⟩ : ByteArray) = false) (q2 : isT name (⟨#[84, 69, 88, 84]⟩ : ByteArray) = false) (q3 : isT name (⟨#[66, 76, 79, 66]⟩ : ByteArray) = false) (qe : (name.toList == []) = true) : Calls Tryz.prog 28 #[.string name] w (AffP 0 true w) := by
  have hC : (w.alloc (.cells #[.string name] 9)).cell? ⟨w.heap.size, 0, none⟩ = some (.string name) ∧ w.heap.size < (w.alloc (.cells #[.string name] 9)).heap.size ∧ w.heap.size ≤ (w.alloc (.cells #[.string name] 9)).heap.size ∧ Below w.heap.size w (w.alloc (.cells #[.string name] 9)) :=
    ⟨cell_of_row _ _ 0 _ 9 _ (heap_new w (.cells #[.string name] 9)), by simp, by simp, below_new _ _⟩
  go_enter Tryz.func28, Tryz.ntmps28
  go_wp2_with (go_at_call 65; refine (affis_any name _ _ _ hC.1 hn (by decide)).mono ?_; rintro e w1 ⟨rfl, hb1⟩; replace hC := keepN hC hb1; obtain ⟨hc, hlt, _, hB⟩ := id hC)
  go_ret2
  exact ⟨rfl, hB⟩
theorem caffof_none (name : ByteArray) (w : World) (hn : name.size ≤ 1048576) (q0 : isT name (⟨#[73, 78, 84, 69, 71, 69, 82]⟩ : ByteArray) = false) (q1 : isT name (⟨#[73, 78, 84]⟩ : ByteArray) = false) (q2 : isT name (⟨#[84, 69, 88, 84]⟩ : ByteArray) = false) (q3 : isT name (⟨#[66, 76, 79, 66]⟩ : ByteArray) = false) (qe : (name.toList == []) = false) : Calls Tryz.prog 28 #[.string name] w (AffP 0 false w) := by
  have hC : (w.alloc (.cells #[.string name] 9)).cell? ⟨w.heap.size, 0, none⟩ = some (.string name) ∧ w.heap.size < (w.alloc (.cells #[.string name] 9)).heap.size ∧ w.heap.size ≤ (w.alloc (.cells #[.string name] 9)).heap.size ∧ Below w.heap.size w (w.alloc (.cells #[.string name] 9)) :=
    ⟨cell_of_row _ _ 0 _ 9 _ (heap_new w (.cells #[.string name] 9)), by simp, by simp, below_new _ _⟩
  go_enter Tryz.func28, Tryz.ntmps28
  go_wp2_with (go_at_call 65; refine (affis_any name _ _ _ hC.1 hn (by decide)).mono ?_; rintro e w1 ⟨rfl, hb1⟩; replace hC := keepN hC hb1; obtain ⟨hc, hlt, _, hB⟩ := id hC)
  go_ret2
  exact ⟨rfl, hB⟩
theorem isT_true {name s : ByteArray} {l : List UInt8} (h : Txt.fold name.data.toList 1 = l) (hs : Txt.fold s.data.toList 1 = l) : isT name s = true := (isT_iff _ _).2 (h.trans hs.symm)
theorem isT_false {name s : ByteArray} {l : List UInt8} (h : Txt.fold name.data.toList 1 ≠ l) (hs : Txt.fold s.data.toList 1 = l) : isT name s = false := by
  cases hh : isT name s with
  | false => rfl
  | true => exact absurd (((isT_iff _ _).1 hh).trans hs) h
theorem empty_beq {name : ByteArray} (h : name.data.toList = []) : (name.toList == []) = true := by rw [Lib.toList_data, h]; rfl
theorem nonempty_beq {name : ByteArray} (h : name.data.toList ≠ []) : (name.toList == []) = false := by
  rw [Lib.toList_data]; simpa using h
/-- WHAT AffOf ANSWERS -/
theorem caffof_is (name : ByteArray) (w : World) (hn : name.size ≤ 1048576) (f : Int) (ok : Bool) (hv : Hid (Val.affOf name.data.toList = (f, ok))) : Calls Tryz.prog 28 #[.string name] w (AffP f ok w) := by
  have hv' := hv.out
  rw [Val.affOf] at hv'
  have e1 : Txt.fold (⟨#[73, 78, 84, 69, 71, 69, 82]⟩ : ByteArray).data.toList 1 = [105, 110, 116, 101, 103, 101, 114] := by decide
  have e2 : Txt.fold (⟨#[73, 78, 84]⟩ : ByteArray).data.toList 1 = [105, 110, 116] := by decide
  have e3 : Txt.fold (⟨#[84, 69, 88, 84]⟩ : ByteArray).data.toList 1 = [116, 101, 120, 116] := by decide
  have e4 : Txt.fold (⟨#[66, 76, 79, 66]⟩ : ByteArray).data.toList 1 = [98, 108, 111, 98] := by decide
  by_cases h1 : Txt.fold name.data.toList 1 = [105, 110, 116, 101, 103, 101, 114]
  · rw [if_pos (.inl h1), Prod.mk.injEq] at hv'
    obtain ⟨rfl, rfl⟩ := hv'
    exact caffof_integer name w hn (isT_true h1 e1)
  · by_cases h2 : Txt.fold name.data.toList 1 = [105, 110, 116]
    · rw [if_pos (.inr h2), Prod.mk.injEq] at hv'
      obtain ⟨rfl, rfl⟩ := hv'
      exact caffof_int name w hn (isT_false h1 e1) (isT_true h2 e2)
    · rw [if_neg (by rintro (h | h) <;> contradiction)] at hv'
      by_cases h3 : Txt.fold name.data.toList 1 = [116, 101, 120, 116]
      · rw [if_pos h3, Prod.mk.injEq] at hv'
        obtain ⟨rfl, rfl⟩ := hv'
        exact caffof_text name w hn (isT_false h1 e1) (isT_false h2 e2) (isT_true h3 e3)
      · rw [if_neg h3, Prod.mk.injEq] at hv'
        obtain ⟨rfl, h5⟩ := hv'
        by_cases h4 : Txt.fold name.data.toList 1 = [98, 108, 111, 98]
        · rw [decide_eq_true (.inl h4)] at h5
          subst h5
          exact caffof_blob name w hn (isT_false h1 e1) (isT_false h2 e2) (isT_false h3 e3) (isT_true h4 e4)
        · by_cases h6 : name.data.toList = []
          · rw [decide_eq_true (.inr h6)] at h5
            subst h5
            exact caffof_empty name w hn (isT_false h1 e1) (isT_false h2 e2) (isT_false h3 e3) (isT_false h4 e4) (empty_beq h6)
          · rw [decide_eq_false (by rintro (h | h) <;> contradiction)] at h5
            subst h5
            exact caffof_none name w hn (isT_false h1 e1) (isT_false h2 e2) (isT_false h3 e3) (isT_false h4 e4) (nonempty_beq h6)
theorem raffof_integer (name : ByteArray) (w : World) (hn : name.size ≤ 1048576) (u : ByteArray) (hu : Hid (bs (Txt.fold name.data.toList 1) = u)) (q0 : (u.toList == [105, 110, 116, 101, 103, 101, 114]) = true) : Calls Tryz.prog 29 #[.string name] w (AffP 1 true w) := by
  go_enter Tryz.func29, Tryz.ntmps29
  go_wp2_with (go_at_call 67; refine (rfold_is _ _ _ _ hn hu).mono ?_; rintro e w1 ⟨rfl, hb1⟩)
  go_ret2
  exact ⟨rfl, hb1⟩
theorem raffof_int (name : ByteArray) (w : World) (hn : name.size ≤ 1048576) (u : ByteArray) (hu : Hid (bs (Txt.fold name.data.toList 1) = u)) (q0 : (u.toList == [105, 110, 116, 101, 103, 101, 114]) = false) (q1 : (u.toList == [105, 110, 116]) = true) : Calls Tryz.prog 29 #[.string name] w (AffP 1 true w) := by
  go_enter Tryz.func29, Tryz.ntmps29
  go_wp2_with (go_at_call 67; refine (rfold_is _ _ _ _ hn hu).mono ?_; rintro e w1 ⟨rfl, hb1⟩)
  go_ret2
  exact ⟨rfl, hb1⟩
theorem raffof_text (name : ByteArray) (w : World) (hn : name.size ≤ 1048576) (u : ByteArray) (hu : Hid (bs (Txt.fold name.data.toList 1) = u)) (q0 : (u.toList == [105, 110, 116, 101, 103, 101, 114]) = false) (q1 : (u.toList == [105, 110, 116]) = false) (q2 : (u.toList == [116, 101, 120, 116]) = true) : Calls Tryz.prog 29 #[.string name] w (AffP 2 true w) := by
  go_enter Tryz.func29, Tryz.ntmps29
  go_wp2_with (go_at_call 67; refine (rfold_is _ _ _ _ hn hu).mono ?_; rintro e w1 ⟨rfl, hb1⟩)
  go_ret2
  exact ⟨rfl, hb1⟩
theorem raffof_blob (name : ByteArray) (w : World) (hn : name.size ≤ 1048576) (u : ByteArray) (hu : Hid (bs (Txt.fold name.data.toList 1) = u)) (q0 : (u.toList == [105, 110, 116, 101, 103, 101, 114]) = false) (q1 : (u.toList == [105, 110, 116]) = false) (q2 : (u.toList == [116, 101, 120, 116]) = false) (q3 : (u.toList == [98, 108, 111, 98]) = true) : Calls Tryz.prog 29 #[.string name] w (AffP 0 true w) := by
  go_enter Tryz.func29, Tryz.ntmps29
  go_wp2_with (go_at_call 67; refine (rfold_is _ _ _ _ hn hu).mono ?_; rintro e w1 ⟨rfl, hb1⟩)
  go_ret2
  exact ⟨rfl, hb1⟩
theorem raffof_empty (name : ByteArray) (w : World) (hn : name.size ≤ 1048576) (u : ByteArray) (hu : Hid (bs (Txt.fold name.data.toList 1) = u)) (q0 : (u.toList == [105, 110, 116, 101, 103, 101, 114]) = false) (q1 : (u.toList == [105, 110, 116]) = false) (q2 : (u.toList == [116, 101, 120, 116]) = false) (q3 : (u.toList == [98, 108, 111, 98]) = false) (q4 : (u.toList == []) = true) : Calls Tryz.prog 29 #[.string name] w (AffP 0 true w) := by
  go_enter Tryz.func29, Tryz.ntmps29
  go_wp2_with (go_at_call 67; refine (rfold_is _ _ _ _ hn hu).mono ?_; rintro e w1 ⟨rfl, hb1⟩)
  go_ret2
  exact ⟨rfl, hb1⟩
theorem raffof_none (name : ByteArray) (w : World) (hn : name.size ≤ 1048576) (u : ByteArray) (hu : Hid (bs (Txt.fold name.data.toList 1) = u)) (q0 : (u.toList == [105, 110, 116, 101, 103, 101, 114]) = false) (q1 : (u.toList == [105, 110, 116]) = false) (q2 : (u.toList == [116, 101, 120, 116]) = false) (q3 : (u.toList == [98, 108, 111, 98]) = false) (q4 : (u.toList == []) = false) : Calls Tryz.prog 29 #[.string name] w (AffP 0 false w) := by
  go_enter Tryz.func29, Tryz.ntmps29
  go_wp2_with (go_at_call 67; refine (rfold_is _ _ _ _ hn hu).mono ?_; rintro e w1 ⟨rfl, hb1⟩)
  go_ret2
  exact ⟨rfl, hb1⟩
theorem beq_is {u : ByteArray} {l m : List UInt8} (hu : u.data.toList = l) (h : l = m) : (u.toList == m) = true := by rw [Lib.toList_data, hu, h]; simp
theorem beq_not {u : ByteArray} {l m : List UInt8} (hu : u.data.toList = l) (h : l ≠ m) : (u.toList == m) = false := by rw [Lib.toList_data, hu]; simpa using h
theorem fold_nil {l : List UInt8} : Txt.fold l 1 = [] ↔ l = [] := by
  have h : (Txt.fold l 1).length = l.length := by
    unfold Txt.fold
    simp
  constructor
  · intro hh
    rw [hh] at h
    exact List.eq_nil_of_length_eq_zero h.symm
  · rintro rfl; decide
/-- WHAT the reference's AffOf ANSWERS -/
theorem raffof_is (name : ByteArray) (w : World) (hn : name.size ≤ 1048576) (f : Int) (ok : Bool) (hv : Hid (Val.affOf name.data.toList = (f, ok))) : Calls Tryz.prog 29 #[.string name] w (AffP f ok w) := by
  have hv' := hv.out
  rw [Val.affOf] at hv'
  obtain ⟨u, hu⟩ : ∃ u, bs (Txt.fold name.data.toList 1) = u := ⟨_, rfl⟩
  have hd : u.data.toList = Txt.fold name.data.toList 1 := by rw [← hu]; rfl
  replace hu := Lib.hid hu
  by_cases h1 : Txt.fold name.data.toList 1 = [105, 110, 116, 101, 103, 101, 114]
  · rw [if_pos (.inl h1), Prod.mk.injEq] at hv'
    obtain ⟨rfl, rfl⟩ := hv'
    exact raffof_integer name w hn u hu (beq_is hd h1)
  · by_cases h2 : Txt.fold name.data.toList 1 = [105, 110, 116]
    · rw [if_pos (.inr h2), Prod.mk.injEq] at hv'
      obtain ⟨rfl, rfl⟩ := hv'
      exact raffof_int name w hn u hu (beq_not hd h1) (beq_is hd h2)
    · rw [if_neg (by rintro (h | h) <;> contradiction)] at hv'
      by_cases h3 : Txt.fold name.data.toList 1 = [116, 101, 120, 116]
      · rw [if_pos h3, Prod.mk.injEq] at hv'
        obtain ⟨rfl, rfl⟩ := hv'
        exact raffof_text name w hn u hu (beq_not hd h1) (beq_not hd h2) (beq_is hd h3)
      · rw [if_neg h3, Prod.mk.injEq] at hv'
        obtain ⟨rfl, h5⟩ := hv'
        by_cases h4 : Txt.fold name.data.toList 1 = [98, 108, 111, 98]
        · rw [decide_eq_true (.inl h4)] at h5
          subst h5
          exact raffof_blob name w hn u hu (beq_not hd h1) (beq_not hd h2) (beq_not hd h3) (beq_is hd h4)
        · by_cases h6 : name.data.toList = []
          · rw [decide_eq_true (.inr h6)] at h5
            subst h5
            exact raffof_empty name w hn u hu (beq_not hd h1) (beq_not hd h2) (beq_not hd h3) (beq_not hd h4) (beq_is hd (fold_nil.2 h6))
          · rw [decide_eq_false (by rintro (h | h) <;> contradiction)] at h5
            subst h5
            exact raffof_none name w hn u hu (beq_not hd h1) (beq_not hd h2) (beq_not hd h3) (beq_not hd h4) (beq_not hd (fun h => h6 (fold_nil.1 h)))
theorem ccast_none (k n : Int) (t name : ByteArray) (w : World) (hn : name.size ≤ 1048576) (f : Int) (hv : Hid (Val.affOf name.data.toList = (f, false))) : Calls Tryz.prog 30 #[.agg #[.int .i64 k, .int .i64 n, .string t], .string name] w (VRet2 0 0 ⟨#[]⟩ 131 w) := by
  have hS := start2 w (.int .i64 k) (.int .i64 n) (.string t) (.int .i64 0) (.int .i64 0) (.string ⟨#[]⟩) 24 24
  go_enter Tryz.func30, Tryz.ntmps30
  go_wp2_with (first
    | (go_at_call 28; refine (caffof_is _ _ hn _ _ hv).mono ?_; rintro e w1 ⟨rfl, hb1⟩; have hS1 := keep2 hS hb1; obtain ⟨ca0, ca1, ca2, ca3, ca4, ca5, ca6, ca7, ca8, ca9, ca10, ca11, hz, hB⟩ := id hS1)
    | (go_at_call 38; refine (cnull_any _).mono ?_; rintro e w9 ⟨rfl, hb9⟩; have hS9 := keep2 hS1 hb9; obtain ⟨cz0, cz1, cz2, cz3, cz4, cz5, cz6, cz7, cz8, cz9, cz10, cz11, hz9, hB9⟩ := id hS9))
  exact bodyPost_ret (v := .tuple #[.agg #[.int .i64 0, .int .i64 0, .string ⟨#[]⟩], .int .i64 131]) (by simp only [results, Tryz.results30]; go_simp) rfl ⟨rfl, below_setg hB9 (by omega)⟩
theorem ccast_bad (k n : Int) (t name : ByteArray) (w : World) (hn : name.size ≤ 1048576) (f : Int) (hv : Hid (Val.affOf name.data.toList = (f, true))) (hm : Val.may ⟨k, n, t.data.toList⟩ = false) : Calls Tryz.prog 30 #[.agg #[.int .i64 k, .int .i64 n, .string t], .string name] w (VRet2 0 0 ⟨#[]⟩ 2 w) := by
  have hS := start2 w (.int .i64 k) (.int .i64 n) (.string t) (.int .i64 0) (.int .i64 0) (.string ⟨#[]⟩) 24 24
  replace hm := Lib.hid hm
  go_enter Tryz.func30, Tryz.ntmps30
  go_wp2_with (first
    | (go_at_call 28; refine (caffof_is _ _ hn _ _ hv).mono ?_; rintro e w1 ⟨rfl, hb1⟩; have hS1 := keep2 hS hb1; obtain ⟨ca0, ca1, ca2, ca3, ca4, ca5, ca6, ca7, ca8, ca9, ca10, ca11, hz, hB⟩ := id hS1)
    | (go_at_call 37; refine (may_is _ _ _ _ hm).mono ?_; rintro e w2 ⟨rfl, hb2⟩; have hS2 := keep2 hS1 hb2; obtain ⟨cb0, cb1, cb2, cb3, cb4, cb5, cb6, cb7, cb8, cb9, cb10, cb11, hz2, hB2⟩ := id hS2)
    | (go_at_call 38; refine (cnull_any _).mono ?_; rintro e w9 ⟨rfl, hb9⟩; have hS9 := keep2 hS2 hb9; obtain ⟨cz0, cz1, cz2, cz3, cz4, cz5, cz6, cz7, cz8, cz9, cz10, cz11, hz9, hB9⟩ := id hS9))
  exact bodyPost_ret (v := .tuple #[.agg #[.int .i64 0, .int .i64 0, .string ⟨#[]⟩], .int .i64 2]) (by simp only [results, Tryz.results30]; go_simp) rfl ⟨rfl, below_setg hB9 (by omega)⟩
theorem ccast_null (k n : Int) (t name : ByteArray) (w : World) (hn : name.size ≤ 1048576) (f : Int) (hv : Hid (Val.affOf name.data.toList = (f, true))) (hm : Val.may ⟨k, n, t.data.toList⟩ = true) (h0 : k = 0) : Calls Tryz.prog 30 #[.agg #[.int .i64 k, .int .i64 n, .string t], .string name] w (VRet2 k n t 0 w) := by
  have hS := start2 w (.int .i64 k) (.int .i64 n) (.string t) (.int .i64 0) (.int .i64 0) (.string ⟨#[]⟩) 24 24
  replace hm := Lib.hid hm
  have b0 : (k == 0) = true := by simp [h0]
  clear h0
  go_enter Tryz.func30, Tryz.ntmps30
  go_wp2_with (first
    | (go_at_call 28; refine (caffof_is _ _ hn _ _ hv).mono ?_; rintro e w1 ⟨rfl, hb1⟩; have hS1 := keep2 hS hb1; obtain ⟨ca0, ca1, ca2, ca3, ca4, ca5, ca6, ca7, ca8, ca9, ca10, ca11, hz, hB⟩ := id hS1)
    | (go_at_call 37; refine (may_is _ _ _ _ hm).mono ?_; rintro e w2 ⟨rfl, hb2⟩; have hS2 := keep2 hS1 hb2; obtain ⟨cb0, cb1, cb2, cb3, cb4, cb5, cb6, cb7, cb8, cb9, cb10, cb11, hz2, hB2⟩ := id hS2))
  exact bodyPost_ret (v := .tuple #[.agg #[.int .i64 k, .int .i64 n, .string t], .int .i64 0]) (by simp only [results, Tryz.results30]; go_simp) rfl ⟨rfl, below_setg hB2 (by omega)⟩
theorem ccast_empty (k n : Int) (t name : ByteArray) (w : World) (hn : name.size ≤ 1048576) (f : Int) (hv : Hid (Val.affOf name.data.toList = (f, true))) (hm : Val.may ⟨k, n, t.data.toList⟩ = true) (h0 : k ≠ 0) (he : (name.toList == []) = true) : Calls Tryz.prog 30 #[.agg #[.int .i64 k, .int .i64 n, .string t], .string name] w (VRet2 k n t 0 w) := by
  have hS := start2 w (.int .i64 k) (.int .i64 n) (.string t) (.int .i64 0) (.int .i64 0) (.string ⟨#[]⟩) 24 24
  replace hm := Lib.hid hm
  have b0 : (k == 0) = false := by simp [h0]
  clear h0
  go_enter Tryz.func30, Tryz.ntmps30
  go_wp2_with (first
    | (go_at_call 28; refine (caffof_is _ _ hn _ _ hv).mono ?_; rintro e w1 ⟨rfl, hb1⟩; have hS1 := keep2 hS hb1; obtain ⟨ca0, ca1, ca2, ca3, ca4, ca5, ca6, ca7, ca8, ca9, ca10, ca11, hz, hB⟩ := id hS1)
    | (go_at_call 37; refine (may_is _ _ _ _ hm).mono ?_; rintro e w2 ⟨rfl, hb2⟩; have hS2 := keep2 hS1 hb2; obtain ⟨cb0, cb1, cb2, cb3, cb4, cb5, cb6, cb7, cb8, cb9, cb10, cb11, hz2, hB2⟩ := id hS2))
  exact bodyPost_ret (v := .tuple #[.agg #[.int .i64 k, .int .i64 n, .string t], .int .i64 0]) (by simp only [results, Tryz.results30]; go_simp) rfl ⟨rfl, below_setg hB2 (by omega)⟩
theorem ccast_num (k n : Int) (t name : ByteArray) (w : World) (hn : name.size ≤ 1048576) (hL : Lits w) (hv : Hid (Val.affOf name.data.toList = (1, true))) (hm : Val.may ⟨k, n, t.data.toList⟩ = true) (h0 : k ≠ 0) (he : (name.toList == []) = false) (k2 n2 : Int) (hq : Hid (Val.num ⟨k, n, t.data.toList⟩ = ⟨k2, n2, []⟩)) : Calls Tryz.prog 30 #[.agg #[.int .i64 k, .int .i64 n, .string t], .string name] w (VRet2 k2 n2 ⟨#[]⟩ 0 w) := by
  have hS := start2 w (.int .i64 k) (.int .i64 n) (.string t) (.int .i64 0) (.int .i64 0) (.string ⟨#[]⟩) 24 24
  have hL0 : Lits ((w.alloc (.cells #[.int .i64 k, .int .i64 n, .string t] 24)).alloc (.cells #[.int .i64 0, .int .i64 0, .string ⟨#[]⟩] 24)) := (hL.alloc _).alloc _
  replace hm := Lib.hid hm
  have b0 : (k == 0) = false := by simp [h0]
  clear h0
  go_enter Tryz.func30, Tryz.ntmps30
  go_wp2_with (first
    | (go_at_call 28; refine (caffof_is _ _ hn _ _ hv).mono ?_; rintro e w1 ⟨rfl, hb1⟩; have hS1 := keep2 hS hb1; obtain ⟨ca0, ca1, ca2, ca3, ca4, ca5, ca6, ca7, ca8, ca9, ca10, ca11, hz, hB⟩ := id hS1)
    | (go_at_call 37; refine (may_is _ _ _ _ hm).mono ?_; rintro e w2 ⟨rfl, hb2⟩; have hS2 := keep2 hS1 hb2; have hL2 := (hL0.below hb1).below hb2; obtain ⟨cb0, cb1, cb2, cb3, cb4, cb5, cb6, cb7, cb8, cb9, cb10, cb11, hz2, hB2⟩ := id hS2)
    | (go_at_call 14; refine (cnum_is _ _ _ _ hL2 _ _ hq).mono ?_; rintro e w9 ⟨rfl, hb9⟩; have hS9 := keep2 hS2 hb9; obtain ⟨cz0, cz1, cz2, cz3, cz4, cz5, cz6, cz7, cz8, cz9, cz10, cz11, hz9, hB9⟩ := id hS9))
  exact bodyPost_ret (v := .tuple #[.agg #[.int .i64 k2, .int .i64 n2, .string ⟨#[]⟩], .int .i64 0]) (by simp only [results, Tryz.results30]; go_simp) rfl ⟨rfl, below_setg hB9 (by omega)⟩
theorem ccast_text (k n : Int) (t name : ByteArray) (w : World) (hn : name.size ≤ 1048576) (hL : Lits w) (ha : Val.inr n) (hv : Hid (Val.affOf name.data.toList = (2, true))) (hm : Val.may ⟨k, n, t.data.toList⟩ = true) (h0 : k ≠ 0) (he : (name.toList == []) = false) (k2 : Int) (t2 : ByteArray) (hq : Hid (Val.pshow ⟨k, n, t.data.toList⟩ = ⟨k2, 0, t2.data.toList⟩)) : Calls Tryz.prog 30 #[.agg #[.int .i64 k, .int .i64 n, .string t], .string name] w (VRet2 k2 0 t2 0 w) := by
  have hS := start2 w (.int .i64 k) (.int .i64 n) (.string t) (.int .i64 0) (.int .i64 0) (.string ⟨#[]⟩) 24 24
  have hL0 : Lits ((w.alloc (.cells #[.int .i64 k, .int .i64 n, .string t] 24)).alloc (.cells #[.int .i64 0, .int .i64 0, .string ⟨#[]⟩] 24)) := (hL.alloc _).alloc _
  replace hm := Lib.hid hm
  replace ha := Lib.hid ha
  have b0 : (k == 0) = false := by simp [h0]
  clear h0
  go_enter Tryz.func30, Tryz.ntmps30
  go_wp2_with (first
    | (go_at_call 28; refine (caffof_is _ _ hn _ _ hv).mono ?_; rintro e w1 ⟨rfl, hb1⟩; have hS1 := keep2 hS hb1; obtain ⟨ca0, ca1, ca2, ca3, ca4, ca5, ca6, ca7, ca8, ca9, ca10, ca11, hz, hB⟩ := id hS1)
    | (go_at_call 37; refine (may_is _ _ _ _ hm).mono ?_; rintro e w2 ⟨rfl, hb2⟩; have hS2 := keep2 hS1 hb2; have hL2 := (hL0.below hb1).below hb2; obtain ⟨cb0, cb1, cb2, cb3, cb4, cb5, cb6, cb7, cb8, cb9, cb10, cb11, hz2, hB2⟩ := id hS2)
    | (go_at_call 16; refine (cshow_is _ _ _ _ ha.out.1 ha.out.2 hL2 _ _ hq).mono ?_; rintro e w9 ⟨rfl, hb9⟩; have hS9 := keep2 hS2 hb9; obtain ⟨cz0, cz1, cz2, cz3, cz4, cz5, cz6, cz7, cz8, cz9, cz10, cz11, hz9, hB9⟩ := id hS9))
  exact bodyPost_ret (v := .tuple #[.agg #[.int .i64 k2, .int .i64 0, .string t2], .int .i64 0]) (by simp only [results, Tryz.results30]; go_simp) rfl ⟨rfl, below_setg hB9 (by omega)⟩
theorem ccast_blob (k n : Int) (t name : ByteArray) (w : World) (hn : name.size ≤ 1048576) (hL : Lits w) (ha : Val.inr n) (hv : Hid (Val.affOf name.data.toList = (0, true))) (hm : Val.may ⟨k, n, t.data.toList⟩ = true) (h0 : k ≠ 0) (he : (name.toList == []) = false) (k2 : Int) (t2 : ByteArray) (hts : t2.size ≤ 400) (hq : Hid (Val.pshow ⟨k, n, t.data.toList⟩ = ⟨k2, 0, t2.data.toList⟩)) : Calls Tryz.prog 30 #[.agg #[.int .i64 k, .int .i64 n, .string t], .string name] w (VRet2 3 0 t2 0 w) := by
  have hS := start2 w (.int .i64 k) (.int .i64 n) (.string t) (.int .i64 0) (.int .i64 0) (.string ⟨#[]⟩) 24 24
  have hL0 : Lits ((w.alloc (.cells #[.int .i64 k, .int .i64 n, .string t] 24)).alloc (.cells #[.int .i64 0, .int .i64 0, .string ⟨#[]⟩] 24)) := (hL.alloc _).alloc _
  have hfd := text_field k2 0 t2
  replace hm := Lib.hid hm
  replace ha := Lib.hid ha
  have b0 : (k == 0) = false := by simp [h0]
  clear h0
  go_enter Tryz.func30, Tryz.ntmps30
  go_wp2_with (first
    | (go_at_call 28; refine (caffof_is _ _ hn _ _ hv).mono ?_; rintro e w1 ⟨rfl, hb1⟩; have hS1 := keep2 hS hb1; obtain ⟨ca0, ca1, ca2, ca3, ca4, ca5, ca6, ca7, ca8, ca9, ca10, ca11, hz, hB⟩ := id hS1)
    | (go_at_call 37; refine (may_is _ _ _ _ hm).mono ?_; rintro e w2 ⟨rfl, hb2⟩; have hS2 := keep2 hS1 hb2; have hL2 := (hL0.below hb1).below hb2; obtain ⟨cb0, cb1, cb2, cb3, cb4, cb5, cb6, cb7, cb8, cb9, cb10, cb11, hz2, hB2⟩ := id hS2)
    | (go_at_call 16; refine (cshow_is _ _ _ _ ha.out.1 ha.out.2 hL2 _ _ hq).mono ?_; rintro e w3 ⟨rfl, hb3⟩; have hS3 := keep2 hS2 hb3)
    | (go_at_call 68; refine (vblob_ok _ _ hts).mono ?_; rintro e w9 ⟨rfl, hb9⟩; have hS9 := keep2 (keep2 hS3 hb9) (below_new w9 (.cells #[.int .i64 3, .int .i64 0, .string t2] 24)); obtain ⟨cz0, cz1, cz2, cz3, cz4, cz5, cz6, cz7, cz8, cz9, cz10, cz11, hz9, hB9⟩ := id hS9))
  exact bodyPost_ret (v := .tuple #[.agg #[.int .i64 3, .int .i64 0, .string t2], .int .i64 0]) (by simp only [results, Tryz.results30]; go_simp) rfl ⟨rfl, below_setg hB9 (by omega)⟩
/-- WHAT calc.Cast ANSWERS -/
theorem ccast_is (k n : Int) (t name : ByteArray) (w : World) (hn : name.size ≤ 1048576) (hL : Lits w) (ha : Val.inr n) (k2 n2 : Int) (t2 : ByteArray) (E : Int) (hv : Hid (Val.cast ⟨k, n, t.data.toList⟩ name.data.toList = (⟨k2, n2, t2.data.toList⟩, E))) : Calls Tryz.prog 30 #[.agg #[.int .i64 k, .int .i64 n, .string t], .string name] w (VRet2 k2 n2 t2 E w) := by
  have hv' := hv.out
  rw [Val.cast] at hv'
  obtain ⟨f, ok, hf⟩ : ∃ f ok, Val.affOf name.data.toList = (f, ok) := ⟨_, _, rfl⟩
  rw [hf] at hv'
  simp only at hv'
  have hf3 : f = 0 ∨ f = 1 ∨ f = 2 := by
    rw [Val.affOf] at hf
    split at hf
    · rw [Prod.mk.injEq] at hf; omega
    · split at hf
      · rw [Prod.mk.injEq] at hf; omega
      · rw [Prod.mk.injEq] at hf; omega
  cases ok with
  | false =>
    rw [if_neg (by decide), Prod.mk.injEq] at hv'
    obtain ⟨h1, rfl⟩ := hv'
    obtain ⟨rfl, rfl, rfl⟩ := zero_form h1
    exact ccast_none _ _ _ _ w hn f (Lib.hid hf)
  | true =>
    rw [if_pos rfl] at hv'
    cases hm : Val.may ⟨k, n, t.data.toList⟩ with
    | false =>
      rw [if_neg (by rw [hm]; decide), Prod.mk.injEq] at hv'
      obtain ⟨h1, rfl⟩ := hv'
      obtain ⟨rfl, rfl, rfl⟩ := zero_form h1
      exact ccast_bad _ _ _ _ w hn f (Lib.hid hf) hm
    | true =>
      rw [if_pos hm] at hv'
      by_cases h0 : k = 0
      · rw [if_pos (.inl h0), Prod.mk.injEq] at hv'
        obtain ⟨h1, rfl⟩ := hv'
        simp only [Val.V.mk.injEq] at h1
        obtain ⟨rfl, rfl, ht⟩ := h1
        have := bytes_inj' ht
        subst this
        exact ccast_null _ _ _ _ w hn f (Lib.hid hf) hm h0
      · by_cases he : name.data.toList = []
        · rw [if_pos (.inr he), Prod.mk.injEq] at hv'
          obtain ⟨h1, rfl⟩ := hv'
          simp only [Val.V.mk.injEq] at h1
          obtain ⟨rfl, rfl, ht⟩ := h1
          have := bytes_inj' ht
          subst this
          exact ccast_empty _ _ _ _ w hn f (Lib.hid hf) hm h0 (empty_beq he)
        · rw [if_neg (by rintro (h | h) <;> contradiction)] at hv'
          obtain ⟨s, es, ls⟩ := pshow_may hm ha h0
          rcases hf3 with rfl | rfl | rfl
          · rw [if_neg (by decide), if_neg (by decide), es, Prod.mk.injEq] at hv'
            obtain ⟨h1, rfl⟩ := hv'
            simp only [Val.V.mk.injEq] at h1
            obtain ⟨rfl, rfl, ht⟩ := h1
            have := bytes_inj' ht
            subst this
            exact ccast_blob _ _ _ _ w hn hL ha (Lib.hid hf) hm h0 (nonempty_beq he) _ _ ls (Lib.hid es)
          · rw [if_pos rfl, Prod.mk.injEq] at hv'
            obtain ⟨h1, rfl⟩ := hv'
            obtain ⟨k3, n3, e3, _⟩ := num_form (k := k) (t := t) ha
            rw [e3] at h1
            simp only [Val.V.mk.injEq] at h1
            obtain ⟨rfl, rfl, ht⟩ := h1
            have := text_nil ht.symm
            subst this
            exact ccast_num _ _ _ _ w hn hL (Lib.hid hf) hm h0 (nonempty_beq he) _ _ (Lib.hid e3)
          · rw [if_neg (by decide), if_pos rfl, Prod.mk.injEq] at hv'
            obtain ⟨h1, rfl⟩ := hv'
            rw [es] at h1
            simp only [Val.V.mk.injEq] at h1
            obtain ⟨rfl, rfl, ht⟩ := h1
            have := bytes_inj' ht
            subst this
            exact ccast_text _ _ _ _ w hn hL ha (Lib.hid hf) hm h0 (nonempty_beq he) _ _ (Lib.hid es)
theorem rcast_none (k n : Int) (t name : ByteArray) (w : World) (hn : name.size ≤ 1048576) (f : Int) (hv : Hid (Val.affOf name.data.toList = (f, false))) : Calls Tryz.prog 31 #[.agg #[.int .i64 k, .int .i64 n, .string t], .string name] w (VRet2 0 0 ⟨#[]⟩ 131 w) := by
  have hS := start2 w (.int .i64 k) (.int .i64 n) (.string t) (.int .i64 0) (.int .i64 0) (.string ⟨#[]⟩) 24 24
  go_enter Tryz.func31, Tryz.ntmps31
  go_wp2_with (first
    | (go_at_call 29; refine (raffof_is _ _ hn _ _ hv).mono ?_; rintro e w1 ⟨rfl, hb1⟩; have hS1 := keep2 hS hb1; obtain ⟨ca0, ca1, ca2, ca3, ca4, ca5, ca6, ca7, ca8, ca9, ca10, ca11, hz, hB⟩ := id hS1)
    | (go_at_call 43; refine (rnull_any _).mono ?_; rintro e w9 ⟨rfl, hb9⟩; have hS9 := keep2 hS1 hb9; obtain ⟨cz0, cz1, cz2, cz3, cz4, cz5, cz6, cz7, cz8, cz9, cz10, cz11, hz9, hB9⟩ := id hS9))
  exact bodyPost_ret (v := .tuple #[.agg #[.int .i64 0, .int .i64 0, .string ⟨#[]⟩], .int .i64 131]) (by simp only [results, Tryz.results31]; go_simp) rfl ⟨rfl, below_setg hB9 (by omega)⟩
theorem rcast_bad (k n : Int) (t name : ByteArray) (w : World) (hn : name.size ≤ 1048576) (f : Int) (hv : Hid (Val.affOf name.data.toList = (f, true))) (hm : Val.may ⟨k, n, t.data.toList⟩ = false) : Calls Tryz.prog 31 #[.agg #[.int .i64 k, .int .i64 n, .string t], .string name] w (VRet2 0 0 ⟨#[]⟩ 2 w) := by
  have hS := start2 w (.int .i64 k) (.int .i64 n) (.string t) (.int .i64 0) (.int .i64 0) (.string ⟨#[]⟩) 24 24
  replace hm := Lib.hid hm
  go_enter Tryz.func31, Tryz.ntmps31
  go_wp2_with (first
    | (go_at_call 29; refine (raffof_is _ _ hn _ _ hv).mono ?_; rintro e w1 ⟨rfl, hb1⟩; have hS1 := keep2 hS hb1; obtain ⟨ca0, ca1, ca2, ca3, ca4, ca5, ca6, ca7, ca8, ca9, ca10, ca11, hz, hB⟩ := id hS1)
    | (go_at_call 25; refine (rmay_is _ _ _ _ hm).mono ?_; rintro e w2 ⟨rfl, hb2⟩; have hS2 := keep2 hS1 hb2; obtain ⟨cb0, cb1, cb2, cb3, cb4, cb5, cb6, cb7, cb8, cb9, cb10, cb11, hz2, hB2⟩ := id hS2)
    | (go_at_call 43; refine (rnull_any _).mono ?_; rintro e w9 ⟨rfl, hb9⟩; have hS9 := keep2 hS2 hb9; obtain ⟨cz0, cz1, cz2, cz3, cz4, cz5, cz6, cz7, cz8, cz9, cz10, cz11, hz9, hB9⟩ := id hS9))
  exact bodyPost_ret (v := .tuple #[.agg #[.int .i64 0, .int .i64 0, .string ⟨#[]⟩], .int .i64 2]) (by simp only [results, Tryz.results31]; go_simp) rfl ⟨rfl, below_setg hB9 (by omega)⟩
theorem rcast_null (k n : Int) (t name : ByteArray) (w : World) (hn : name.size ≤ 1048576) (f : Int) (hv : Hid (Val.affOf name.data.toList = (f, true))) (hm : Val.may ⟨k, n, t.data.toList⟩ = true) (h0 : k = 0) : Calls Tryz.prog 31 #[.agg #[.int .i64 k, .int .i64 n, .string t], .string name] w (VRet2 k n t 0 w) := by
  have hS := start2 w (.int .i64 k) (.int .i64 n) (.string t) (.int .i64 0) (.int .i64 0) (.string ⟨#[]⟩) 24 24
  replace hm := Lib.hid hm
  have b0 : (k == 0) = true := by simp [h0]
  clear h0
  go_enter Tryz.func31, Tryz.ntmps31
  go_wp2_with (first
    | (go_at_call 29; refine (raffof_is _ _ hn _ _ hv).mono ?_; rintro e w1 ⟨rfl, hb1⟩; have hS1 := keep2 hS hb1; obtain ⟨ca0, ca1, ca2, ca3, ca4, ca5, ca6, ca7, ca8, ca9, ca10, ca11, hz, hB⟩ := id hS1)
    | (go_at_call 25; refine (rmay_is _ _ _ _ hm).mono ?_; rintro e w2 ⟨rfl, hb2⟩; have hS2 := keep2 hS1 hb2; obtain ⟨cb0, cb1, cb2, cb3, cb4, cb5, cb6, cb7, cb8, cb9, cb10, cb11, hz2, hB2⟩ := id hS2))
  exact bodyPost_ret (v := .tuple #[.agg #[.int .i64 k, .int .i64 n, .string t], .int .i64 0]) (by simp only [results, Tryz.results31]; go_simp) rfl ⟨rfl, below_setg hB2 (by omega)⟩
theorem rcast_empty (k n : Int) (t name : ByteArray) (w : World) (hn : name.size ≤ 1048576) (f : Int) (hv : Hid (Val.affOf name.data.toList = (f, true))) (hm : Val.may ⟨k, n, t.data.toList⟩ = true) (h0 : k ≠ 0) (he : (name.toList == []) = true) : Calls Tryz.prog 31 #[.agg #[.int .i64 k, .int .i64 n, .string t], .string name] w (VRet2 k n t 0 w) := by
  have hS := start2 w (.int .i64 k) (.int .i64 n) (.string t) (.int .i64 0) (.int .i64 0) (.string ⟨#[]⟩) 24 24
  replace hm := Lib.hid hm
  have b0 : (k == 0) = false := by simp [h0]
  clear h0
  go_enter Tryz.func31, Tryz.ntmps31
  go_wp2_with (first
    | (go_at_call 29; refine (raffof_is _ _ hn _ _ hv).mono ?_; rintro e w1 ⟨rfl, hb1⟩; have hS1 := keep2 hS hb1; obtain ⟨ca0, ca1, ca2, ca3, ca4, ca5, ca6, ca7, ca8, ca9, ca10, ca11, hz, hB⟩ := id hS1)
    | (go_at_call 25; refine (rmay_is _ _ _ _ hm).mono ?_; rintro e w2 ⟨rfl, hb2⟩; have hS2 := keep2 hS1 hb2; obtain ⟨cb0, cb1, cb2, cb3, cb4, cb5, cb6, cb7, cb8, cb9, cb10, cb11, hz2, hB2⟩ := id hS2))
  exact bodyPost_ret (v := .tuple #[.agg #[.int .i64 k, .int .i64 n, .string t], .int .i64 0]) (by simp only [results, Tryz.results31]; go_simp) rfl ⟨rfl, below_setg hB2 (by omega)⟩
theorem rcast_num (k n : Int) (t name : ByteArray) (w : World) (hn : name.size ≤ 1048576) (hL : Lits w) (hv : Hid (Val.affOf name.data.toList = (1, true))) (hm : Val.may ⟨k, n, t.data.toList⟩ = true) (h0 : k ≠ 0) (he : (name.toList == []) = false) (k2 n2 : Int) (hq : Hid (Val.num ⟨k, n, t.data.toList⟩ = ⟨k2, n2, []⟩)) : Calls Tryz.prog 31 #[.agg #[.int .i64 k, .int .i64 n, .string t], .string name] w (VRet2 k2 n2 ⟨#[]⟩ 0 w) := by
  have hS := start2 w (.int .i64 k) (.int .i64 n) (.string t) (.int .i64 0) (.int .i64 0) (.string ⟨#[]⟩) 24 24
  have hL0 : Lits ((w.alloc (.cells #[.int .i64 k, .int .i64 n, .string t] 24)).alloc (.cells #[.int .i64 0, .int .i64 0, .string ⟨#[]⟩] 24)) := (hL.alloc _).alloc _
  replace hm := Lib.hid hm
  have b0 : (k == 0) = false := by simp [h0]
  clear h0
  go_enter Tryz.func31, Tryz.ntmps31
  go_wp2_with (first
    | (go_at_call 29; refine (raffof_is _ _ hn _ _ hv).mono ?_; rintro e w1 ⟨rfl, hb1⟩; have hS1 := keep2 hS hb1; obtain ⟨ca0, ca1, ca2, ca3, ca4, ca5, ca6, ca7, ca8, ca9, ca10, ca11, hz, hB⟩ := id hS1)
    | (go_at_call 25; refine (rmay_is _ _ _ _ hm).mono ?_; rintro e w2 ⟨rfl, hb2⟩; have hS2 := keep2 hS1 hb2; have hL2 := (hL0.below hb1).below hb2; obtain ⟨cb0, cb1, cb2, cb3, cb4, cb5, cb6, cb7, cb8, cb9, cb10, cb11, hz2, hB2⟩ := id hS2)
    | (go_at_call 15; refine (rnum03_is _ _ _ _ hL2 _ _ hq).mono ?_; rintro e w9 ⟨rfl, hb9⟩; have hS9 := keep2 hS2 hb9; obtain ⟨cz0, cz1, cz2, cz3, cz4, cz5, cz6, cz7, cz8, cz9, cz10, cz11, hz9, hB9⟩ := id hS9))
  exact bodyPost_ret (v := .tuple #[.agg #[.int .i64 k2, .int .i64 n2, .string ⟨#[]⟩], .int .i64 0]) (by simp only [results, Tryz.results31]; go_simp) rfl ⟨rfl, below_setg hB9 (by omega)⟩
theorem rcast_text (k n : Int) (t name : ByteArray) (w : World) (hn : name.size ≤ 1048576) (hL : Lits w) (ha : Val.inr n) (hv : Hid (Val.affOf name.data.toList = (2, true))) (hm : Val.may ⟨k, n, t.data.toList⟩ = true) (h0 : k ≠ 0) (he : (name.toList == []) = false) (k2 : Int) (t2 : ByteArray) (hq : Hid (Val.pshow ⟨k, n, t.data.toList⟩ = ⟨k2, 0, t2.data.toList⟩)) : Calls Tryz.prog 31 #[.agg #[.int .i64 k, .int .i64 n, .string t], .string name] w (VRet2 k2 0 t2 0 w) := by
  have hS := start2 w (.int .i64 k) (.int .i64 n) (.string t) (.int .i64 0) (.int .i64 0) (.string ⟨#[]⟩) 24 24
  have hL0 : Lits ((w.alloc (.cells #[.int .i64 k, .int .i64 n, .string t] 24)).alloc (.cells #[.int .i64 0, .int .i64 0, .string ⟨#[]⟩] 24)) := (hL.alloc _).alloc _
  replace hm := Lib.hid hm
  replace ha := Lib.hid ha
  have b0 : (k == 0) = false := by simp [h0]
  clear h0
  go_enter Tryz.func31, Tryz.ntmps31
  go_wp2_with (first
    | (go_at_call 29; refine (raffof_is _ _ hn _ _ hv).mono ?_; rintro e w1 ⟨rfl, hb1⟩; have hS1 := keep2 hS hb1; obtain ⟨ca0, ca1, ca2, ca3, ca4, ca5, ca6, ca7, ca8, ca9, ca10, ca11, hz, hB⟩ := id hS1)
    | (go_at_call 25; refine (rmay_is _ _ _ _ hm).mono ?_; rintro e w2 ⟨rfl, hb2⟩; have hS2 := keep2 hS1 hb2; have hL2 := (hL0.below hb1).below hb2; obtain ⟨cb0, cb1, cb2, cb3, cb4, cb5, cb6, cb7, cb8, cb9, cb10, cb11, hz2, hB2⟩ := id hS2)
    | (go_at_call 17; refine (rshow_is _ _ _ _ ha.out.1 ha.out.2 hL2 _ _ hq).mono ?_; rintro e w9 ⟨rfl, hb9⟩; have hS9 := keep2 hS2 hb9; obtain ⟨cz0, cz1, cz2, cz3, cz4, cz5, cz6, cz7, cz8, cz9, cz10, cz11, hz9, hB9⟩ := id hS9))
  exact bodyPost_ret (v := .tuple #[.agg #[.int .i64 k2, .int .i64 0, .string t2], .int .i64 0]) (by simp only [results, Tryz.results31]; go_simp) rfl ⟨rfl, below_setg hB9 (by omega)⟩
theorem rcast_blob (k n : Int) (t name : ByteArray) (w : World) (hn : name.size ≤ 1048576) (hL : Lits w) (ha : Val.inr n) (hv : Hid (Val.affOf name.data.toList = (0, true))) (hm : Val.may ⟨k, n, t.data.toList⟩ = true) (h0 : k ≠ 0) (he : (name.toList == []) = false) (k2 : Int) (t2 : ByteArray) (hts : t2.size ≤ 400) (hq : Hid (Val.pshow ⟨k, n, t.data.toList⟩ = ⟨k2, 0, t2.data.toList⟩)) : Calls Tryz.prog 31 #[.agg #[.int .i64 k, .int .i64 n, .string t], .string name] w (VRet2 3 0 t2 0 w) := by
  have hS := start2 w (.int .i64 k) (.int .i64 n) (.string t) (.int .i64 0) (.int .i64 0) (.string ⟨#[]⟩) 24 24
  have hL0 : Lits ((w.alloc (.cells #[.int .i64 k, .int .i64 n, .string t] 24)).alloc (.cells #[.int .i64 0, .int .i64 0, .string ⟨#[]⟩] 24)) := (hL.alloc _).alloc _
  have hfd := text_field k2 0 t2
  replace hm := Lib.hid hm
  replace ha := Lib.hid ha
  have b0 : (k == 0) = false := by simp [h0]
  clear h0
  go_enter Tryz.func31, Tryz.ntmps31
  go_wp2_with (first
    | (go_at_call 29; refine (raffof_is _ _ hn _ _ hv).mono ?_; rintro e w1 ⟨rfl, hb1⟩; have hS1 := keep2 hS hb1; obtain ⟨ca0, ca1, ca2, ca3, ca4, ca5, ca6, ca7, ca8, ca9, ca10, ca11, hz, hB⟩ := id hS1)
    | (go_at_call 25; refine (rmay_is _ _ _ _ hm).mono ?_; rintro e w2 ⟨rfl, hb2⟩; have hS2 := keep2 hS1 hb2; have hL2 := (hL0.below hb1).below hb2; obtain ⟨cb0, cb1, cb2, cb3, cb4, cb5, cb6, cb7, cb8, cb9, cb10, cb11, hz2, hB2⟩ := id hS2)
    | (go_at_call 17; refine (rshow_is _ _ _ _ ha.out.1 ha.out.2 hL2 _ _ hq).mono ?_; rintro e w9 ⟨rfl, hb9⟩; have hS9 := keep2 hS2 hb9; obtain ⟨cz0, cz1, cz2, cz3, cz4, cz5, cz6, cz7, cz8, cz9, cz10, cz11, hz9, hB9⟩ := id hS9))
  exact bodyPost_ret (v := .tuple #[.agg #[.int .i64 3, .int .i64 0, .string t2], .int .i64 0]) (by simp only [results, Tryz.results31]; go_simp) rfl ⟨rfl, below_setg hB9 (by omega)⟩
/-- WHAT bureauref03.Cast ANSWERS -/
theorem rcast_is (k n : Int) (t name : ByteArray) (w : World) (hn : name.size ≤ 1048576) (hL : Lits w) (ha : Val.inr n) (k2 n2 : Int) (t2 : ByteArray) (E : Int) (hv : Hid (Val.cast ⟨k, n, t.data.toList⟩ name.data.toList = (⟨k2, n2, t2.data.toList⟩, E))) : Calls Tryz.prog 31 #[.agg #[.int .i64 k, .int .i64 n, .string t], .string name] w (VRet2 k2 n2 t2 E w) := by
  have hv' := hv.out
  rw [Val.cast] at hv'
  obtain ⟨f, ok, hf⟩ : ∃ f ok, Val.affOf name.data.toList = (f, ok) := ⟨_, _, rfl⟩
  rw [hf] at hv'
  simp only at hv'
  have hf3 : f = 0 ∨ f = 1 ∨ f = 2 := by
    rw [Val.affOf] at hf
    split at hf
    · rw [Prod.mk.injEq] at hf; omega
    · split at hf
      · rw [Prod.mk.injEq] at hf; omega
      · rw [Prod.mk.injEq] at hf; omega
  cases ok with
  | false =>
    rw [if_neg (by decide), Prod.mk.injEq] at hv'
    obtain ⟨h1, rfl⟩ := hv'
    obtain ⟨rfl, rfl, rfl⟩ := zero_form h1
    exact rcast_none _ _ _ _ w hn f (Lib.hid hf)
  | true =>
    rw [if_pos rfl] at hv'
    cases hm : Val.may ⟨k, n, t.data.toList⟩ with
    | false =>
      rw [if_neg (by rw [hm]; decide), Prod.mk.injEq] at hv'
      obtain ⟨h1, rfl⟩ := hv'
      obtain ⟨rfl, rfl, rfl⟩ := zero_form h1
      exact rcast_bad _ _ _ _ w hn f (Lib.hid hf) hm
    | true =>
      rw [if_pos hm] at hv'
      by_cases h0 : k = 0
      · rw [if_pos (.inl h0), Prod.mk.injEq] at hv'
        obtain ⟨h1, rfl⟩ := hv'
        simp only [Val.V.mk.injEq] at h1
        obtain ⟨rfl, rfl, ht⟩ := h1
        have := bytes_inj' ht
        subst this
        exact rcast_null _ _ _ _ w hn f (Lib.hid hf) hm h0
      · by_cases he : name.data.toList = []
        · rw [if_pos (.inr he), Prod.mk.injEq] at hv'
          obtain ⟨h1, rfl⟩ := hv'
          simp only [Val.V.mk.injEq] at h1
          obtain ⟨rfl, rfl, ht⟩ := h1
          have := bytes_inj' ht
          subst this
          exact rcast_empty _ _ _ _ w hn f (Lib.hid hf) hm h0 (empty_beq he)
        · rw [if_neg (by rintro (h | h) <;> contradiction)] at hv'
          obtain ⟨s, es, ls⟩ := pshow_may hm ha h0
          rcases hf3 with rfl | rfl | rfl
          · rw [if_neg (by decide), if_neg (by decide), es, Prod.mk.injEq] at hv'
            obtain ⟨h1, rfl⟩ := hv'
            simp only [Val.V.mk.injEq] at h1
            obtain ⟨rfl, rfl, ht⟩ := h1
            have := bytes_inj' ht
            subst this
            exact rcast_blob _ _ _ _ w hn hL ha (Lib.hid hf) hm h0 (nonempty_beq he) _ _ ls (Lib.hid es)
          · rw [if_pos rfl, Prod.mk.injEq] at hv'
            obtain ⟨h1, rfl⟩ := hv'
            obtain ⟨k3, n3, e3, _⟩ := num_form (k := k) (t := t) ha
            rw [e3] at h1
            simp only [Val.V.mk.injEq] at h1
            obtain ⟨rfl, rfl, ht⟩ := h1
            have := text_nil ht.symm
            subst this
            exact rcast_num _ _ _ _ w hn hL (Lib.hid hf) hm h0 (nonempty_beq he) _ _ (Lib.hid e3)
          · rw [if_neg (by decide), if_pos rfl, Prod.mk.injEq] at hv'
            obtain ⟨h1, rfl⟩ := hv'
            rw [es] at h1
            simp only [Val.V.mk.injEq] at h1
            obtain ⟨rfl, rfl, ht⟩ := h1
            have := bytes_inj' ht
            subst this
            exact rcast_text _ _ _ _ w hn hL ha (Lib.hid hf) hm h0 (nonempty_beq he) _ _ (Lib.hid es)

end Go.Proofs.YthdpgekjbkpomaaGreatDoor
