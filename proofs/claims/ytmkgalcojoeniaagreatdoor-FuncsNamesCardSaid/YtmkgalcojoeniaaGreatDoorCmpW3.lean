/- Walks: how two values stand. -/
import Derived.Test.YtmkgalcojoeniaaGreatDoorCmpW2
set_option maxRecDepth 100000
set_option linter.unusedVariables false
set_option linter.unusedSimpArgs false
namespace Go.Proofs.YtmkgalcojoeniaaGreatDoor
open Go.RowKit

theorem or_any (b : Nat) (x y : Int) (c : Nat) (w : World) (h0 : w.cell? ⟨b, 0, none⟩ = some (.int .i64 x)) (h1 : w.cell? ⟨b, 1, none⟩ = some (.int .i64 y)) :
    Calls Tryz.prog 135 #[.slice (some ⟨b, 0, none⟩) 2 c] w fun e w' => e = .returned (.int .i64 (if x ≠ 0 then x else y)) ∧ w = w' := by
  obtain ⟨r, hr⟩ : ∃ r, (if x ≠ 0 then x else y) = r := ⟨_, rfl⟩
  rw [hr]
  replace hr := Lib.hid hr
  go_enter Tryz.func135, Tryz.ntmps135
  go_wp2
  go_loop [8] (fun i => (i = .int .i64 0) ∨ (i = .int .i64 1 ∧ Hid (x = 0)) ∨ (i = .int .i64 2 ∧ Hid (x = 0) ∧ Hid (y = 0))) (fun i => 2 - (intOf i).toNat)
  case atStart => exact .inl (by go_num)
  case round =>
    rcases hrel with rfl | ⟨rfl, hx⟩ | ⟨rfl, hx, hy⟩
    · by_cases hx : x = 0
      · subst hx
        go_wp2
        go_round
        case rel => exact .inr (.inl ⟨by go_num, by first | exact Lib.hid rfl | exact Lib.hid trivial⟩)
        case measure => simp [intOf]
      · have hB : (x != 0) = true := by simp; omega
        have : x = r := by rw [← hr.out, if_pos hx]
        replace this := Lib.hid this
        clear hx
        go_wp2
        go_ret
        exact ⟨by rw [this.out]; rfl, rfl⟩
    · by_cases hy : y = 0
      · subst hy
        go_wp2
        go_round
        case rel => exact .inr (.inr ⟨by go_num, hx, by first | exact Lib.hid rfl | exact Lib.hid trivial⟩)
        case measure => simp [intOf]
      · have hB : (y != 0) = true := by simp; omega
        have : y = r := by rw [← hr.out, if_neg (by rw [hx.out]; simp)]
        replace this := Lib.hid this
        clear hy
        go_wp2
        go_ret
        exact ⟨by rw [this.out]; rfl, rfl⟩
    · have : 0 = r := by rw [← hr.out, if_neg (by rw [hx.out]; simp), hy.out]
      replace this := Lib.hid this
      go_wp2
      go_ret
      exact ⟨by rw [← this.out]; rfl, rfl⟩

theorem cmp_kinds {a b : Val.V} {c : Int} (ha : Val.may a = true) (hb : Val.may b = true) (hk : a.kind ≠ b.kind) : Val.cmp a b c = Lib.compareInt a.kind b.kind := by
  rw [Val.cmp, if_pos ⟨ha, hb⟩, if_pos hk]
theorem cmp_text {a b : Val.V} {c : Int} (ha : Val.may a = true) (hb : Val.may b = true) (hk : a.kind = b.kind) (h2 : a.kind = 2) : Val.cmp a b c = Val.texts a.text b.text c := by
  rw [Val.cmp, if_pos ⟨ha, hb⟩, if_neg (by simp [hk]), if_pos h2]
theorem cmp_else {a b : Val.V} {c : Int} (ha : Val.may a = true) (hb : Val.may b = true) (hk : a.kind = b.kind) (h2 : a.kind ≠ 2) : Val.cmp a b c = if Lib.compareInt a.int b.int ≠ 0 then Lib.compareInt a.int b.int else Lib.compareBytes a.text b.text := by
  rw [Val.cmp, if_pos ⟨ha, hb⟩, if_neg (by simp [hk]), if_neg h2]
  unfold Lib.compareInt
  by_cases hi : a.int = b.int
  · rw [if_neg (by simp [hi]), if_neg (by simp [hi])]
  · rw [if_pos hi]
    split
    · simp
    · split
      · simp
      · omega
theorem cmp_not {a b : Val.V} {c : Int} (h : ¬ (Val.may a = true ∧ Val.may b = true)) : Val.cmp a b c = 0 := by
  rw [Val.cmp, if_neg h]

/-- what a compare of two values owes -/
def CmpP (r : Int) (w : World) (e : Ending) (w' : World) : Prop := e = .returned (.int .i64 r) ∧ Below w.heap.size w w'

theorem heap_two (w : World) (A B : Obj) : ((w.alloc A).alloc B).heap[w.heap.size]? = some A ∧ ((w.alloc A).alloc B).heap[w.heap.size + 1]? = some B := by
  refine ⟨?_, ?_⟩
  · have h1 := (((Below.refl (w.alloc A).heap.size (w.alloc A)).alloc (Nat.le_refl _) B).block w.heap.size (by simp))
    exact h1.trans (heap_new _ _)
  · have h2 := heap_new (w.alloc A) B
    simpa using h2
theorem two_lt (w : World) (A B : Obj) : w.heap.size < ((w.alloc A).alloc B).heap.size ∧ w.heap.size + 1 < ((w.alloc A).alloc B).heap.size := by simp; omega
theorem two_below (w : World) (A B : Obj) {w1 : World} (h : Below ((w.alloc A).alloc B).heap.size ((w.alloc A).alloc B) w1) : Below w.heap.size w w1 :=
  (((Below.refl _ w).alloc (Nat.le_refl _) A).alloc (by simp) B).trans (h.mono (by simp; omega))

theorem rtexts_any (a b : ByteArray) (w : World) :
    Calls Tryz.prog 124 #[.string a, .string b] w fun e w' => e = .returned (.int .i64 (Lib.compareBytes a.data.toList b.data.toList)) ∧ w = w' := by
  have l1 := Val.less_cb a.data.toList b.data.toList
  have z1 := Val.cb_zero a.data.toList b.data.toList
  rcases Val.cb_range a.data.toList b.data.toList with h | h | h
  · rw [h] at l1 ⊢
    have b1 : Op.bytesLess a.toList b.toList = true := by rw [Lib.toList_data, Lib.toList_data, l1]; decide
    clear l1 z1
    go_enter Tryz.func124, Tryz.ntmps124
    go_wp2
    go_ret
    exact ⟨rfl, rfl⟩
  · have e1 := z1.1 h
    rw [h] at l1 ⊢
    have b1 : Op.bytesLess a.toList b.toList = false := by rw [Lib.toList_data, Lib.toList_data, l1]; decide
    have b2 : (a.toList == b.toList) = true := by rw [Lib.toList_data, Lib.toList_data, e1]; simp
    clear l1 z1 e1
    go_enter Tryz.func124, Tryz.ntmps124
    go_wp2
    go_ret
    exact ⟨rfl, rfl⟩
  · have e1 : a.data.toList ≠ b.data.toList := fun he => by rw [z1.2 he] at h; simp at h
    rw [h] at l1 ⊢
    have b1 : Op.bytesLess a.toList b.toList = false := by rw [Lib.toList_data, Lib.toList_data, l1]; decide
    have b2 : (a.toList == b.toList) = false := by rw [Lib.toList_data, Lib.toList_data]; exact beq_false_of_ne e1
    clear l1 z1 e1
    go_enter Tryz.func124, Tryz.ntmps124
    go_wp2
    go_ret
    exact ⟨rfl, rfl⟩

theorem rrank_any (k : Int) (w : World) (h0 : 0 ≤ k) (h1 : k ≤ 3) :
    Calls Tryz.prog 123 #[.int .i64 k] w fun e w' => e = .returned (.int .i64 k) ∧ w = w' := by
  have : k = 0 ∨ k = 1 ∨ k = 2 ∨ k = 3 := by omega
  rcases this with rfl | rfl | rfl | rfl
  all_goals (
    go_enter Tryz.func123, Tryz.ntmps123
    go_wp2
    go_ret
    exact ⟨rfl, rfl⟩)

end Go.Proofs.YtmkgalcojoeniaaGreatDoor
