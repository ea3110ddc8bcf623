/- Walks: written of package token. -/
import Derived.Test.YtaeplgakpacobaaDoorTokW6
import Derived.Test.YtaeplgakpacobaaDoorLib
set_option maxRecDepth 100000
set_option linter.unusedVariables false
set_option linter.unusedSimpArgs false
namespace Go.Proofs.YtaeplgakpacobaaDoor
open Go.RowKit

/-- what written answers -/
def WrittenP (k : Int) (t : ByteArray) (w : World) (e : Ending) (w' : World) : Prop :=
  ∃ v ok, e = .returned (.tuple #[.string v, .bool ok]) ∧ (∀ x, Tok.written k t.data.toList = some x → v = bs x ∧ ok = true) ∧ (Tok.written k t.data.toList = none → ok = false) ∧ Below w.heap.size w w'

set_option maxHeartbeats 800000 in
theorem written_text (a : Int) (t : ByteArray) (w : World) (hM : MaxL w) (hs : t.size ≤ 1048576) :
    Calls Tryd.prog 22 #[.agg #[.int .i64 3, .int .i64 a, .string t]] w (WrittenP 3 t w) := by
  have hw := Tok.written_text t.data.toList
  replace hw := Lib.hid hw
  have hz : (bs (Tok.dbl t.data.toList)).size ≤ 2097152 := by
    have h1 := Tok.dbl_len t.data.toList
    have h2 : t.data.toList.length = t.size := rfl
    rw [bs_size]; omega
  have z1 : ¬ 9223372036854775807 < 1 + (bs (Tok.dbl t.data.toList)).size := by omega
  have z2 : ¬ 9223372036854775807 < 1 + (bs (Tok.dbl t.data.toList)).size + 1 := by omega
  go_enter Tryd.func22, Tryd.ntmps22
  go_wp2_with (go_at_call 35; refine (replace_any t _ (hM.alloc _) hs).mono ?_; rintro e w1 ⟨rfl, hb⟩)
  go_ret2
  refine ⟨_, true, rfl, fun x hx => ⟨?_, rfl⟩, fun hx => ?_, ?_⟩
  · rw [hw.out] at hx
    cases hx
    rw [bs_one, bs_app, bs_app]; rfl
  · rw [hw.out] at hx; cases hx
  · exact ((Below.refl _ w).alloc (Nat.le_refl _) _).trans (hb.mono (by simp))

theorem written_none (k a : Int) (t : ByteArray) (w : World) (hk : k < 1 ∨ 6 < k) :
    Calls Tryd.prog 22 #[.agg #[.int .i64 k, .int .i64 a, .string t]] w (WrittenP k t w) := by
  have hw := Tok.written_no t.data.toList hk
  replace hw := Lib.hid hw
  have k1 : (k == 1) = false := by simp; omega
  have k2 : (k == 2) = false := by simp; omega
  have k3 : (k == 3) = false := by simp; omega
  have k4 : (k == 4) = false := by simp; omega
  have k5 : (k == 5) = false := by simp; omega
  have k6 : (k == 6) = false := by simp; omega
  go_enter Tryd.func22, Tryd.ntmps22
  go_wp2
  go_ret2
  refine ⟨_, false, rfl, fun x hx => ?_, fun _ => rfl, (Below.refl _ w).alloc (Nat.le_refl _) _⟩
  rw [hw.out] at hx; cases hx

set_option maxHeartbeats 800000 in
theorem written_param (a : Int) (t : ByteArray) (w : World) (hs : t.size ≤ 1048576) :
    Calls Tryd.prog 22 #[.agg #[.int .i64 5, .int .i64 a, .string t]] w (WrittenP 5 t w) := by
  have hw := Tok.written_param t.data.toList
  obtain ⟨r, hr⟩ : ∃ r, r = Tok.runEnd Tok.digit t.data.toList 0 := ⟨_, rfl⟩
  rw [← hr] at hw
  have hl : t.data.toList.length = t.size := rfl
  rw [hl] at hw
  replace hw := Lib.hid hw
  replace hr := Lib.hid hr
  have z1 : ¬ 9223372036854775807 < 1 + t.size := by omega
  clear hl
  go_enter Tryd.func22, Tryd.ntmps22
  go_wp2
  go_quiet (first
    | (go_at_call_of 25 (Value.string t); exact quiet_mine (run_digit_is t 0 _ hr (by omega) (by omega)))
    | (go_at_call 25; exact quiet_mine (run_digit_is t 0 _ hr (by omega) (by omega))))
  go_wp2
  go_ret2
  refine ⟨_, _, rfl, fun x hx => ?_, fun hx => ?_, below_drewN ((Below.refl _ w).alloc (Nat.le_refl _) _) _⟩
  · rw [hw.out] at hx
    split at hx
    · cases hx
      refine ⟨?_, by simp; omega⟩
      rw [bs_one, ← bs_of t, bs_app]; rfl
    · cases hx
  · rw [hw.out] at hx
    split at hx
    · cases hx
    · simp; omega

theorem one_zero {kd e : Nat} {tx : List UInt8} {ok : Bool} (s : ByteArray) (w : World) (h : Hid (Tok.one s.data.toList 0 = (⟨kd, 0, tx⟩, e, ok))) (hs : s.size ≤ 1048576) (h1 : 0 < s.size) :
    Calls Tryd.prog 47 #[.string s, .int .i64 0] w fun e' w' => e' = .returned (.tuple #[.agg #[.int .i64 (kd : Int), .int .i64 0, .string (bs tx)], .int .i64 (e : Int), .bool ok]) ∧ Below w.heap.size w w' :=
  (one_any s 0 w (by omega) (by omega) (by omega)).mono fun _ _ ⟨h2, h3⟩ => by
    rw [Int.toNat_zero, h.out] at h2
    exact ⟨h2, h3⟩

set_option maxHeartbeats 800000 in
theorem written_as1 (a : Int) (t : ByteArray) (w : World) (hs : t.size ≤ 1048576) :
    Calls Tryd.prog 22 #[.agg #[.int .i64 1, .int .i64 a, .string t]] w (WrittenP 1 t w) := by
  have hw := Tok.written_as t.data.toList (show (1 : Int) = 1 ∨ (1 : Int) = 2 ∨ (1 : Int) = 6 by decide)
  have hl : t.data.toList.length = t.size := rfl
  by_cases h0 : t.size = 0
  · have ht : t = ⟨#[]⟩ := by
      have : t.data.toList = [] := List.eq_nil_of_length_eq_zero (by rw [hl]; exact h0)
      rw [← bs_of t, this]; rfl
    subst ht
    rw [if_neg (by rintro ⟨h, _⟩; exact h rfl)] at hw
    replace hw := Lib.hid hw
    clear hl h0
    go_enter Tryd.func22, Tryd.ntmps22
    go_wp2
    go_ret2
    refine ⟨_, false, rfl, fun x hx => ?_, fun _ => rfl, (Below.refl _ w).alloc (Nat.le_refl _) _⟩
    rw [hw.out] at hx; cases hx
  · have hne : t.data.toList ≠ [] := fun h => h0 (by rw [← hl, h]; rfl)
    obtain ⟨kd, tx, e, ok, hone⟩ : ∃ kd tx e ok, Tok.one t.data.toList 0 = (⟨kd, 0, tx⟩, e, ok) := ⟨(Tok.one t.data.toList 0).1.kind, (Tok.one t.data.toList 0).1.text, (Tok.one t.data.toList 0).2.1, (Tok.one t.data.toList 0).2.2, by
      have := Tok.one_at t.data.toList 0
      revert this
      rcases Tok.one t.data.toList 0 with ⟨⟨k', a', x'⟩, e', ok'⟩
      intro this
      have h0 : a' = 0 := this
      subst h0; rfl⟩
    rw [hone, hl] at hw
    simp only at hw
    have hneB : (t.toList == []) = false := by
      have e1 := toList_own t.data.toList
      rw [bs_of] at e1
      rw [e1]
      simp only [beq_eq_false_iff_ne]; exact hne
    have hpos : 0 < t.size := by omega
    have hsome : (ok = true ∧ e = t.size ∧ kd = 1) → Tok.written 1 t.data.toList = some t.data.toList := fun h => by
      rw [hw, if_pos ⟨hne, h.1, h.2.1, by rw [h.2.2]; rfl⟩]
    have hnone : ¬ (ok = true ∧ e = t.size ∧ kd = 1) → Tok.written 1 t.data.toList = none := fun h => by
      rw [hw, if_neg (fun h' => h ⟨h'.2.1, h'.2.2.1, by have := h'.2.2.2; omega⟩)]
    replace hone := Lib.hid hone
    have hfin : ∀ (b : Bool) (w' : World), b = decide (ok = true ∧ e = t.size ∧ kd = 1) → Below w.heap.size w w' → WrittenP 1 t w (.returned (.tuple #[.string t, .bool b])) w' := fun b w' hb hB => by
      refine ⟨t, b, rfl, fun x hx => ?_, fun hx => ?_, hB⟩
      · by_cases h : ok = true ∧ e = t.size ∧ kd = 1
        · rw [hsome h] at hx; cases hx; exact ⟨rfl, by rw [hb]; exact decide_eq_true h⟩
        · rw [hnone h] at hx; cases hx
      · by_cases h : ok = true ∧ e = t.size ∧ kd = 1
        · rw [hsome h] at hx; cases hx
        · rw [hb]; exact decide_eq_false h
    replace hfin := Lib.hid hfin
    clear hsome hnone hw hne hl h0
    cases ok with
    | false =>
      go_enter Tryd.func22, Tryd.ntmps22
      go_wp2_with (go_at_call 47; go_must (refine (one_zero t _ hone hs hpos).mono ?_; rintro e' w1 ⟨rfl, hb⟩; obtain ⟨c0, c1, c2, f0, f1, f2⟩ := cells3 hb (by simp) (heap_new _ _); have hz : w.heap.size < w1.heap.size := (by have := hb.size; simp at this; omega)))
      go_quiet (fail)
      go_wp2
      go_ret2
      exact hfin.out _ _ (by simp) (below_drewN ((((Below.refl _ w).alloc (Nat.le_refl _) _).trans (hb.mono (by simp))).alloc (Nat.le_trans (by simp) hb.size) _) _)
    | true =>
      by_cases he : e = t.size
      · have b1 : ((e : Int) == (t.size : Int)) = true := by simp [he]
        by_cases hk : kd = 1
        · have b2 : ((kd : Int) == 1) = true := by simp; omega
          go_enter Tryd.func22, Tryd.ntmps22
          go_wp2_with (go_at_call 47; go_must (refine (one_zero t _ hone hs hpos).mono ?_; rintro e' w1 ⟨rfl, hb⟩; obtain ⟨c0, c1, c2, f0, f1, f2⟩ := cells3 hb (by simp) (heap_new _ _); have hz : w.heap.size < w1.heap.size := (by have := hb.size; simp at this; omega)))
          go_quiet (fail)
          go_wp2
          go_ret2
          exact hfin.out _ _ (by simp [he, hk]) (below_drewN ((((Below.refl _ w).alloc (Nat.le_refl _) _).trans (hb.mono (by simp))).alloc (Nat.le_trans (by simp) hb.size) _) _)
        · have b2 : ((kd : Int) == 1) = false := by simp; omega
          go_enter Tryd.func22, Tryd.ntmps22
          go_wp2_with (go_at_call 47; go_must (refine (one_zero t _ hone hs hpos).mono ?_; rintro e' w1 ⟨rfl, hb⟩; obtain ⟨c0, c1, c2, f0, f1, f2⟩ := cells3 hb (by simp) (heap_new _ _); have hz : w.heap.size < w1.heap.size := (by have := hb.size; simp at this; omega)))
          go_quiet (fail)
          go_wp2
          go_ret2
          exact hfin.out _ _ (by simp [hk]) (below_drewN ((((Below.refl _ w).alloc (Nat.le_refl _) _).trans (hb.mono (by simp))).alloc (Nat.le_trans (by simp) hb.size) _) _)
      · have b1 : ((e : Int) == (t.size : Int)) = false := by simp; omega
        go_enter Tryd.func22, Tryd.ntmps22
        go_wp2_with (go_at_call 47; go_must (refine (one_zero t _ hone hs hpos).mono ?_; rintro e' w1 ⟨rfl, hb⟩; obtain ⟨c0, c1, c2, f0, f1, f2⟩ := cells3 hb (by simp) (heap_new _ _); have hz : w.heap.size < w1.heap.size := (by have := hb.size; simp at this; omega)))
        go_quiet (fail)
        go_wp2
        go_ret2
        exact hfin.out _ _ (by simp [he]) (below_drewN ((((Below.refl _ w).alloc (Nat.le_refl _) _).trans (hb.mono (by simp))).alloc (Nat.le_trans (by simp) hb.size) _) _)
set_option maxHeartbeats 800000 in
theorem written_as2 (a : Int) (t : ByteArray) (w : World) (hs : t.size ≤ 1048576) :
    Calls Tryd.prog 22 #[.agg #[.int .i64 2, .int .i64 a, .string t]] w (WrittenP 2 t w) := by
  have hw := Tok.written_as t.data.toList (show (2 : Int) = 1 ∨ (2 : Int) = 2 ∨ (2 : Int) = 6 by decide)
  have hl : t.data.toList.length = t.size := rfl
  by_cases h0 : t.size = 0
  · have ht : t = ⟨#[]⟩ := by
      have : t.data.toList = [] := List.eq_nil_of_length_eq_zero (by rw [hl]; exact h0)
      rw [← bs_of t, this]; rfl
    subst ht
    rw [if_neg (by rintro ⟨h, _⟩; exact h rfl)] at hw
    replace hw := Lib.hid hw
    clear hl h0
    go_enter Tryd.func22, Tryd.ntmps22
    go_wp2
    go_ret2
    refine ⟨_, false, rfl, fun x hx => ?_, fun _ => rfl, (Below.refl _ w).alloc (Nat.le_refl _) _⟩
    rw [hw.out] at hx; cases hx
  · have hne : t.data.toList ≠ [] := fun h => h0 (by rw [← hl, h]; rfl)
    obtain ⟨kd, tx, e, ok, hone⟩ : ∃ kd tx e ok, Tok.one t.data.toList 0 = (⟨kd, 0, tx⟩, e, ok) := ⟨(Tok.one t.data.toList 0).1.kind, (Tok.one t.data.toList 0).1.text, (Tok.one t.data.toList 0).2.1, (Tok.one t.data.toList 0).2.2, by
      have := Tok.one_at t.data.toList 0
      revert this
      rcases Tok.one t.data.toList 0 with ⟨⟨k', a', x'⟩, e', ok'⟩
      intro this
      have h0 : a' = 0 := this
      subst h0; rfl⟩
    rw [hone, hl] at hw
    simp only at hw
    have hneB : (t.toList == []) = false := by
      have e1 := toList_own t.data.toList
      rw [bs_of] at e1
      rw [e1]
      simp only [beq_eq_false_iff_ne]; exact hne
    have hpos : 0 < t.size := by omega
    have hsome : (ok = true ∧ e = t.size ∧ kd = 2) → Tok.written 2 t.data.toList = some t.data.toList := fun h => by
      rw [hw, if_pos ⟨hne, h.1, h.2.1, by rw [h.2.2]; rfl⟩]
    have hnone : ¬ (ok = true ∧ e = t.size ∧ kd = 2) → Tok.written 2 t.data.toList = none := fun h => by
      rw [hw, if_neg (fun h' => h ⟨h'.2.1, h'.2.2.1, by have := h'.2.2.2; omega⟩)]
    replace hone := Lib.hid hone
    have hfin : ∀ (b : Bool) (w' : World), b = decide (ok = true ∧ e = t.size ∧ kd = 2) → Below w.heap.size w w' → WrittenP 2 t w (.returned (.tuple #[.string t, .bool b])) w' := fun b w' hb hB => by
      refine ⟨t, b, rfl, fun x hx => ?_, fun hx => ?_, hB⟩
      · by_cases h : ok = true ∧ e = t.size ∧ kd = 2
        · rw [hsome h] at hx; cases hx; exact ⟨rfl, by rw [hb]; exact decide_eq_true h⟩
        · rw [hnone h] at hx; cases hx
      · by_cases h : ok = true ∧ e = t.size ∧ kd = 2
        · rw [hsome h] at hx; cases hx
        · rw [hb]; exact decide_eq_false h
    replace hfin := Lib.hid hfin
    clear hsome hnone hw hne hl h0
    cases ok with
    | false =>
      go_enter Tryd.func22, Tryd.ntmps22
      go_wp2_with (go_at_call 47; go_must (refine (one_zero t _ hone hs hpos).mono ?_; rintro e' w1 ⟨rfl, hb⟩; obtain ⟨c0, c1, c2, f0, f1, f2⟩ := cells3 hb (by simp) (heap_new _ _); have hz : w.heap.size < w1.heap.size := (by have := hb.size; simp at this; omega)))
      go_quiet (fail)
      go_wp2
      go_ret2
      exact hfin.out _ _ (by simp) (below_drewN ((((Below.refl _ w).alloc (Nat.le_refl _) _).trans (hb.mono (by simp))).alloc (Nat.le_trans (by simp) hb.size) _) _)
    | true =>
      by_cases he : e = t.size
      · have b1 : ((e : Int) == (t.size : Int)) = true := by simp [he]
        by_cases hk : kd = 2
        · have b2 : ((kd : Int) == 2) = true := by simp; omega
          go_enter Tryd.func22, Tryd.ntmps22
          go_wp2_with (go_at_call 47; go_must (refine (one_zero t _ hone hs hpos).mono ?_; rintro e' w1 ⟨rfl, hb⟩; obtain ⟨c0, c1, c2, f0, f1, f2⟩ := cells3 hb (by simp) (heap_new _ _); have hz : w.heap.size < w1.heap.size := (by have := hb.size; simp at this; omega)))
          go_quiet (fail)
          go_wp2
          go_ret2
          exact hfin.out _ _ (by simp [he, hk]) (below_drewN ((((Below.refl _ w).alloc (Nat.le_refl _) _).trans (hb.mono (by simp))).alloc (Nat.le_trans (by simp) hb.size) _) _)
        · have b2 : ((kd : Int) == 2) = false := by simp; omega
          go_enter Tryd.func22, Tryd.ntmps22
          go_wp2_with (go_at_call 47; go_must (refine (one_zero t _ hone hs hpos).mono ?_; rintro e' w1 ⟨rfl, hb⟩; obtain ⟨c0, c1, c2, f0, f1, f2⟩ := cells3 hb (by simp) (heap_new _ _); have hz : w.heap.size < w1.heap.size := (by have := hb.size; simp at this; omega)))
          go_quiet (fail)
          go_wp2
          go_ret2
          exact hfin.out _ _ (by simp [hk]) (below_drewN ((((Below.refl _ w).alloc (Nat.le_refl _) _).trans (hb.mono (by simp))).alloc (Nat.le_trans (by simp) hb.size) _) _)
      · have b1 : ((e : Int) == (t.size : Int)) = false := by simp; omega
        go_enter Tryd.func22, Tryd.ntmps22
        go_wp2_with (go_at_call 47; go_must (refine (one_zero t _ hone hs hpos).mono ?_; rintro e' w1 ⟨rfl, hb⟩; obtain ⟨c0, c1, c2, f0, f1, f2⟩ := cells3 hb (by simp) (heap_new _ _); have hz : w.heap.size < w1.heap.size := (by have := hb.size; simp at this; omega)))
        go_quiet (fail)
        go_wp2
        go_ret2
        exact hfin.out _ _ (by simp [he]) (below_drewN ((((Below.refl _ w).alloc (Nat.le_refl _) _).trans (hb.mono (by simp))).alloc (Nat.le_trans (by simp) hb.size) _) _)
set_option maxHeartbeats 800000 in
theorem written_as6 (a : Int) (t : ByteArray) (w : World) (hs : t.size ≤ 1048576) :
    Calls Tryd.prog 22 #[.agg #[.int .i64 6, .int .i64 a, .string t]] w (WrittenP 6 t w) := by
  have hw := Tok.written_as t.data.toList (show (6 : Int) = 1 ∨ (6 : Int) = 2 ∨ (6 : Int) = 6 by decide)
  have hl : t.data.toList.length = t.size := rfl
  by_cases h0 : t.size = 0
  · have ht : t = ⟨#[]⟩ := by
      have : t.data.toList = [] := List.eq_nil_of_length_eq_zero (by rw [hl]; exact h0)
      rw [← bs_of t, this]; rfl
    subst ht
    rw [if_neg (by rintro ⟨h, _⟩; exact h rfl)] at hw
    replace hw := Lib.hid hw
    clear hl h0
    go_enter Tryd.func22, Tryd.ntmps22
    go_wp2
    go_ret2
    refine ⟨_, false, rfl, fun x hx => ?_, fun _ => rfl, (Below.refl _ w).alloc (Nat.le_refl _) _⟩
    rw [hw.out] at hx; cases hx
  · have hne : t.data.toList ≠ [] := fun h => h0 (by rw [← hl, h]; rfl)
    obtain ⟨kd, tx, e, ok, hone⟩ : ∃ kd tx e ok, Tok.one t.data.toList 0 = (⟨kd, 0, tx⟩, e, ok) := ⟨(Tok.one t.data.toList 0).1.kind, (Tok.one t.data.toList 0).1.text, (Tok.one t.data.toList 0).2.1, (Tok.one t.data.toList 0).2.2, by
      have := Tok.one_at t.data.toList 0
      revert this
      rcases Tok.one t.data.toList 0 with ⟨⟨k', a', x'⟩, e', ok'⟩
      intro this
      have h0 : a' = 0 := this
      subst h0; rfl⟩
    rw [hone, hl] at hw
    simp only at hw
    have hneB : (t.toList == []) = false := by
      have e1 := toList_own t.data.toList
      rw [bs_of] at e1
      rw [e1]
      simp only [beq_eq_false_iff_ne]; exact hne
    have hpos : 0 < t.size := by omega
    have hsome : (ok = true ∧ e = t.size ∧ kd = 6) → Tok.written 6 t.data.toList = some t.data.toList := fun h => by
      rw [hw, if_pos ⟨hne, h.1, h.2.1, by rw [h.2.2]; rfl⟩]
    have hnone : ¬ (ok = true ∧ e = t.size ∧ kd = 6) → Tok.written 6 t.data.toList = none := fun h => by
      rw [hw, if_neg (fun h' => h ⟨h'.2.1, h'.2.2.1, by have := h'.2.2.2; omega⟩)]
    replace hone := Lib.hid hone
    have hfin : ∀ (b : Bool) (w' : World), b = decide (ok = true ∧ e = t.size ∧ kd = 6) → Below w.heap.size w w' → WrittenP 6 t w (.returned (.tuple #[.string t, .bool b])) w' := fun b w' hb hB => by
      refine ⟨t, b, rfl, fun x hx => ?_, fun hx => ?_, hB⟩
      · by_cases h : ok = true ∧ e = t.size ∧ kd = 6
        · rw [hsome h] at hx; cases hx; exact ⟨rfl, by rw [hb]; exact decide_eq_true h⟩
        · rw [hnone h] at hx; cases hx
      · by_cases h : ok = true ∧ e = t.size ∧ kd = 6
        · rw [hsome h] at hx; cases hx
        · rw [hb]; exact decide_eq_false h
    replace hfin := Lib.hid hfin
    clear hsome hnone hw hne hl h0
    cases ok with
    | false =>
      go_enter Tryd.func22, Tryd.ntmps22
      go_wp2_with (go_at_call 47; go_must (refine (one_zero t _ hone hs hpos).mono ?_; rintro e' w1 ⟨rfl, hb⟩; obtain ⟨c0, c1, c2, f0, f1, f2⟩ := cells3 hb (by simp) (heap_new _ _); have hz : w.heap.size < w1.heap.size := (by have := hb.size; simp at this; omega)))
      go_quiet (fail)
      go_wp2
      go_ret2
      exact hfin.out _ _ (by simp) (below_drewN ((((Below.refl _ w).alloc (Nat.le_refl _) _).trans (hb.mono (by simp))).alloc (Nat.le_trans (by simp) hb.size) _) _)
    | true =>
      by_cases he : e = t.size
      · have b1 : ((e : Int) == (t.size : Int)) = true := by simp [he]
        by_cases hk : kd = 6
        · have b2 : ((kd : Int) == 6) = true := by simp; omega
          go_enter Tryd.func22, Tryd.ntmps22
          go_wp2_with (go_at_call 47; go_must (refine (one_zero t _ hone hs hpos).mono ?_; rintro e' w1 ⟨rfl, hb⟩; obtain ⟨c0, c1, c2, f0, f1, f2⟩ := cells3 hb (by simp) (heap_new _ _); have hz : w.heap.size < w1.heap.size := (by have := hb.size; simp at this; omega)))
          go_quiet (fail)
          go_wp2
          go_ret2
          exact hfin.out _ _ (by simp [he, hk]) (below_drewN ((((Below.refl _ w).alloc (Nat.le_refl _) _).trans (hb.mono (by simp))).alloc (Nat.le_trans (by simp) hb.size) _) _)
        · have b2 : ((kd : Int) == 6) = false := by simp; omega
          go_enter Tryd.func22, Tryd.ntmps22
          go_wp2_with (go_at_call 47; go_must (refine (one_zero t _ hone hs hpos).mono ?_; rintro e' w1 ⟨rfl, hb⟩; obtain ⟨c0, c1, c2, f0, f1, f2⟩ := cells3 hb (by simp) (heap_new _ _); have hz : w.heap.size < w1.heap.size := (by have := hb.size; simp at this; omega)))
          go_quiet (fail)
          go_wp2
          go_ret2
          exact hfin.out _ _ (by simp [hk]) (below_drewN ((((Below.refl _ w).alloc (Nat.le_refl _) _).trans (hb.mono (by simp))).alloc (Nat.le_trans (by simp) hb.size) _) _)
      · have b1 : ((e : Int) == (t.size : Int)) = false := by simp; omega
        go_enter Tryd.func22, Tryd.ntmps22
        go_wp2_with (go_at_call 47; go_must (refine (one_zero t _ hone hs hpos).mono ?_; rintro e' w1 ⟨rfl, hb⟩; obtain ⟨c0, c1, c2, f0, f1, f2⟩ := cells3 hb (by simp) (heap_new _ _); have hz : w.heap.size < w1.heap.size := (by have := hb.size; simp at this; omega)))
        go_quiet (fail)
        go_wp2
        go_ret2
        exact hfin.out _ _ (by simp [he]) (below_drewN ((((Below.refl _ w).alloc (Nat.le_refl _) _).trans (hb.mono (by simp))).alloc (Nat.le_trans (by simp) hb.size) _) _)

theorem byteC_hexs (l : List UInt8) (c : UInt8) : Lib.byteCells (Tok.hexs (l ++ [c])) = Lib.byteCells (Tok.hexs l) ++ [.int .u8 ((Tok.dig (c.toNat / 16)).toNat : Int)] ++ [.int .u8 ((Tok.dig (c.toNat % 16)).toNat : Int)] := by
  rw [Tok.hexs_append]
  simp [Tok.hexs, Lib.byteCells]

end Go.Proofs.YtaeplgakpacobaaDoor
