/- Walks: Written and Print of the reference of layer 15. -/
import Derived.Test.YtiiaamkmnbegdaaDoorRef15D
import Derived.Test.YtiiaamkmnbegdaaDoorValW6
import Derived.Test.YtiiaamkmnbegdaaDoorPrtP
import Derived.Test.YtiiaamkmnbegdaaDoorRowsP
namespace Go.Proofs.YtiiaamkmnbegdaaDoor
set_option maxRecDepth 100000
set_option linter.unusedVariables false
set_option linter.unusedSimpArgs false
open Go.RowKit

theorem keepW {w W W' : World} {k a : Int} {t : ByteArray} (h : W.cell? ⟨w.heap.size, 0, none⟩ = some (.int .i64 k) ∧ W.cell? ⟨w.heap.size, 1, none⟩ = some (.int .i64 a) ∧ W.cell? ⟨w.heap.size, 2, none⟩ = some (.string t) ∧ w.heap.size < W.heap.size ∧ Below w.heap.size w W) (hb : Below W.heap.size W W') : W'.cell? ⟨w.heap.size, 0, none⟩ = some (.int .i64 k) ∧ W'.cell? ⟨w.heap.size, 1, none⟩ = some (.int .i64 a) ∧ W'.cell? ⟨w.heap.size, 2, none⟩ = some (.string t) ∧ w.heap.size < W'.heap.size ∧ Below w.heap.size w W' :=
  ⟨(hb.cell (p := ⟨w.heap.size, 0, none⟩) h.2.2.2.1).trans h.1, (hb.cell (p := ⟨w.heap.size, 1, none⟩) h.2.2.2.1).trans h.2.1, (hb.cell (p := ⟨w.heap.size, 2, none⟩) h.2.2.2.1).trans h.2.2.1, Nat.lt_of_lt_of_le h.2.2.2.1 hb.size, h.2.2.2.2.trans (hb.mono h.2.2.2.2.size)⟩
theorem keepW0 {w W : World} {k a : Int} {t : ByteArray} (h : W.cell? ⟨w.heap.size, 0, none⟩ = some (.int .i64 k) ∧ W.cell? ⟨w.heap.size, 1, none⟩ = some (.int .i64 a) ∧ W.cell? ⟨w.heap.size, 2, none⟩ = some (.string t) ∧ w.heap.size < W.heap.size ∧ Below w.heap.size w W) : W.drew.cell? ⟨w.heap.size, 0, none⟩ = some (.int .i64 k) ∧ W.drew.cell? ⟨w.heap.size, 1, none⟩ = some (.int .i64 a) ∧ W.drew.cell? ⟨w.heap.size, 2, none⟩ = some (.string t) ∧ w.heap.size < W.drew.heap.size ∧ Below w.heap.size w W.drew := ⟨h.1, h.2.1, h.2.2.1, h.2.2.2.1, h.2.2.2.2.drew⟩
theorem startW (w : World) (k a : Int) (t : ByteArray) : (w.alloc (.cells #[.int .i64 k, .int .i64 a, .string t] 31)).cell? ⟨w.heap.size, 0, none⟩ = some (.int .i64 k) ∧ (w.alloc (.cells #[.int .i64 k, .int .i64 a, .string t] 31)).cell? ⟨w.heap.size, 1, none⟩ = some (.int .i64 a) ∧ (w.alloc (.cells #[.int .i64 k, .int .i64 a, .string t] 31)).cell? ⟨w.heap.size, 2, none⟩ = some (.string t) ∧ w.heap.size < (w.alloc (.cells #[.int .i64 k, .int .i64 a, .string t] 31)).heap.size ∧ Below w.heap.size w (w.alloc (.cells #[.int .i64 k, .int .i64 a, .string t] 31)) := by
  have hb := (Below.refl w.heap.size w).alloc (Nat.le_refl _) (.cells #[.int .i64 k, .int .i64 a, .string t] 31)
  obtain ⟨c0, c1, c2, _, _, _⟩ := cells3 (Below.refl _ _) (show w.heap.size < (w.alloc (.cells #[.int .i64 k, .int .i64 a, .string t] 31)).heap.size by simp) (heap_new _ _)
  exact ⟨c0, c1, c2, by simp, hb⟩

theorem rtext_as (kd : Nat) (l : List UInt8) (h : kd = 1 ∨ kd = 2 ∨ kd = 6) : Tok.rtext kd l = l := by
  rw [Tok.rtext, if_neg (by omega), if_neg (by omega), if_neg (by omega)]
theorem fin_is {q : Nat × Bool} {n : Nat} : Tok.fin q = (n : Int) ↔ q.2 = true ∧ q.1 = n := by
  unfold Tok.fin
  split
  · rename_i h; simp [h]; omega
  · rename_i h; simp [h]

set_option maxHeartbeats 2000000 in
theorem rwritten_as (k a : Int) (t : ByteArray) (w : World) (hk : k = 1 ∨ k = 2 ∨ k = 6) (hs : t.size ≤ 1048576) :
    Calls Tryd.prog 51 #[.agg #[.int .i64 k, .int .i64 a, .string t]] w (WrittenP k t w) := by
  have hw := Tok.written_as t.data.toList hk
  have hl : t.data.toList.length = t.size := rfl
  have k3 : (k == 3) = false := by simp; omega
  have k4 : (k == 4) = false := by simp; omega
  have k5 : (k == 5) = false := by simp; omega
  have k1 : decide (k < 1) = false := by simp; omega
  have k6 : decide (k > 6) = false := by simp; omega
  by_cases h0 : t.size = 0
  · have ht : t = ⟨#[]⟩ := by
      have : t.data.toList = [] := List.eq_nil_of_length_eq_zero (by rw [hl]; exact h0)
      rw [← bs_of t, this]; rfl
    subst ht
    rw [if_neg (by rintro ⟨h, _⟩; exact h rfl)] at hw
    replace hw := Lib.hid hw
    clear hl h0 hk
    go_enter Tryd.func51, Tryd.ntmps51
    go_wp2
    go_ret2
    refine ⟨_, false, rfl, fun x hx => ?_, fun _ => rfl, (Below.refl _ w).alloc (Nat.le_refl _) _⟩
    rw [hw.out] at hx; cases hx
  · have hne : t.data.toList ≠ [] := fun h => h0 (by rw [← hl, h]; rfl)
    have hneB : (t.toList == []) = false := by
      have e1 := toList_own t.data.toList
      rw [bs_of] at e1
      rw [e1]
      simp only [beq_eq_false_iff_ne]; exact hne
    have hpos : 0 < t.size := by omega
    have hs4 : t.size ≤ 4294967296 := by omega
    obtain ⟨f, hf⟩ : ∃ f, Tok.fin (Tok.one t.data.toList 0).2 = f := ⟨_, rfl⟩
    obtain ⟨kd, hkd⟩ : ∃ kd, (Tok.one t.data.toList 0).1.kind = kd := ⟨_, rfl⟩
    have hend := rend_any t 0
    rw [hf, hkd] at hend
    have H0 := startW w k a t
    by_cases hfe : f = t.size
    · have hfB : (f == (t.size : Int)) = true := by simp [hfe]
      have hgood := fin_is.1 (hf.trans hfe)
      by_cases hke : (kd : Int) = k
      · have hkB : ((kd : Int) == k) = true := by simp [hke]
        have hsome : Tok.written k t.data.toList = some t.data.toList := by
          rw [hw, if_pos ⟨hne, hgood.1, by rw [hl]; exact hgood.2, by rw [hkd]; exact hke⟩]
        have hrt := rtext_as kd t.data.toList (by omega)
        have hby := fun W => rbytes_any t kd W hs4 (by omega) (by omega) (by omega)
        rw [hrt, bs_of] at hby
        have hrB : (t.toList == t.toList) = true := by simp
        replace hsome := Lib.hid hsome
        replace hgood := Lib.hid hgood
        clear hw hl hf hkd hke hfe hrt hk h0 hne
        go_enter Tryd.func51, Tryd.ntmps51
        go_wp2_with (go_at_call 80; refine (hend _ hs4 hpos).mono ?_; rintro e w1 ⟨rfl, hww⟩; obtain rfl := hww)
        go_region_held3 (fun W => W.cell? ⟨w.heap.size, 0, none⟩ = some (.int .i64 k) ∧ W.cell? ⟨w.heap.size, 1, none⟩ = some (.int .i64 a) ∧ W.cell? ⟨w.heap.size, 2, none⟩ = some (.string t) ∧ w.heap.size < W.heap.size ∧ Below w.heap.size w W) (first | assumption | exact keepW (by assumption) (by assumption) | exact keepW0 (by assumption)) (first
          | (go_at_call 81; refine (hby _).mono ?_; rintro e w1 ⟨rfl, hb1⟩))
        all_goals (
          go_wp2
          go_ret2
          rename_i hh
          refine ⟨t, true, rfl, fun x hx => ?_, fun hx => ?_, hh.2.2.2.2⟩
          · rw [hsome.out] at hx; cases hx; exact ⟨(bs_of t).symm, rfl⟩
          · rw [hsome.out] at hx; cases hx)
      · have hkB : ((kd : Int) == k) = false := by simp [hke]
        have hnone : Tok.written k t.data.toList = none := by
          rw [hw, if_neg (fun h => hke (by rw [hkd] at h; exact h.2.2.2))]
        replace hnone := Lib.hid hnone
        replace hgood := Lib.hid hgood
        clear hw hl hf hkd hke hfe hk h0 hne
        go_enter Tryd.func51, Tryd.ntmps51
        go_wp2_with (go_at_call 80; refine (hend _ hs4 hpos).mono ?_; rintro e w1 ⟨rfl, hww⟩; obtain rfl := hww)
        go_quiet (fail)
        go_wp2
        go_ret2
        refine ⟨t, false, rfl, fun x hx => ?_, fun _ => rfl, below_drewN H0.2.2.2.2 _⟩
        rw [hnone.out] at hx; cases hx
    · have hfB : (f == (t.size : Int)) = false := by simp [hfe]
      have hnone : Tok.written k t.data.toList = none := by
        rw [hw, if_neg (fun h => hfe (by rw [← hf]; exact fin_is.2 ⟨h.2.1, by rw [← hl]; exact h.2.2.1⟩))]
      replace hnone := Lib.hid hnone
      clear hw hl hf hkd hfe hk h0 hne
      go_enter Tryd.func51, Tryd.ntmps51
      go_wp2_with (go_at_call 80; refine (hend _ hs4 hpos).mono ?_; rintro e w1 ⟨rfl, hww⟩; obtain rfl := hww)
      go_quiet (fail)
      go_wp2
      go_ret2
      refine ⟨t, false, rfl, fun x hx => ?_, fun _ => rfl, below_drewN H0.2.2.2.2 _⟩
      rw [hnone.out] at hx; cases hx

theorem rwritten_no (k a : Int) (t : ByteArray) (w : World) (hk : k < 1 ∨ 6 < k) (hs : t.size ≤ 1048576) :
    Calls Tryd.prog 51 #[.agg #[.int .i64 k, .int .i64 a, .string t]] w (WrittenP k t w) := by
  have hw := Tok.written_no t.data.toList hk
  have k3 : (k == 3) = false := by simp; omega
  have k4 : (k == 4) = false := by simp; omega
  have k5 : (k == 5) = false := by simp; omega
  replace hw := Lib.hid hw
  have hfin : WrittenP k t w (.returned (.tuple #[.string ⟨#[]⟩, .bool false])) (w.alloc (.cells #[.int .i64 k, .int .i64 a, .string t] 31)) := by
    refine ⟨_, false, rfl, fun x hx => ?_, fun _ => rfl, (Below.refl _ w).alloc (Nat.le_refl _) _⟩
    rw [hw.out] at hx; cases hx
  by_cases h0 : (t.toList == []) = true
  · go_enter Tryd.func51, Tryd.ntmps51
    go_wp2
    go_ret2
    exact hfin
  · have h0B : (t.toList == []) = false := by simpa using h0
    clear h0
    rcases hk with hk | hk
    · have k1 : decide (k < 1) = true := by simp; omega
      clear hk
      go_enter Tryd.func51, Tryd.ntmps51
      go_wp2
      go_ret2
      exact hfin
    · have k1 : decide (k < 1) = false := by simp; omega
      have k6 : decide (k > 6) = true := by simp; omega
      clear hk
      go_enter Tryd.func51, Tryd.ntmps51
      go_wp2
      go_ret2
      exact hfin

end Go.Proofs.YtiiaamkmnbegdaaDoor
