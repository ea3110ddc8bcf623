/- Walks: SameTexts and Split of the reference of layer 15. -/
import Derived.Test.YtiiaamkmnbegdaaSplitW
namespace Go.Proofs.Ytiiaamkmnbegdaa
open Go.RowKit

theorem strC_at (L : List (List UInt8)) (k : Nat) (h : k < L.length) : (strC L)[k]? = some (.string (bs L[k])) := by simp [strC, h]

theorem drewN_two (w : World) (m n : Nat) : (w.drewN m).drewN n = w.drewN (m + n) := by simp [World.drewN, Nat.add_assoc]

set_option maxHeartbeats 400000 in
theorem same_any (b1 b2 : Nat) (p p' : Option Addr) (N c c' : Nat) (L : List (List UInt8)) (w : World) (hN : N ≤ 1048576) (hl : Hid (L.length = N))
    (ha : w.ownsRow b1 9 1 (.slice p N c) N (strC L)) (hb : w.ownsRow b2 9 1 (.slice p' N c') N (strC L)) :
    Calls Try.prog 10 #[.slice p N c, .slice p' N c'] w fun e w' => e = .returned (.bool true) ∧ Below w.heap.size w w' := by
  go_enter Try.func10, Try.ntmps10
  go_wp2
  go_loopw [5] (fun i wr => ∃ k m : Nat, i = .int .i64 (k : Int) ∧ k ≤ N ∧ Hid (wr = w.drewN m)) (fun i _ => N - (intOf i).toNat)
  case atStart => exact ⟨0, 0, by go_num, by omega, Lib.hid rfl⟩
  case round =>
    obtain ⟨k, m, rfl, hk, hwr⟩ := hrel
    have ha1 : wr.ownsRow b1 9 1 (.slice p N c) N (strC L) := by rw [hwr.out]; exact ha
    have hb1 : wr.ownsRow b2 9 1 (.slice p' N c') N (strC L) := by rw [hwr.out]; exact hb
    by_cases hlt : k < N
    · obtain ⟨g, cap, hf, _, _⟩ := ha1.form (by omega)
      simp only [Value.slice.injEq, true_and] at hf
      obtain ⟨rfl, rfl⟩ := hf
      obtain ⟨g', cap', hf, _, _⟩ := hb1.form (by omega)
      simp only [Value.slice.injEq, true_and] at hf
      obtain ⟨rfl, rfl⟩ := hf
      have hkL : k < L.length := by rw [hl.out]; exact hlt
      obtain ⟨t, ht⟩ : ∃ t, bs L[k] = t := ⟨_, rfl⟩
      have e1 := strC_at L k hkL
      rw [ht] at e1
      have r1 := (ha1.cellAt k (by omega)).trans e1
      have r2 := (hb1.cellAt k (by omega)).trans e1
      clear e1 ht
      have i0 : (0 : Int) ≤ (k : Int) := by omega
      have i1 : (k : Int) < (N : Int) := by omega
      go_wp2
      go_quiet (fail)
      go_wp2
      refine ⟨⟨k + 1, m + nq, by go_num, by omega, Lib.hid ?_⟩, by simp [intOf]; omega⟩
      rw [hwr.out]
      exact drewN_two w m nq
    · go_wp2
      go_ret
      refine ⟨rfl, ?_⟩
      rw [hwr.out]
      exact below_drewN (Below.refl _ _) _

end Go.Proofs.Ytiiaamkmnbegdaa
