/- The law SorterTells: Compound, Distinct of both sides. -/
import Derived.Test.YtdapnemcdgjeeaaDoorRsor
import Derived.Test.YtdapnemcdgjeeaaDoorHead20
set_option maxRecDepth 100000
set_option linter.unusedVariables false
set_option linter.unusedSimpArgs false
namespace Go.Proofs.YtdapnemcdgjeeaaDoor
open Go.RowKit

theorem Sets.ddF_len {α : Type} [DecidableEq α] : ∀ (l out : List α), (Sets.ddF out l).length ≤ out.length + l.length := by
  intro l
  induction l with
  | nil => intro out; exact Nat.le_refl _
  | cons x l ih =>
    intro out
    by_cases h : x ∈ out
    · rw [Sets.ddF_in h, List.length_cons]; have := ih out; omega
    · rw [Sets.ddF_out h, List.length_cons]; have := ih (out ++ [x]); rw [List.length_append] at this; simp at this; omega
theorem Sets.dd_len {α : Type} [DecidableEq α] (l : List α) : (Sets.dd l).length ≤ l.length := by have := Sets.ddF_len l []; simpa [Sets.dd] using this
theorem compV_b {cn : Int} {a b : List (List Val.V)} (ha : RowsB a) (hb : RowsB b) (hN : a.length ≤ 1048576) (hM : b.length ≤ 1048576) : RowsB (compV cn a b) := by
  have hab := ha.app hb (by omega)
  have dl : ∀ {l : List (List Val.V)}, RowsB l → RowsB (Sets.dd l) := fun {l} h => ⟨Nat.le_trans (Sets.dd_len l) h.1, fun r hr => h.2 r ((Sets.mem_dd _ _).1 hr)⟩
  have kl : ∀ w, RowsB (keepV b w a) := fun w => ⟨Nat.le_trans (keep_len b w a) ha.1, fun r hr => ha.2 r ((List.mem_filter.1 hr).1)⟩
  unfold compV
  split
  · exact hab
  · split
    · exact dl hab
    · split
      · exact dl (kl _)
      · split
        · exact dl (kl _)
        · exact ⟨by simp, fun r hr => by cases hr⟩
set_option maxHeartbeats 1000000 in
theorem sorter_tells (T : Lib.PrintTabs) (cn : Int) (p : Option Addr) (N c : Nat) (q : Option Addr) (M c' : Nat) (ra rb : List (List Val.V)) (w : World) (hA : RowsAt w p N ra) (hA' : RowsAt w q M rb) (hB1 : RowsB ra) (hB2 : RowsB rb) (hN : N ≤ 1048576) (hM : M ≤ 1048576) (hI1 : RowsI ra) (hI2 : RowsI rb) (hT : Tabs T w) :
    Calls Tryd.prog 3 #[.int .i64 cn, .slice p N c, .slice q M c'] w fun e w' => e = .returned (.bool true) ∧ Below w.heap.size w w' := by
  have hC : RowsB (compV cn ra rb) := compV_b hB1 hB2 (by rw [hA.1]; exact hN) (by rw [hA'.1]; exact hM)
  have hD : RowsB (Sets.dd ra) := ⟨Nat.le_trans (Sets.dd_len ra) hB1.1, fun r hr => hB1.2 r ((Sets.mem_dd _ _).1 hr)⟩
  have hE : (compE cn == compE cn) = true := by simp
  replace hC := Lib.hid hC
  replace hD := Lib.hid hD
  replace hB1 := Lib.hid hB1
  replace hB2 := Lib.hid hB2
  replace hI1 := Lib.hid hI1
  replace hI2 := Lib.hid hI2
  replace hT := Lib.hid hT
  go_enter Tryd.func3, Tryd.ntmps3
  go_wp2_with (first
    | (go_at_call 7; refine (scompound_is T cn p N c q M c' ra rb _ hA hA' hB1.out hB2.out hN hM hI1.out hI2.out hT.out).mono ?_; rintro e w1 ⟨q1, c1, rfl, hR1, hb1⟩)
    | (go_at_call 8; refine (rcompound_is cn p N c q M c' ra rb _ (hA.below hb1) (hA'.below hb1) hB1.out hB2.out hN hM).mono ?_; rintro e w2 ⟨q2, c2, rfl, hR2, hb2⟩; have hb12 := hb1.trans (hb2.mono hb1.size))
    | (go_at_call 9; refine (head_any T _ (hT.out.below hb12)).mono ?_; rintro e w3 ⟨rfl, hb3⟩; have hb13 := hb12.trans (hb3.mono hb12.size))
    | (go_at_call 11; refine (sdistinct_is T p N c ra _ (hA.below hb14) hB1.out hI1.out (hT.out.below hb14)).mono ?_; rintro e w5 ⟨q5, c5, rfl, ho5, hb5⟩; have hb15 := hb14.trans (hb5.mono hb14.size))
    | (go_at_call 12; refine (rdistinct_is p N c ra _ (hA.below hb15) hB1.out).mono ?_; rintro e w6 ⟨q6, c6, rfl, ho6, hb6⟩; have hb16 := hb15.trans (hb6.mono hb15.size))
    | (go_at_call 10; go_loud (first
      | (refine (sameRows_is _ _ _ _ _ _ _ _ _ (ho5.rows.below hb6) ho6.rows hD.out true (Lib.hid (by simp))).mono ?_; rintro e w7 ⟨rfl, hb7⟩; have hb17 := hb16.trans (hb7.mono hb16.size))
      | (refine (sameRows_is _ _ _ _ _ _ _ _ _ ((hR1.below hb2).below hb3) (hR2.below hb3) hC.out true (Lib.hid (by simp))).mono ?_; rintro e w4 ⟨rfl, hb4⟩; have hb14 := hb13.trans (hb4.mono hb13.size)))))
  go_ret
  exact ⟨rfl, hb17⟩
end Go.Proofs.YtdapnemcdgjeeaaDoor
