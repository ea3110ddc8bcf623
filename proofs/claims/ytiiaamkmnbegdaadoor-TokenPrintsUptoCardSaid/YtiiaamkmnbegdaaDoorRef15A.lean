/- Walks: Fold of the reference of layer 2 without the case of letters; the small functions of the reference of layer 15. -/
import Derived.Test.YtiiaamkmnbegdaaDoorRef02
import Derived.Test.YtiiaamkmnbegdaaDoorTok2
namespace Go.Proofs.YtiiaamkmnbegdaaDoor
set_option maxRecDepth 100000
set_option linter.unusedVariables false
set_option linter.unusedSimpArgs false
open Go.RowKit


theorem rletter_any (c : UInt8) (w : World) :
    Calls Tryd.prog 78 #[.int .u8 (c.toNat : Int)] w fun e w' => e = .returned (.bool (Tok.letter c)) ∧ w = w' := by
  have hc := c.toNat_lt
  go_enter Tryd.func78, Tryd.ntmps78
  go_wp2
  all_goals go_ret
  all_goals (refine ⟨ret_bool ?_, rfl⟩; rw [Bool.eq_iff_iff]; simp [Tok.letter]; omega)

theorem rdigit15_any (c : UInt8) (w : World) :
    Calls Tryd.prog 79 #[.int .u8 (c.toNat : Int)] w fun e w' => e = .returned (.bool (Tok.digit c)) ∧ w = w' := by
  have hc := c.toNat_lt
  go_enter Tryd.func79, Tryd.ntmps79
  go_wp2
  all_goals go_ret
  all_goals (refine ⟨ret_bool ?_, rfl⟩; rw [Bool.eq_iff_iff]; simp [Tok.digit]; omega)

theorem rlower_any (c : UInt8) (w : World) :
    Calls Tryd.prog 140 #[.int .u8 (c.toNat : Int)] w fun e w' => e = .returned (.int .u8 ((Txt.lower c).toNat : Int)) ∧ w = w' := by
  have hc := c.toNat_lt
  go_enter Tryd.func140, Tryd.ntmps140
  go_wp2
  all_goals go_ret
  all_goals (refine ⟨ret_int ?_, rfl⟩; first | (rw [Txt.lower_up (by omega)]; omega) | (rw [Txt.lower_no (by omega)]))

theorem pair_cases (a b : UInt8) : Tok.pair a b = decide ((a.toNat = 124 ∧ b.toNat = 124) ∨ (a.toNat = 61 ∧ b.toNat = 61) ∨ (a.toNat = 60 ∧ b.toNat = 62) ∨ (b.toNat = 61 ∧ (a.toNat = 33 ∨ a.toNat = 60 ∨ a.toNat = 62))) := by
  rw [Tok.pair, Bool.eq_iff_iff, decide_eq_true_eq, decide_eq_true_eq]
  simp only [List.mem_cons, List.cons.injEq, and_true, List.not_mem_nil, or_false, ← UInt8.toNat_inj]
  have e (n : Nat) (h : n < 256) : (UInt8.ofNat n).toNat = n := by rw [UInt8.toNat_ofNat']; omega
  simp only [show (124 : UInt8).toNat = 124 from rfl, show (61 : UInt8).toNat = 61 from rfl, show (60 : UInt8).toNat = 60 from rfl, show (62 : UInt8).toNat = 62 from rfl, show (33 : UInt8).toNat = 33 from rfl]
  omega

theorem rpair_any (a b : UInt8) (w : World) :
    Calls Tryd.prog 112 #[.int .u8 (a.toNat : Int), .int .u8 (b.toNat : Int)] w fun e w' => e = .returned (.bool (Tok.pair a b)) ∧ w = w' := by
  have ha := a.toNat_lt
  have hb := b.toNat_lt
  go_enter Tryd.func112, Tryd.ntmps112
  go_wp2
  all_goals go_ret
  all_goals (refine ⟨ret_bool ?_, rfl⟩; rw [pair_cases, Bool.eq_iff_iff]; simp; omega)

/-- the signs of one byte, as a list of numbers -/
def singles : List UInt8 := [40, 41, 44, 59, 46, 42, 43, 45, 47, 37, 61, 60, 62]
theorem indexByte_ge (l : List UInt8) (c : UInt8) : -1 ≤ Lib.indexByte l c := by
  induction l with
  | nil => simp [Lib.indexByte]
  | cons b l ih => unfold Lib.indexByte; split <;> (first | omega | (split <;> omega))
theorem index_any_mem (l : List UInt8) (c : UInt8) : decide (0 ≤ Lib.indexByte l c) = l.any (fun d => decide (d.toNat = c.toNat)) := by
  induction l with
  | nil => rfl
  | cons b l ih =>
    rw [List.any_cons, ← ih]
    by_cases h : b = c
    · subst h; simp [Lib.indexByte]
    · have hn : ¬ b.toNat = c.toNat := fun h' => h (UInt8.toNat_inj.1 h')
      have hm := indexByte_ge l c
      simp only [hn, decide_false, Bool.false_or, Lib.indexByte, beq_iff_eq, h, if_false]
      split <;> (rw [Bool.eq_iff_iff]; simp; omega)

theorem rsingle_any (c : UInt8) (w : World) :
    Calls Tryd.prog 113 #[.int .u8 (c.toNat : Int)] w fun e w' => e = .returned (.bool (Tok.single c)) ∧ w = w' := by
  have hc := c.toNat_lt
  obtain ⟨q, hq⟩ : ∃ q, Tok.single c = q := ⟨_, rfl⟩
  rw [hq]
  rw [Tok.single, show ([40, 41, 44, 59, 46, 42, 43, 45, 47, 37, 61, 60, 62] : List UInt8) = singles from rfl, index_any_mem] at hq
  obtain ⟨S, hS⟩ : ∃ S : ByteArray, S = bs singles := ⟨_, rfl⟩
  have hSd : S.data.toList = singles := by rw [hS]; rfl
  have hS13 : S.size = 13 := by rw [hS]; rfl
  rw [← hSd] at hq
  have hS13' : S.size ≤ 13 := by omega
  replace hS := Lib.hid hS
  replace hq := Lib.hid hq
  clear hSd hS13
  go_enter Tryd.func113, Tryd.ntmps113
  go_wp2
  rw [show (⟨#[40, 41, 44, 59, 46, 42, 43, 45, 47, 37, 61, 60, 62]⟩ : ByteArray) = S from by rw [hS.out]; rfl]
  go_loop [4] (fun i => ∃ k : Nat, k ≤ S.size ∧ i = .int .i64 (k : Int) ∧ Hid (((S.data.toList.drop k).any fun d => decide (d.toNat = c.toNat)) = q)) (fun i => S.size - (intOf i).toNat)
  case atStart => exact ⟨0, by omega, by go_num, hq⟩
  case round =>
    obtain ⟨k, hk, rfl, hr⟩ := hrel
    by_cases hlt : k < S.size
    · have hdr := drop_cons S k hlt
      have hst := hr.out
      rw [hdr, List.any_cons] at hst
      by_cases he : S[k].toNat = c.toNat
      · have heB : ((S[k].toNat : Int) == (c.toNat : Int)) = true := by simp; omega
        rw [decide_eq_true he] at hst
        clear hdr hr hq he
        simp only [Bool.true_or] at hst
        subst hst
        go_wp2
        go_ret
        exact ⟨rfl, rfl⟩
      · have heB : ((S[k].toNat : Int) == (c.toNat : Int)) = false := by simp; omega
        rw [decide_eq_false he, Bool.false_or] at hst
        clear hdr hr hq he
        replace hst := Lib.hid hst
        go_wp2
        go_round
        case rel => exact ⟨k + 1, by omega, by go_num, hst⟩
        case measure => simp [intOf]; omega
    · have hst := hr.out
      rw [drop_all S k hlt, List.any_nil] at hst
      clear hr hq
      subst hst
      go_wp2
      go_ret
      exact ⟨rfl, rfl⟩

end Go.Proofs.YtiiaamkmnbegdaaDoor
