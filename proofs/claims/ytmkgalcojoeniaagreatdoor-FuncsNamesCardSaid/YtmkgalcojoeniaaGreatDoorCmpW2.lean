/- Walks: how two texts stand, without the blanks at their ends; under any collation. -/
import Derived.Test.YtmkgalcojoeniaaGreatDoorCmpW1
set_option maxRecDepth 100000
set_option linter.unusedVariables false
set_option linter.unusedSimpArgs false
namespace Go.Proofs.YtmkgalcojoeniaaGreatDoor
open Go.RowKit

set_option maxHeartbeats 2000000 in
theorem vtexts_trim (a0 b0 : ByteArray) (c : Int) (w : World) (hc : c = 2) (ha0 : a0.size ≤ 1048576) (hb0 : b0.size ≤ 1048576) (r : Int) (hr : Hid (Lib.compareBytes ((Lib.trimRightB a0.data.toList 32).map kept) ((Lib.trimRightB b0.data.toList 32).map kept) = r)) :
    Calls Tryz.prog 115 #[.string a0, .string b0, .int .i64 c] w fun e w' => e = .returned (.int .i64 r) ∧ Below w.heap.size w w' := by
  have c1 : (c == 1) = false := by simp; omega
  have c2 : (c == 2) = true := by simp; omega
  clear hc
  obtain ⟨a, ea⟩ : ∃ a : ByteArray, ⟨(Lib.trimRightB a0.data.toList 32).toArray⟩ = a := ⟨_, rfl⟩
  obtain ⟨b, eb⟩ : ∃ b : ByteArray, ⟨(Lib.trimRightB b0.data.toList 32).toArray⟩ = b := ⟨_, rfl⟩
  have la : a.data.toList = Lib.trimRightB a0.data.toList 32 := by rw [← ea]
  have lb : b.data.toList = Lib.trimRightB b0.data.toList 32 := by rw [← eb]
  rw [← la, ← lb] at hr
  have ha : a.size ≤ 1048576 := by have h1 := trimB_len a0.data.toList 32; rw [← la] at h1; have h2 : a.data.toList.length = a.size := rfl; have h3 : a0.data.toList.length = a0.size := rfl; omega
  have hb : b.size ≤ 1048576 := by have h1 := trimB_len b0.data.toList 32; rw [← lb] at h1; have h2 : b.data.toList.length = b.size := rfl; have h3 : b0.data.toList.length = b0.size := rfl; omega
  replace ea := Lib.hid ea
  replace eb := Lib.hid eb
  clear la lb
  go_enter Tryz.func115, Tryz.ntmps115
  go_wp2_with (go_at_call 152; refine (Tryz.strings_TrimRight_one _ 32 (by decide) _ (by omega)).mono ?_; rintro e w1 ⟨rfl, hww⟩; obtain rfl := hww.symm; first | rw [ea.out] | rw [eb.out])
  go_loopw [24] (fun i wr => ∃ k : Nat, i = .int .i64 (k : Int) ∧ k ≤ a.size ∧ k ≤ b.size ∧ Hid (Lib.compareBytes ((a.data.toList.drop k).map kept) ((b.data.toList.drop k).map kept) = r) ∧ Below w.heap.size w wr) (fun i _ => a.size - (intOf i).toNat)
  case atStart => exact ⟨0, by go_num, by omega, by omega, hr, Below.refl _ _⟩
  case round =>
    obtain ⟨k, rfl, hka, hkb, hq, hB⟩ := hrel
    by_cases hlt : k < a.size ∧ k < b.size
    · have hla := hlt.1
      have hlb := hlt.2
      have hlB : decide ((k : Int) < min (a.size : Int) (b.size : Int)) = true := by simp; omega
      have hst := cb_step kept a b k hla hlb
      rw [hq.out] at hst
      have ca := a[k].toNat_lt
      have cb := b[k].toNat_lt
      obtain ⟨d, hd⟩ : ∃ d, Lib.compareInt ((kept a[k]).toNat : Int) ((kept b[k]).toNat : Int) = d := ⟨_, rfl⟩
      rw [hd] at hst
      by_cases hd0 : d = 0
      · rw [if_neg (by simp [hd0])] at hst
        subst hd0
        replace hst := Lib.hid hst
        replace hd := Lib.hid hd
        clear hlt hr hq
        go_wp2_with fail
        go_region_held3 (fun _ => True) (trivial) (first
          | (go_at_call 150; refine (vsame_any _ _).mono ?_; rintro e w1 ⟨rfl, rfl⟩)
          | (go_at_call 153; refine (compare_u8 _ _ _).mono ?_; rintro e w1 ⟨rfl, rfl⟩; rw [hd.out]))
        all_goals (
          go_wp2
          go_roundw
          case rel => exact ⟨k + 1, by go_num, by omega, by omega, Lib.hid hst.out.symm, hB.drew⟩
          case measure => simp [intOf]; omega)
      · rw [if_pos hd0] at hst
        subst hst
        have hdB : (r != 0) = true := by simp; omega
        replace hd := Lib.hid hd
        clear hlt hr hq
        go_wp2_with fail
        go_region_held3 (fun _ => True) (trivial) (first
          | (go_at_call 150; refine (vsame_any _ _).mono ?_; rintro e w1 ⟨rfl, rfl⟩)
          | (go_at_call 153; refine (compare_u8 _ _ _).mono ?_; rintro e w1 ⟨rfl, rfl⟩; rw [hd.out]))
        all_goals (
          go_wp2
          go_ret
          exact ⟨rfl, hB.drew⟩)
    · have hlB : decide ((k : Int) < min (a.size : Int) (b.size : Int)) = false := by simp; omega
      have he := (cb_end kept a b k hlt hka hkb).symm.trans hq.out
      replace he := Lib.hid he
      clear hr hq hlt
      go_wp2_with (go_at_call 154; refine (Tryz.cmp_Compare_int _ _ _).mono ?_; rintro e w1 ⟨rfl, rfl⟩; rw [he.out])
      go_ret
      exact ⟨rfl, hB⟩

theorem rtrim_same (l : List UInt8) : Txt.rtrim l = Lib.trimRightB l 32 := by
  have : (fun c : UInt8 => decide (c.toNat = 32)) = (fun c => c == 32) := by
    funext c
    rw [Bool.eq_iff_iff]
    simp [← UInt8.toNat_inj]
  unfold Txt.rtrim Lib.trimRightB
  rw [this]
/-- texts, under any collation -/
theorem vtexts_any (a b : ByteArray) (c : Int) (w : World) (ha : a.size ≤ 1048576) (hb : b.size ≤ 1048576) :
    Calls Tryz.prog 115 #[.string a, .string b, .int .i64 c] w fun e w' => e = .returned (.int .i64 (Val.texts a.data.toList b.data.toList c)) ∧ Below w.heap.size w w' := by
  by_cases h1 : c = 1
  · refine vtexts_low a b c w h1 ha hb _ (Lib.hid ?_)
    subst h1
    simp [Val.texts, Txt.fold]
  · by_cases h2 : c = 2
    · refine vtexts_trim a b c w h2 ha hb _ (Lib.hid ?_)
      subst h2
      simp [Val.texts, Txt.fold, rtrim_same, kept_map]
    · refine vtexts_plain a b c w ⟨h1, h2⟩ ha hb _ (Lib.hid ?_)
      simp [Val.texts, Txt.fold, h1, h2, kept_map]

end Go.Proofs.YtmkgalcojoeniaaGreatDoor
