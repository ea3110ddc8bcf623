/- Walks: the reference's sets: End, Holds, Takes. -/
import Derived.Test.YtmkgalcojoeniaaGreatDoorGlobQ
import Derived.Test.YtmkgalcojoeniaaGreatDoorFitsK
set_option maxRecDepth 100000
set_option linter.unusedVariables false
set_option linter.unusedSimpArgs false
namespace Go.Proofs.YtmkgalcojoeniaaGreatDoor
open Go.RowKit

theorem dropB1 (s : ByteArray) (i : Nat) (h : i < s.size) : s.data.toList.drop i = s[i] :: s.data.toList.drop (i + 1) := by
  have h' : i < s.data.toList.length := h
  rw [List.drop_eq_getElem_cons h']
  rfl
theorem dropB0 (s : ByteArray) (i : Nat) (h : s.size ≤ i) : s.data.toList.drop i = [] := List.drop_eq_nil_of_le h
theorem dropLen (s : ByteArray) (i : Nat) : (s.data.toList.drop i).length = s.size - i := List.length_drop
theorem byte_t {c : UInt8} {n : UInt8} {k : Int} (hk : k = (n.toNat : Int)) (h : c = n) : ((c.toNat : Int) == k) = true := by rw [h, hk]; simp
theorem byte_f {c : UInt8} {n : UInt8} {k : Int} (hk : k = (n.toNat : Int)) (h : c ≠ n) : ((c.toNat : Int) == k) = false := by
  rw [hk, beq_eq_false_iff_ne]; intro e; exact h (UInt8.toNat_inj.1 (by omega))
/-- a place that is no range's beginning -/
theorem no_range (s : ByteArray) (i : Nat) (h : ∀ h2 : i + 2 < s.size, ¬ (s[i + 1] = 45 ∧ s[i + 2] ≠ 93)) : ∀ d e r', s.data.toList.drop (i + 1) = d :: e :: r' → ¬ (d = 45 ∧ e ≠ 93) := by
  intro d e r' hd
  have hl := congrArg List.length hd
  rw [dropLen] at hl
  simp at hl
  have h2 : i + 2 < s.size := by omega
  rw [dropB1 s (i + 1) (by omega), dropB1 s (i + 1 + 1) h2] at hd
  simp only [List.cons.injEq] at hd
  rw [← hd.1, ← hd.2.1]
  exact h h2
theorem no_dash (s : ByteArray) (i : Nat) (h : ∀ h2 : i + 2 < s.size, s[i + 1] ≠ 45) : ∀ d e r', s.data.toList.drop (i + 1) = d :: e :: r' → d ≠ 45 := by
  intro d e r' hd
  have hl := congrArg List.length hd
  rw [dropLen] at hl
  simp at hl
  have h2 : i + 2 < s.size := by omega
  rw [dropB1 s (i + 1) (by omega)] at hd
  simp only [List.cons.injEq] at hd
  rw [← hd.1]
  exact h h2

/-- where the reference sees a set's end -/
def endR (l : List UInt8) : Int := match Fit.setOf (l.drop 1) with
  | none => -1
  | some x => (l.length : Int) - 1 - (x.2.length : Int)

/-- the end, out of the rest behind it -/
def endG (p : ByteArray) (x : Option (List (UInt8 × UInt8) × List UInt8)) : Int := match x with
  | none => -1
  | some y => (p.size : Int) - 1 - (y.2.length : Int)
theorem endG_map (p : ByteArray) (x : Option (List (UInt8 × UInt8) × List UInt8)) (f : List (UInt8 × UInt8) → List (UInt8 × UInt8)) : endG p (x.map fun y => (f y.1, y.2)) = endG p x := by cases x <;> rfl

set_option maxHeartbeats 4000000 in
theorem rend_not (p : ByteArray) (E : Int) (w : World) (hp : p.size ≤ 1048576) (h0 : 0 < p.size) (h1 : 1 < p.size) (q : ((p[1].toNat : Int) == 94) = true) (hE0 : Hid (endG p (Fit.bodyL true (p.data.toList.drop 2)) = E)) :
    Calls Tryz.prog 109 #[.string p] w fun e w' => e = .returned (.int .i64 E) ∧ w = w' := by
  have m1 : decide ((1 : Int) < (p.size : Int)) = true := by simp; omega
  have n0 : (0 : Int) ≤ 1 := by omega
  have n1 : (1 : Int) < (p.size : Int) := by omega
  go_enter Tryz.func109, Tryz.ntmps109
  go_wp2
  go_loop [3, 4] (fun iv fv => ∃ (i : Nat) (first : Bool), iv = .int .i64 (i : Int) ∧ fv = .bool first ∧ i ≤ p.size ∧ Hid (endG p (Fit.bodyL first (p.data.toList.drop i)) = E)) (fun iv _ => p.size - (intOf iv).toNat)
  case atStart => exact ⟨2, true, by go_num, rfl, by omega, hE0⟩
  case round =>
    obtain ⟨i, first, rfl, rfl, hi, hE⟩ := hrel
    clear hE0
    by_cases hlt : i < p.size
    · have hd := dropB1 p i hlt
      have hX := hE.out
      clear hE
      rw [hd] at hX
      have lB : decide ((i : Int) < (p.size : Int)) = true := by simp; omega
      have j0 : (0 : Int) ≤ (i : Int) := by omega
      have l0 : (i : Int) < (p.size : Int) := by omega
      by_cases h93 : first = false ∧ p[i] = 93
      · obtain ⟨rfl, h93⟩ := h93
        have q0 := byte_t (k := 93) rfl h93
        rw [h93, Fit.bodyL_end] at hX
        simp only [endG, dropLen] at hX
        have hE2 : E = (i : Int) := by omega
        replace hE2 := Lib.hid hE2
        clear hX h93 hd
        go_wp2
        go_ret
        exact ⟨ret_int hE2.out.symm, rfl⟩
      · by_cases hr : ∃ h2 : i + 2 < p.size, p[i + 1] = 45 ∧ p[i + 2] ≠ 93
        · obtain ⟨h2, h45, hn⟩ := hr
          rw [dropB1 p (i + 1) (by omega), dropB1 p (i + 1 + 1) h2, h45, Fit.bodyL_range _ h93 hn, endG_map p _ (fun y => (p[i], p[i + 2]) :: y)] at hX
          have q1 := byte_t (k := 45) rfl h45
          have q2 := byte_f (k := 93) rfl hn
          have q3 : ((p[i + 2].toNat : Int) != 93) = true := by rw [bne, q2]; rfl
          have m2 : decide ((i : Int) + 2 < (p.size : Int)) = true := by simp; omega
          have j1 : (0 : Int) ≤ (i : Int) + 1 := by omega
          have l1 : (i : Int) + 1 < (p.size : Int) := by omega
          have j2 : (0 : Int) ≤ (i : Int) + 2 := by omega
          have l2 : (i : Int) + 2 < (p.size : Int) := by omega
          have hB93 : ∃ b : Bool, ((p[i].toNat : Int) == 93) = b ∧ (b = true → first = true) := ⟨_, rfl, fun hb => by
            cases first with
            | true => rfl
            | false => exact absurd ⟨rfl, UInt8.toNat_inj.1 (by simp at hb; simp; omega)⟩ h93⟩
          obtain ⟨b, q0, hbf⟩ := hB93
          clear h93 hd hn h45 q2
          cases b with
          | true =>
            obtain rfl := hbf rfl
            replace hX := Lib.hid hX
            go_wp2
            go_round
            case rel => exact ⟨i + 3, false, by go_num, rfl, by omega, hX⟩
            case measure => simp [intOf]; omega
          | false =>
            clear hbf
            replace hX := Lib.hid hX
            go_wp2
            go_round
            case rel => exact ⟨i + 3, false, by go_num, rfl, by omega, hX⟩
            case measure => simp [intOf]; omega
        · have hr2 : ∀ h2 : i + 2 < p.size, ¬ (p[i + 1] = 45 ∧ p[i + 2] ≠ 93) := fun h2 h => hr ⟨h2, h⟩
          rw [Fit.bodyL_one _ h93 (no_range p i hr2), endG_map p _ (fun y => (p[i], p[i]) :: y)] at hX
          have hB93 : ∃ b : Bool, ((p[i].toNat : Int) == 93) = b ∧ (b = true → first = true) := ⟨_, rfl, fun hb => by
            cases first with
            | true => rfl
            | false => exact absurd ⟨rfl, UInt8.toNat_inj.1 (by simp at hb; simp; omega)⟩ h93⟩
          obtain ⟨b, q0, hbf⟩ := hB93
          clear h93 hd hr
          by_cases h2 : i + 2 < p.size
          · have m2 : decide ((i : Int) + 2 < (p.size : Int)) = true := by simp; omega
            have j1 : (0 : Int) ≤ (i : Int) + 1 := by omega
            have l1 : (i : Int) + 1 < (p.size : Int) := by omega
            have j2 : (0 : Int) ≤ (i : Int) + 2 := by omega
            have l2 : (i : Int) + 2 < (p.size : Int) := by omega
            by_cases h45 : p[i + 1] = 45
            · have q1 := byte_t (k := 45) rfl h45
              have hn : p[i + 2] = 93 := Classical.byContradiction fun h => hr2 h2 ⟨h45, h⟩
              have q2 := byte_t (k := 93) rfl hn
              have q3 : ((p[i + 2].toNat : Int) != 93) = false := by rw [bne, q2]; rfl
              clear h45 hn hr2 q2
              cases b with
              | true =>
                obtain rfl := hbf rfl
                replace hX := Lib.hid hX
                go_wp2
                go_round
                case rel => exact ⟨i + 1, false, by go_num, rfl, by omega, hX⟩
                case measure => simp [intOf]; omega
              | false =>
                clear hbf
                replace hX := Lib.hid hX
                go_wp2
                go_round
                case rel => exact ⟨i + 1, false, by go_num, rfl, by omega, hX⟩
                case measure => simp [intOf]; omega
            · have q1 := byte_f (k := 45) rfl h45
              clear h45 hr2
              cases b with
              | true =>
                obtain rfl := hbf rfl
                replace hX := Lib.hid hX
                go_wp2
                go_round
                case rel => exact ⟨i + 1, false, by go_num, rfl, by omega, hX⟩
                case measure => simp [intOf]; omega
              | false =>
                clear hbf
                replace hX := Lib.hid hX
                go_wp2
                go_round
                case rel => exact ⟨i + 1, false, by go_num, rfl, by omega, hX⟩
                case measure => simp [intOf]; omega
          · have m2 : decide ((i : Int) + 2 < (p.size : Int)) = false := by simp; omega
            clear hr2
            cases b with
            | true =>
              obtain rfl := hbf rfl
              replace hX := Lib.hid hX
              go_wp2
              go_round
              case rel => exact ⟨i + 1, false, by go_num, rfl, by omega, hX⟩
              case measure => simp [intOf]; omega
            | false =>
              clear hbf
              replace hX := Lib.hid hX
              go_wp2
              go_round
              case rel => exact ⟨i + 1, false, by go_num, rfl, by omega, hX⟩
              case measure => simp [intOf]; omega
    · have hE := hE.out
      rw [dropB0 p i (by omega), Fit.bodyL_nil] at hE
      have hE2 : E = -1 := hE.symm
      replace hE2 := Lib.hid hE2
      have lB : decide ((i : Int) < (p.size : Int)) = false := by simp; omega
      clear hE
      go_wp2
      go_ret
      exact ⟨ret_int hE2.out.symm, rfl⟩

set_option maxHeartbeats 4000000 in
theorem rend_plain (p : ByteArray) (E : Int) (w : World) (hp : p.size ≤ 1048576) (h0 : 0 < p.size) (h1 : 1 < p.size) (q : ((p[1].toNat : Int) == 94) = false) (hE0 : Hid (endG p (Fit.bodyL true (p.data.toList.drop 1)) = E)) :
    Calls Tryz.prog 109 #[.string p] w fun e w' => e = .returned (.int .i64 E) ∧ w = w' := by
  have m1 : decide ((1 : Int) < (p.size : Int)) = true := by simp; omega
  have n0 : (0 : Int) ≤ 1 := by omega
  have n1 : (1 : Int) < (p.size : Int) := by omega
  go_enter Tryz.func109, Tryz.ntmps109
  go_wp2
  go_loop [3, 4] (fun iv fv => ∃ (i : Nat) (first : Bool), iv = .int .i64 (i : Int) ∧ fv = .bool first ∧ i ≤ p.size ∧ Hid (endG p (Fit.bodyL first (p.data.toList.drop i)) = E)) (fun iv _ => p.size - (intOf iv).toNat)
  case atStart => exact ⟨1, true, by go_num, rfl, by omega, hE0⟩
  case round =>
    obtain ⟨i, first, rfl, rfl, hi, hE⟩ := hrel
    clear hE0
    by_cases hlt : i < p.size
    · have hd := dropB1 p i hlt
      have hX := hE.out
      clear hE
      rw [hd] at hX
      have lB : decide ((i : Int) < (p.size : Int)) = true := by simp; omega
      have j0 : (0 : Int) ≤ (i : Int) := by omega
      have l0 : (i : Int) < (p.size : Int) := by omega
      by_cases h93 : first = false ∧ p[i] = 93
      · obtain ⟨rfl, h93⟩ := h93
        have q0 := byte_t (k := 93) rfl h93
        rw [h93, Fit.bodyL_end] at hX
        simp only [endG, dropLen] at hX
        have hE2 : E = (i : Int) := by omega
        replace hE2 := Lib.hid hE2
        clear hX h93 hd
        go_wp2
        go_ret
        exact ⟨ret_int hE2.out.symm, rfl⟩
      · by_cases hr : ∃ h2 : i + 2 < p.size, p[i + 1] = 45 ∧ p[i + 2] ≠ 93
        · obtain ⟨h2, h45, hn⟩ := hr
          rw [dropB1 p (i + 1) (by omega), dropB1 p (i + 1 + 1) h2, h45, Fit.bodyL_range _ h93 hn, endG_map p _ (fun y => (p[i], p[i + 2]) :: y)] at hX
          have q1 := byte_t (k := 45) rfl h45
          have q2 := byte_f (k := 93) rfl hn
          have q3 : ((p[i + 2].toNat : Int) != 93) = true := by rw [bne, q2]; rfl
          have m2 : decide ((i : Int) + 2 < (p.size : Int)) = true := by simp; omega
          have j1 : (0 : Int) ≤ (i : Int) + 1 := by omega
          have l1 : (i : Int) + 1 < (p.size : Int) := by omega
          have j2 : (0 : Int) ≤ (i : Int) + 2 := by omega
          have l2 : (i : Int) + 2 < (p.size : Int) := by omega
          have hB93 : ∃ b : Bool, ((p[i].toNat : Int) == 93) = b ∧ (b = true → first = true) := ⟨_, rfl, fun hb => by
            cases first with
            | true => rfl
            | false => exact absurd ⟨rfl, UInt8.toNat_inj.1 (by simp at hb; simp; omega)⟩ h93⟩
          obtain ⟨b, q0, hbf⟩ := hB93
          clear h93 hd hn h45 q2
          cases b with
          | true =>
            obtain rfl := hbf rfl
            replace hX := Lib.hid hX
            go_wp2
            go_round
            case rel => exact ⟨i + 3, false, by go_num, rfl, by omega, hX⟩
            case measure => simp [intOf]; omega
          | false =>
            clear hbf
            replace hX := Lib.hid hX
            go_wp2
            go_round
            case rel => exact ⟨i + 3, false, by go_num, rfl, by omega, hX⟩
            case measure => simp [intOf]; omega
        · have hr2 : ∀ h2 : i + 2 < p.size, ¬ (p[i + 1] = 45 ∧ p[i + 2] ≠ 93) := fun h2 h => hr ⟨h2, h⟩
          rw [Fit.bodyL_one _ h93 (no_range p i hr2), endG_map p _ (fun y => (p[i], p[i]) :: y)] at hX
          have hB93 : ∃ b : Bool, ((p[i].toNat : Int) == 93) = b ∧ (b = true → first = true) := ⟨_, rfl, fun hb => by
            cases first with
            | true => rfl
            | false => exact absurd ⟨rfl, UInt8.toNat_inj.1 (by simp at hb; simp; omega)⟩ h93⟩
          obtain ⟨b, q0, hbf⟩ := hB93
          clear h93 hd hr
          by_cases h2 : i + 2 < p.size
          · have m2 : decide ((i : Int) + 2 < (p.size : Int)) = true := by simp; omega
            have j1 : (0 : Int) ≤ (i : Int) + 1 := by omega
            have l1 : (i : Int) + 1 < (p.size : Int) := by omega
            have j2 : (0 : Int) ≤ (i : Int) + 2 := by omega
            have l2 : (i : Int) + 2 < (p.size : Int) := by omega
            by_cases h45 : p[i + 1] = 45
            · have q1 := byte_t (k := 45) rfl h45
              have hn : p[i + 2] = 93 := Classical.byContradiction fun h => hr2 h2 ⟨h45, h⟩
              have q2 := byte_t (k := 93) rfl hn
              have q3 : ((p[i + 2].toNat : Int) != 93) = false := by rw [bne, q2]; rfl
              clear h45 hn hr2 q2
              cases b with
              | true =>
                obtain rfl := hbf rfl
                replace hX := Lib.hid hX
                go_wp2
                go_round
                case rel => exact ⟨i + 1, false, by go_num, rfl, by omega, hX⟩
                case measure => simp [intOf]; omega
              | false =>
                clear hbf
                replace hX := Lib.hid hX
                go_wp2
                go_round
                case rel => exact ⟨i + 1, false, by go_num, rfl, by omega, hX⟩
                case measure => simp [intOf]; omega
            · have q1 := byte_f (k := 45) rfl h45
              clear h45 hr2
              cases b with
              | true =>
                obtain rfl := hbf rfl
                replace hX := Lib.hid hX
                go_wp2
                go_round
                case rel => exact ⟨i + 1, false, by go_num, rfl, by omega, hX⟩
                case measure => simp [intOf]; omega
              | false =>
                clear hbf
                replace hX := Lib.hid hX
                go_wp2
                go_round
                case rel => exact ⟨i + 1, false, by go_num, rfl, by omega, hX⟩
                case measure => simp [intOf]; omega
          · have m2 : decide ((i : Int) + 2 < (p.size : Int)) = false := by simp; omega
            clear hr2
            cases b with
            | true =>
              obtain rfl := hbf rfl
              replace hX := Lib.hid hX
              go_wp2
              go_round
              case rel => exact ⟨i + 1, false, by go_num, rfl, by omega, hX⟩
              case measure => simp [intOf]; omega
            | false =>
              clear hbf
              replace hX := Lib.hid hX
              go_wp2
              go_round
              case rel => exact ⟨i + 1, false, by go_num, rfl, by omega, hX⟩
              case measure => simp [intOf]; omega
    · have hE := hE.out
      rw [dropB0 p i (by omega), Fit.bodyL_nil] at hE
      have hE2 : E = -1 := hE.symm
      replace hE2 := Lib.hid hE2
      have lB : decide ((i : Int) < (p.size : Int)) = false := by simp; omega
      clear hE
      go_wp2
      go_ret
      exact ⟨ret_int hE2.out.symm, rfl⟩

set_option maxHeartbeats 4000000 in
theorem rend_short (p : ByteArray) (E : Int) (w : World) (hp : p.size ≤ 1048576) (h0 : 0 < p.size) (h1 : ¬ 1 < p.size) (hE0 : Hid (endG p (Fit.bodyL true (p.data.toList.drop 1)) = E)) :
    Calls Tryz.prog 109 #[.string p] w fun e w' => e = .returned (.int .i64 E) ∧ w = w' := by
  have m1 : decide ((1 : Int) < (p.size : Int)) = false := by simp; omega
  go_enter Tryz.func109, Tryz.ntmps109
  go_wp2
  go_loop [3, 4] (fun iv fv => ∃ (i : Nat) (first : Bool), iv = .int .i64 (i : Int) ∧ fv = .bool first ∧ i ≤ p.size ∧ Hid (endG p (Fit.bodyL first (p.data.toList.drop i)) = E)) (fun iv _ => p.size - (intOf iv).toNat)
  case atStart => exact ⟨1, true, by go_num, rfl, by omega, hE0⟩
  case round =>
    obtain ⟨i, first, rfl, rfl, hi, hE⟩ := hrel
    clear hE0
    by_cases hlt : i < p.size
    · have hd := dropB1 p i hlt
      have hX := hE.out
      clear hE
      rw [hd] at hX
      have lB : decide ((i : Int) < (p.size : Int)) = true := by simp; omega
      have j0 : (0 : Int) ≤ (i : Int) := by omega
      have l0 : (i : Int) < (p.size : Int) := by omega
      by_cases h93 : first = false ∧ p[i] = 93
      · obtain ⟨rfl, h93⟩ := h93
        have q0 := byte_t (k := 93) rfl h93
        rw [h93, Fit.bodyL_end] at hX
        simp only [endG, dropLen] at hX
        have hE2 : E = (i : Int) := by omega
        replace hE2 := Lib.hid hE2
        clear hX h93 hd
        go_wp2
        go_ret
        exact ⟨ret_int hE2.out.symm, rfl⟩
      · by_cases hr : ∃ h2 : i + 2 < p.size, p[i + 1] = 45 ∧ p[i + 2] ≠ 93
        · obtain ⟨h2, h45, hn⟩ := hr
          rw [dropB1 p (i + 1) (by omega), dropB1 p (i + 1 + 1) h2, h45, Fit.bodyL_range _ h93 hn, endG_map p _ (fun y => (p[i], p[i + 2]) :: y)] at hX
          have q1 := byte_t (k := 45) rfl h45
          have q2 := byte_f (k := 93) rfl hn
          have q3 : ((p[i + 2].toNat : Int) != 93) = true := by rw [bne, q2]; rfl
          have m2 : decide ((i : Int) + 2 < (p.size : Int)) = true := by simp; omega
          have j1 : (0 : Int) ≤ (i : Int) + 1 := by omega
          have l1 : (i : Int) + 1 < (p.size : Int) := by omega
          have j2 : (0 : Int) ≤ (i : Int) + 2 := by omega
          have l2 : (i : Int) + 2 < (p.size : Int) := by omega
          have hB93 : ∃ b : Bool, ((p[i].toNat : Int) == 93) = b ∧ (b = true → first = true) := ⟨_, rfl, fun hb => by
            cases first with
            | true => rfl
            | false => exact absurd ⟨rfl, UInt8.toNat_inj.1 (by simp at hb; simp; omega)⟩ h93⟩
          obtain ⟨b, q0, hbf⟩ := hB93
          clear h93 hd hn h45 q2
          cases b with
          | true =>
            obtain rfl := hbf rfl
            replace hX := Lib.hid hX
            go_wp2
            go_round
            case rel => exact ⟨i + 3, false, by go_num, rfl, by omega, hX⟩
            case measure => simp [intOf]; omega
          | false =>
            clear hbf
            replace hX := Lib.hid hX
            go_wp2
            go_round
            case rel => exact ⟨i + 3, false, by go_num, rfl, by omega, hX⟩
            case measure => simp [intOf]; omega
        · have hr2 : ∀ h2 : i + 2 < p.size, ¬ (p[i + 1] = 45 ∧ p[i + 2] ≠ 93) := fun h2 h => hr ⟨h2, h⟩
          rw [Fit.bodyL_one _ h93 (no_range p i hr2), endG_map p _ (fun y => (p[i], p[i]) :: y)] at hX
          have hB93 : ∃ b : Bool, ((p[i].toNat : Int) == 93) = b ∧ (b = true → first = true) := ⟨_, rfl, fun hb => by
            cases first with
            | true => rfl
            | false => exact absurd ⟨rfl, UInt8.toNat_inj.1 (by simp at hb; simp; omega)⟩ h93⟩
          obtain ⟨b, q0, hbf⟩ := hB93
          clear h93 hd hr
          by_cases h2 : i + 2 < p.size
          · have m2 : decide ((i : Int) + 2 < (p.size : Int)) = true := by simp; omega
            have j1 : (0 : Int) ≤ (i : Int) + 1 := by omega
            have l1 : (i : Int) + 1 < (p.size : Int) := by omega
            have j2 : (0 : Int) ≤ (i : Int) + 2 := by omega
            have l2 : (i : Int) + 2 < (p.size : Int) := by omega
            by_cases h45 : p[i + 1] = 45
            · have q1 := byte_t (k := 45) rfl h45
              have hn : p[i + 2] = 93 := Classical.byContradiction fun h => hr2 h2 ⟨h45, h⟩
              have q2 := byte_t (k := 93) rfl hn
              have q3 : ((p[i + 2].toNat : Int) != 93) = false := by rw [bne, q2]; rfl
              clear h45 hn hr2 q2
              cases b with
              | true =>
                obtain rfl := hbf rfl
                replace hX := Lib.hid hX
                go_wp2
                go_round
                case rel => exact ⟨i + 1, false, by go_num, rfl, by omega, hX⟩
                case measure => simp [intOf]; omega
              | false =>
                clear hbf
                replace hX := Lib.hid hX
                go_wp2
                go_round
                case rel => exact ⟨i + 1, false, by go_num, rfl, by omega, hX⟩
                case measure => simp [intOf]; omega
            · have q1 := byte_f (k := 45) rfl h45
              clear h45 hr2
              cases b with
              | true =>
                obtain rfl := hbf rfl
                replace hX := Lib.hid hX
                go_wp2
                go_round
                case rel => exact ⟨i + 1, false, by go_num, rfl, by omega, hX⟩
                case measure => simp [intOf]; omega
              | false =>
                clear hbf
                replace hX := Lib.hid hX
                go_wp2
                go_round
                case rel => exact ⟨i + 1, false, by go_num, rfl, by omega, hX⟩
                case measure => simp [intOf]; omega
          · have m2 : decide ((i : Int) + 2 < (p.size : Int)) = false := by simp; omega
            clear hr2
            cases b with
            | true =>
              obtain rfl := hbf rfl
              replace hX := Lib.hid hX
              go_wp2
              go_round
              case rel => exact ⟨i + 1, false, by go_num, rfl, by omega, hX⟩
              case measure => simp [intOf]; omega
            | false =>
              clear hbf
              replace hX := Lib.hid hX
              go_wp2
              go_round
              case rel => exact ⟨i + 1, false, by go_num, rfl, by omega, hX⟩
              case measure => simp [intOf]; omega
    · have hE := hE.out
      rw [dropB0 p i (by omega), Fit.bodyL_nil] at hE
      have hE2 : E = -1 := hE.symm
      replace hE2 := Lib.hid hE2
      have lB : decide ((i : Int) < (p.size : Int)) = false := by simp; omega
      clear hE
      go_wp2
      go_ret
      exact ⟨ret_int hE2.out.symm, rfl⟩

theorem rend_any (p : ByteArray) (w : World) (hp : p.size ≤ 1048576) (h0 : 0 < p.size) (E : Int) (hE : Hid (endR p.data.toList = E)) :
    Calls Tryz.prog 109 #[.string p] w fun e w' => e = .returned (.int .i64 E) ∧ w = w' := by
  have hE' := hE.out
  have hl : p.data.toList.length = p.size := rfl
  have hm : ∀ (neg : Bool) (x : Option (List (UInt8 × UInt8) × List UInt8)), (match (x.map fun y => (Fit.setK neg y.1, y.2)) with | none => (-1 : Int) | some x => (p.data.toList.length : Int) - 1 - (x.2.length : Int)) = endG p x := by
    intro neg x; cases x <;> rfl
  unfold endR at hE'
  by_cases h1 : 1 < p.size
  · rw [dropB1 p 1 h1] at hE'
    by_cases h94 : p[1] = 94
    · rw [h94, Fit.setOf_not, hm] at hE'
      exact rend_not p E w hp h0 h1 (byte_t rfl h94) (Lib.hid hE')
    · rw [Fit.setOf_plain _ h94, hm, ← dropB1 p 1 h1] at hE'
      exact rend_plain p E w hp h0 h1 (byte_f rfl h94) (Lib.hid hE')
  · rw [dropB0 p 1 (by omega)] at hE'
    have e : endG p (Fit.bodyL true (p.data.toList.drop 1)) = E := by rw [dropB0 p 1 (by omega)]; exact hE'
    exact rend_short p E w hp h0 h1 (Lib.hid e)

set_option maxHeartbeats 4000000 in
theorem rholds_any (p : ByteArray) (c : UInt8) (w : World) (hp : p.size ≤ 1048576) (r : Bool) (hr : Hid (Fit.holdsL p.data.toList c = r)) :
    Calls Tryz.prog 148 #[.string p, .int .u8 (c.toNat : Int)] w fun e w' => e = .returned (.bool r) ∧ w = w' := by
  go_enter Tryz.func148, Tryz.ntmps148
  go_wp2
  go_loop [5] (fun iv => ∃ i : Nat, iv = .int .i64 (i : Int) ∧ i ≤ p.size ∧ Hid (Fit.holdsL (p.data.toList.drop i) c = r)) (fun iv => p.size - (intOf iv).toNat)
  case atStart => exact ⟨0, by go_num, by omega, hr⟩
  case round =>
    obtain ⟨i, rfl, hi, hH⟩ := hrel
    clear hr
    have hH := hH.out
    by_cases hlt : i < p.size
    · have lB : decide ((i : Int) < (p.size : Int)) = true := by simp; omega
      have j0 : (0 : Int) ≤ (i : Int) := by omega
      have l0 : (i : Int) < (p.size : Int) := by omega
      rw [dropB1 p i hlt] at hH
      by_cases hd : ∃ h2 : i + 2 < p.size, p[i + 1] = 45
      · obtain ⟨h2, h45⟩ := hd
        rw [dropB1 p (i + 1) (by omega), dropB1 p (i + 1 + 1) h2, h45, Fit.holdsL_range] at hH
        have q1 := byte_t (k := 45) rfl h45
        have m2 : decide ((i : Int) + 2 < (p.size : Int)) = true := by simp; omega
        have j1 : (0 : Int) ≤ (i : Int) + 1 := by omega
        have l1 : (i : Int) + 1 < (p.size : Int) := by omega
        have j2 : (0 : Int) ≤ (i : Int) + 2 := by omega
        have l2 : (i : Int) + 2 < (p.size : Int) := by omega
        clear h45
        by_cases ha : p[i].toNat ≤ c.toNat
        · have g1 : decide ((c.toNat : Int) ≥ (p[i].toNat : Int)) = true := by simp; omega
          by_cases hb : c.toNat ≤ p[i + 2].toNat
          · have g2 : decide ((c.toNat : Int) ≤ (p[i + 2].toNat : Int)) = true := by simp; omega
            have hH : true = r := by rw [← hH]; have : Fit.inRange c (p[i], p[i + 2]) = true := by simp [Fit.inRange]; exact ⟨ha, hb⟩
                                     rw [this]; rfl
            replace hH := Lib.hid hH
            go_wp2
            go_ret
            exact ⟨ret_bool hH.out, rfl⟩
          · have g2 : decide ((c.toNat : Int) ≤ (p[i + 2].toNat : Int)) = false := by simp; omega
            have hH : Fit.holdsL (p.data.toList.drop (i + 3)) c = r := by rw [← hH]; have : Fit.inRange c (p[i], p[i + 2]) = false := by simp [Fit.inRange]; omega
                                                                          rw [this]; rfl
            replace hH := Lib.hid hH
            go_wp2
            go_round
            case rel => exact ⟨i + 3, by go_num, by omega, hH⟩
            case measure => simp [intOf]; omega
        · have g1 : decide ((c.toNat : Int) ≥ (p[i].toNat : Int)) = false := by simp; omega
          have hH : Fit.holdsL (p.data.toList.drop (i + 3)) c = r := by rw [← hH]; have : Fit.inRange c (p[i], p[i + 2]) = false := by simp [Fit.inRange]; omega
                                                                        rw [this]; rfl
          replace hH := Lib.hid hH
          go_wp2
          go_round
          case rel => exact ⟨i + 3, by go_num, by omega, hH⟩
          case measure => simp [intOf]; omega
      · have hn : ∀ h2 : i + 2 < p.size, p[i + 1] ≠ 45 := fun h2 h => hd ⟨h2, h⟩
        rw [Fit.holdsL_one _ _ _ (no_dash p i hn)] at hH
        clear hd
        have hcase : ∃ b : Bool, ((p[i].toNat : Int) == (c.toNat : Int)) = b ∧ (p[i] == c) = b := ⟨_, rfl, by
          rw [Bool.eq_iff_iff, beq_iff_eq, beq_iff_eq]; exact ⟨fun h => by rw [h], fun h => UInt8.toNat_inj.1 (by omega)⟩⟩
        obtain ⟨b, q0, hb⟩ := hcase
        rw [hb] at hH
        clear hb
        by_cases h2 : i + 2 < p.size
        · have q1 := byte_f (k := 45) rfl (hn h2)
          have m2 : decide ((i : Int) + 2 < (p.size : Int)) = true := by simp; omega
          have j1 : (0 : Int) ≤ (i : Int) + 1 := by omega
          have l1 : (i : Int) + 1 < (p.size : Int) := by omega
          clear hn
          cases b with
          | true =>
            have hH : true = r := hH
            replace hH := Lib.hid hH
            go_wp2
            go_ret
            exact ⟨ret_bool hH.out, rfl⟩
          | false =>
            have hH : Fit.holdsL (p.data.toList.drop (i + 1)) c = r := hH
            replace hH := Lib.hid hH
            go_wp2
            go_round
            case rel => exact ⟨i + 1, by go_num, by omega, hH⟩
            case measure => simp [intOf]; omega
        · have m2 : decide ((i : Int) + 2 < (p.size : Int)) = false := by simp; omega
          clear hn
          cases b with
          | true =>
            have hH : true = r := hH
            replace hH := Lib.hid hH
            go_wp2
            go_ret
            exact ⟨ret_bool hH.out, rfl⟩
          | false =>
            have hH : Fit.holdsL (p.data.toList.drop (i + 1)) c = r := hH
            replace hH := Lib.hid hH
            go_wp2
            go_round
            case rel => exact ⟨i + 1, by go_num, by omega, hH⟩
            case measure => simp [intOf]; omega
    · have lB : decide ((i : Int) < (p.size : Int)) = false := by simp; omega
      rw [dropB0 p i (by omega)] at hH
      have hH : false = r := hH
      replace hH := Lib.hid hH
      go_wp2
      go_ret
      exact ⟨ret_bool hH.out, rfl⟩

end Go.Proofs.YtmkgalcojoeniaaGreatDoor
