/- Walks: what the library's stable sort is made of: two neighbouring pieces merged, where one of them is a single element. -/
import Derived.Test.YtdapnemcdgjeeaaDoorSrt2
set_option maxRecDepth 100000
set_option linter.unusedVariables false
set_option linter.unusedSimpArgs false
namespace Go.Proofs.YtdapnemcdgjeeaaDoor.Srt
open Go.RowKit Go.Proofs.YtdapnemcdgjeeaaDoor.Stb
variable {α : Type}

/-- what merging leaves -/
def Merged (val : α → Value) (lt : α → α → Bool) (W0 : World) (B N : Nat) (f : Nat → α) (a b : Nat) (e : Ending) (W' : World) : Prop := e = .returned (.tuple #[]) ∧ ∃ g, RS val W0 B N g W' ∧ Moved lt f g a b ∧ SortedOn lt g a b

set_option maxHeartbeats 4000000 in
theorem merge_left (val : α → Value) (lt : α → α → Bool) (hs : SWO lt) (W0 : World) (B N c : Nat) (f : Nat → α) (W : World) (a m b : Nat) (kp wp : Value) (hC : CmpOk val lt W0 B kp wp) (hR : RS val W0 B N f W) (hm0 : a + 1 ≤ m) (hm1 : m ≤ a + 1) (hmb : m < b) (hb : b ≤ N) (hN : N ≤ 1099511627776) (s2 : SortedOn lt f m b) :
    Calls Tryd.prog 51 #[.slice (some ⟨B, 0, none⟩) N c, .int .i64 a, .int .i64 m, .int .i64 b, .func (.func 41) #[] #[kp, wp]] W (Merged val lt W0 B N f a b) := by
  have hB : ((m : Int) - (a : Int) == 1) = true := by simp; omega
  go_enter Tryd.func51, Tryd.ntmps51
  go_wp2
  go_loopw [10, 11] (fun iv jv wr => ∃ i j : Nat, iv = .int .i64 (i : Int) ∧ jv = .int .i64 (j : Int) ∧ m ≤ i ∧ i ≤ j ∧ j ≤ b ∧ RS val W0 B N f wr ∧ Hid ((i = m ∨ lt (f (i - 1)) (f a) = true) ∧ (j = b ∨ lt (f j) (f a) = false))) (fun iv jv _ => (intOf jv).toNat - (intOf iv).toNat)
  case atStart => exact ⟨m, b, rfl, rfl, by omega, by omega, by omega, hR, Lib.hid ⟨.inl rfl, .inl rfl⟩⟩
  case round =>
    obtain ⟨i, j, rfl, rfl, hmi, hij, hjb, hr, hF⟩ := hrel
    by_cases hlt : i < j
    · have hlB : decide ((i : Int) < (j : Int)) = true := by simp; omega
      obtain ⟨h, hh⟩ : ∃ h, h = (i + j) / 2 := ⟨_, rfl⟩
      have he : ((i : Int) + (j : Int)) / 2 = (h : Int) := by omega
      have h1 : i ≤ h := by omega
      have h2 : h < j := by omega
      clear hh
      have c0 := hr.cell h (by omega)
      have c1 := hr.cell a (by omega)
      obtain ⟨p0, n0, q0, v0⟩ := hr.sl (f h)
      obtain ⟨p1, n1, q1, v1⟩ := hr.sl (f a)
      have i2 : (0 : Int) ≤ (h : Int) := by omega
      have i3 : (h : Int) < (N : Int) := by omega
      have i4 : (0 : Int) ≤ (a : Int) := by omega
      have i5 : (a : Int) < (N : Int) := by omega
      rw [v0] at c0
      rw [v1] at c1
      have H0 : wr.cell? ⟨B, h, none⟩ = some (.slice p0 n0 q0) ∧ wr.cell? ⟨B, a, none⟩ = some (.slice p1 n1 q1) ∧ RS val W0 B N f wr := ⟨c0, c1, hr⟩
      replace v0 := Lib.hid v0
      replace v1 := Lib.hid v1
      clear hr c0 c1
      cases hl : lt (f h) (f a) with
      | true =>
        replace hl := Lib.hid hl
        go_wp2_with fail
        go_region_held3 (fun W => W.cell? ⟨B, h, none⟩ = some (.slice p0 n0 q0) ∧ W.cell? ⟨B, a, none⟩ = some (.slice p1 n1 q1) ∧ RS val W0 B N f W) (first | assumption | exact keepT (by assumption) (by assumption) | exact keepT0 (by assumption)) (first
          | (go_at_call 41; refine (hC.yesT (by assumption) v0.out v1.out hl.out).mono ?_; rintro e w3 ⟨d, rfl, hd, hb3⟩))
        rename_i hq
        go_wp2
        go_roundw
        case rel => exact ⟨h + 1, j, by go_num, rfl, by omega, by omega, by omega, hq.2.2, Lib.hid ⟨.inr (by rw [show h + 1 - 1 = h by omega]; exact hl.out), hF.out.2⟩⟩
        case measure => simp [intOf]; omega
      | false =>
        replace hl := Lib.hid hl
        go_wp2_with fail
        go_region_held3 (fun W => W.cell? ⟨B, h, none⟩ = some (.slice p0 n0 q0) ∧ W.cell? ⟨B, a, none⟩ = some (.slice p1 n1 q1) ∧ RS val W0 B N f W) (first | assumption | exact keepT (by assumption) (by assumption) | exact keepT0 (by assumption)) (first
          | (go_at_call 41; refine (hC.noT (by assumption) v0.out v1.out hl.out).mono ?_; rintro e w3 ⟨d, rfl, hd, hb3⟩))
        rename_i hq
        go_wp2
        go_roundw
        case rel => exact ⟨i, h, rfl, rfl, by omega, by omega, by omega, hq.2.2, Lib.hid ⟨hF.out.1, .inr hl.out⟩⟩
        case measure => simp [intOf]; omega
    · obtain rfl : i = j := by omega
      have hlB : decide ((i : Int) < (i : Int)) = false := by simp
      obtain rfl : m = a + 1 := by omega
      have ho := one_left hs s2 hmi hjb hF.out.1 hF.out.2
      replace ho := Lib.hid ho
      clear hR
      go_wp2
      go_loopw [13] (fun kv wr => ∃ k : Nat, kv = .int .i64 (k : Int) ∧ a ≤ k ∧ k + 1 ≤ i ∧ RS val W0 B N (rot f a (a + 1) (k + 1)) wr) (fun kv _ => i - (intOf kv).toNat)
      case atStart => exact ⟨a, rfl, by omega, by omega, by rw [rot_right_zero]; exact hr⟩
      case round =>
        clear hr
        obtain ⟨k, rfl, hak, hki, hr⟩ := hrel
        have w0 : IntKind.i64.wrap ((i : Int) - 1) = (i : Int) - 1 := IntWalk.i64_in _ (by omega)
        have w1 : wrap64 ((i : Int) - 1) = (i : Int) - 1 := by unfold wrap64; omega
        by_cases hk : k + 1 < i
        · have hkB : decide ((k : Int) < (i : Int) - 1) = true := by simp; omega
          have c0 := hr.cell k (by omega)
          have c1 := hr.cell (k + 1) (by omega)
          have f0 := hr.free k (by omega)
          have f1 := hr.free (k + 1) (by omega)
          have hsw := hr.drew.swap (i := k) (j := k + 1) (by omega) (by omega)
          rw [rot_right f hak] at hsw
          obtain ⟨p0, n0, q0, hx⟩ := hr.sl (rot f a (a + 1) (k + 1) k)
          obtain ⟨p1, n1, q1, hy⟩ := hr.sl (rot f a (a + 1) (k + 1) (k + 1))
          rw [hx] at c0 hsw
          rw [hy] at c1 hsw
          clear hx hy hr
          have i2 : (0 : Int) ≤ (k : Int) := by omega
          have i3 : (k : Int) < (N : Int) := by omega
          have i4 : (0 : Int) ≤ (k : Int) + 1 := by omega
          have i5 : (k : Int) + 1 < (N : Int) := by omega
          have e0 : ((k : Int) + 1).toNat = k + 1 := by omega
          replace hsw := Lib.hid hsw
          go_wp2
          go_region
          go_wp2
          go_roundw
          case rel => exact ⟨k + 1, by go_num, by omega, by omega, hsw.out⟩
          case measure => simp [intOf]; omega
        · have hkB : decide ((k : Int) < (i : Int) - 1) = false := by simp; omega
          obtain rfl : i = k + 1 := by omega
          go_wp2
          go_end0
          exact ⟨rfl, _, hr, ho.out.1, ho.out.2⟩

set_option maxHeartbeats 4000000 in
theorem merge_right (val : α → Value) (lt : α → α → Bool) (hs : SWO lt) (W0 : World) (B N c : Nat) (f : Nat → α) (W : World) (a m b : Nat) (kp wp : Value) (hC : CmpOk val lt W0 B kp wp) (hR : RS val W0 B N f W) (hm0 : a + 1 < m) (hb0 : m + 1 ≤ b) (hb1 : b ≤ m + 1) (hb : b ≤ N) (hN : N ≤ 1099511627776) (s1 : SortedOn lt f a m) :
    Calls Tryd.prog 51 #[.slice (some ⟨B, 0, none⟩) N c, .int .i64 a, .int .i64 m, .int .i64 b, .func (.func 41) #[] #[kp, wp]] W (Merged val lt W0 B N f a b) := by
  have hA : ((m : Int) - (a : Int) == 1) = false := by simp; omega
  have hB : ((b : Int) - (m : Int) == 1) = true := by simp; omega
  go_enter Tryd.func51, Tryd.ntmps51
  go_wp2
  go_loopw [14, 15] (fun iv jv wr => ∃ i j : Nat, iv = .int .i64 (i : Int) ∧ jv = .int .i64 (j : Int) ∧ a ≤ i ∧ i ≤ j ∧ j ≤ m ∧ RS val W0 B N f wr ∧ Hid ((i = a ∨ lt (f m) (f (i - 1)) = false) ∧ (j = m ∨ lt (f m) (f j) = true))) (fun iv jv _ => (intOf jv).toNat - (intOf iv).toNat)
  case atStart => exact ⟨a, m, rfl, rfl, by omega, by omega, by omega, hR, Lib.hid ⟨.inl rfl, .inl rfl⟩⟩
  case round =>
    obtain ⟨i, j, rfl, rfl, hmi, hij, hjb, hr, hF⟩ := hrel
    by_cases hlt : i < j
    · have hlB : decide ((i : Int) < (j : Int)) = true := by simp; omega
      obtain ⟨h, hh⟩ : ∃ h, h = (i + j) / 2 := ⟨_, rfl⟩
      have he : ((i : Int) + (j : Int)) / 2 = (h : Int) := by omega
      have h1 : i ≤ h := by omega
      have h2 : h < j := by omega
      clear hh
      have c0 := hr.cell m (by omega)
      have c1 := hr.cell h (by omega)
      obtain ⟨p0, n0, q0, v0⟩ := hr.sl (f m)
      obtain ⟨p1, n1, q1, v1⟩ := hr.sl (f h)
      have i2 : (0 : Int) ≤ (h : Int) := by omega
      have i3 : (h : Int) < (N : Int) := by omega
      have i4 : (0 : Int) ≤ (m : Int) := by omega
      have i5 : (m : Int) < (N : Int) := by omega
      rw [v0] at c0
      rw [v1] at c1
      have H0 : wr.cell? ⟨B, m, none⟩ = some (.slice p0 n0 q0) ∧ wr.cell? ⟨B, h, none⟩ = some (.slice p1 n1 q1) ∧ RS val W0 B N f wr := ⟨c0, c1, hr⟩
      replace v0 := Lib.hid v0
      replace v1 := Lib.hid v1
      clear hr c0 c1
      cases hl : lt (f m) (f h) with
      | true =>
        replace hl := Lib.hid hl
        go_wp2_with fail
        go_region_held3 (fun W => W.cell? ⟨B, m, none⟩ = some (.slice p0 n0 q0) ∧ W.cell? ⟨B, h, none⟩ = some (.slice p1 n1 q1) ∧ RS val W0 B N f W) (first | assumption | exact keepT (by assumption) (by assumption) | exact keepT0 (by assumption)) (first
          | (go_at_call 41; refine (hC.yesT (by assumption) v0.out v1.out hl.out).mono ?_; rintro e w3 ⟨d, rfl, hd, hb3⟩))
        rename_i hq
        go_wp2
        go_roundw
        case rel => exact ⟨i, h, rfl, rfl, by omega, by omega, by omega, hq.2.2, Lib.hid ⟨hF.out.1, .inr hl.out⟩⟩
        case measure => simp [intOf]; omega
      | false =>
        replace hl := Lib.hid hl
        go_wp2_with fail
        go_region_held3 (fun W => W.cell? ⟨B, m, none⟩ = some (.slice p0 n0 q0) ∧ W.cell? ⟨B, h, none⟩ = some (.slice p1 n1 q1) ∧ RS val W0 B N f W) (first | assumption | exact keepT (by assumption) (by assumption) | exact keepT0 (by assumption)) (first
          | (go_at_call 41; refine (hC.noT (by assumption) v0.out v1.out hl.out).mono ?_; rintro e w3 ⟨d, rfl, hd, hb3⟩))
        rename_i hq
        go_wp2
        go_roundw
        case rel => exact ⟨h + 1, j, by go_num, rfl, by omega, by omega, by omega, hq.2.2, Lib.hid ⟨.inr (by rw [show h + 1 - 1 = h by omega]; exact hl.out), hF.out.2⟩⟩
        case measure => simp [intOf]; omega
    · obtain rfl : i = j := by omega
      have hlB : decide ((i : Int) < (i : Int)) = false := by simp
      obtain rfl : b = m + 1 := by omega
      have ho := one_right hs s1 hmi hjb hF.out.1 hF.out.2
      replace ho := Lib.hid ho
      clear hR
      go_wp2
      go_loopw [17] (fun kv wr => ∃ k : Nat, kv = .int .i64 (k : Int) ∧ i ≤ k ∧ k ≤ m ∧ RS val W0 B N (rot f k m (m + 1)) wr) (fun kv _ => (intOf kv).toNat)
      case atStart => exact ⟨m, rfl, by omega, by omega, by rw [rot_left_zero]; exact hr⟩
      case round =>
        clear hr
        obtain ⟨k, rfl, hik, hkm, hr⟩ := hrel
        by_cases hk : i < k
        · have hkB : decide ((k : Int) > (i : Int)) = true := by simp; omega
          have c0 := hr.cell k (by omega)
          have c1 := hr.cell (k - 1) (by omega)
          have f0 := hr.free k (by omega)
          have f1 := hr.free (k - 1) (by omega)
          have hsw := hr.drew.swap (i := k) (j := k - 1) (by omega) (by omega)
          have hrl := rot_left f (k := k - 1) (m := m) (by omega)
          rw [show k - 1 + 1 = k by omega] at hrl
          rw [hrl] at hsw
          obtain ⟨p0, n0, q0, hx⟩ := hr.sl (rot f k m (m + 1) k)
          obtain ⟨p1, n1, q1, hy⟩ := hr.sl (rot f k m (m + 1) (k - 1))
          rw [hx] at c0 hsw
          rw [hy] at c1 hsw
          clear hx hy hr hrl
          have i2 : (0 : Int) ≤ (k : Int) := by omega
          have i3 : (k : Int) < ((N : Nat) : Int) := by omega
          have i4 : (0 : Int) ≤ (k : Int) - 1 := by omega
          have i5 : (k : Int) - 1 < (N : Int) := by omega
          have e0 : ((k : Int) - 1).toNat = k - 1 := by omega
          have jj : ((k - 1 : Nat) : Int) = (k : Int) - 1 := by omega
          replace hsw := Lib.hid hsw
          replace jj := Lib.hid jj
          go_wp2
          go_region
          go_wp2
          go_roundw
          case rel => exact ⟨k - 1, by rw [jj.out], by omega, by omega, hsw.out⟩
          case measure => simp [intOf]; omega
        · have hkB : decide ((k : Int) > (i : Int)) = false := by simp; omega
          obtain rfl : i = k := by omega
          go_wp2
          go_end0
          exact ⟨rfl, _, hr, ho.out.1, ho.out.2⟩
end Go.Proofs.YtdapnemcdgjeeaaDoor.Srt
