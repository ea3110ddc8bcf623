/- Walks: the library's stable sort, at rows of values. -/
import Derived.Test.YtdapnemcdgjeeaaDoorSrt4
set_option maxRecDepth 100000
set_option linter.unusedVariables false
set_option linter.unusedSimpArgs false
namespace Go.Proofs.YtdapnemcdgjeeaaDoor.Srt
open Go.RowKit Go.Proofs.YtdapnemcdgjeeaaDoor.Stb
variable {α : Type}

theorem dvd_next {d a x : Nat} (h1 : d ∣ a) (h2 : d ∣ x) (h : a < x) : a + d ≤ x := by
  have h3 := Nat.dvd_sub h2 h1
  have := Nat.le_of_dvd (by omega) h3
  omega
/-- every block of so many places is in order -/
def SB (lt : α → α → Bool) (g : Nat → α) (bs n : Nat) : Prop := ∀ x, bs ∣ x → SortedOn lt g x (min (x + bs) n)
/-- so many blocks are in order -/
def Fst (lt : α → α → Bool) (g : Nat → α) (bs a : Nat) : Prop := ∀ x, bs ∣ x → x + bs ≤ a → SortedOn lt g x (x + bs)
theorem Fst.zero {lt : α → α → Bool} {g : Nat → α} {bs : Nat} (h : 0 < bs) : Fst lt g bs 0 := fun x _ hx => by omega
theorem Fst.step {lt : α → α → Bool} {g g' : Nat → α} {bs a : Nat} (h : Fst lt g bs a) (hd : bs ∣ a) (hb : 0 < bs) (hm : Moved lt g g' a (a + bs)) (hs : SortedOn lt g' a (a + bs)) : Fst lt g' bs (a + bs) := by
  intro x hx hxa
  rcases Nat.lt_trichotomy x a with c | c | c
  · have := dvd_next hx hd c
    exact (h x hx this).congr fun k _ hk => hm.1 k (.inl (by omega))
  · rw [c]; exact hs
  · have := dvd_next hd hx c; omega
theorem Fst.done {lt : α → α → Bool} {g g' : Nat → α} {bs a n : Nat} (h : Fst lt g bs a) (hd : bs ∣ a) (han : a ≤ n) (hn : n < a + bs) (hm : Moved lt g g' a n) (hs : SortedOn lt g' a n) : SB lt g' bs n := by
  intro x hx
  rcases Nat.lt_trichotomy x a with c | c | c
  · have := dvd_next hx hd c
    rw [Nat.min_eq_left (by omega)]
    exact (h x hx this).congr fun k _ hk => hm.1 k (.inl (by omega))
  · rw [c, Nat.min_eq_right (by omega)]; exact hs
  · have := dvd_next hd hx c
    intro i j hi hij hj
    have : j < n := by omega
    omega
/-- of the blocks of so many places those behind a are in order still, those ahead of it are merged two and two -/
def Half (lt : α → α → Bool) (g : Nat → α) (bs a n : Nat) : Prop := Fst lt g (2 * bs) a ∧ ∀ x, bs ∣ x → a ≤ x → SortedOn lt g x (min (x + bs) n)
theorem Half.start {lt : α → α → Bool} {g : Nat → α} {bs n : Nat} (h : SB lt g bs n) (hb : 0 < bs) : Half lt g bs 0 n := ⟨Fst.zero (by omega), fun x hx _ => h x hx⟩
theorem dvd_half {bs a : Nat} (h : 2 * bs ∣ a) : bs ∣ a := Nat.dvd_trans ⟨2, by omega⟩ h
theorem Half.left {lt : α → α → Bool} {g : Nat → α} {bs a n : Nat} (h : Half lt g bs a n) (hd : 2 * bs ∣ a) (hn : a + bs ≤ n) : SortedOn lt g a (a + bs) := by
  have := h.2 a (dvd_half hd) (Nat.le_refl _)
  rwa [Nat.min_eq_left hn] at this
theorem Half.right {lt : α → α → Bool} {g : Nat → α} {bs a n b : Nat} (h : Half lt g bs a n) (hd : 2 * bs ∣ a) (hb : b = min (a + 2 * bs) n) : SortedOn lt g (a + bs) b := by
  have := h.2 (a + bs) ((Nat.dvd_add_right (dvd_half hd)).2 (Nat.dvd_refl _)) (by omega)
  rwa [show a + bs + bs = a + 2 * bs by omega, ← hb] at this
theorem Half.step {lt : α → α → Bool} {g g' : Nat → α} {bs a n : Nat} (h : Half lt g bs a n) (hd : 2 * bs ∣ a) (hb : 0 < bs) (hm : Moved lt g g' a (a + 2 * bs)) (hs : SortedOn lt g' a (a + 2 * bs)) : Half lt g' bs (a + 2 * bs) n :=
  ⟨h.1.step hd (by omega) hm hs, fun x hx ha => (h.2 x hx (by omega)).congr fun k hk _ => hm.1 k (.inr (by omega))⟩
theorem Half.done {lt : α → α → Bool} {g g' : Nat → α} {bs a n : Nat} (h : Half lt g bs a n) (hd : 2 * bs ∣ a) (han : a ≤ n) (hn : n < a + 2 * bs) (hm : Moved lt g g' a n) (hs : SortedOn lt g' a n) : SB lt g' (2 * bs) n := h.1.done hd han hn hm hs
theorem Half.all {lt : α → α → Bool} {g : Nat → α} {bs a n : Nat} (h : Half lt g bs a n) (hd : 2 * bs ∣ a) (hn : n ≤ a + bs) : SortedOn lt g a n := by
  have := h.2 a (dvd_half hd) (Nat.le_refl _)
  rwa [Nat.min_eq_right hn] at this

set_option maxHeartbeats 4000000 in
theorem stable_any (val : α → Value) (lt : α → α → Bool) (hs : SWO lt) (W0 : World) (B N c : Nat) (kp wp : Value) (f : Nat → α) (W : World) (hC : CmpOk val lt W0 B kp wp) (hN : N ≤ 1099511627776) (hR : RS val W0 B N f W) :
    Calls Tryd.prog 40 #[.slice (some ⟨B, 0, none⟩) N c, .int .i64 N, .func (.func 41) #[] #[kp, wp]] W (Merged val lt W0 B N f 0 N) := by
  go_enter Tryd.func40, Tryd.ntmps40
  go_wp2
  go_loopw [7, 8] (fun av bv wr => ∃ (a b : Nat) (g : Nat → α), av = .int .i64 (a : Int) ∧ bv = .int .i64 (b : Int) ∧ a ≤ N ∧ a + 20 ≤ b ∧ b ≤ a + 20 ∧ RS val W0 B N g wr ∧ Hid (20 ∣ a ∧ Moved lt f g 0 N ∧ Fst lt g 20 a)) (fun av _ _ => N - (intOf av).toNat)
  case atStart => exact ⟨0, 20, f, rfl, rfl, by omega, by omega, by omega, hR, Lib.hid ⟨⟨0, rfl⟩, Moved.refl _ _ _ _, Fst.zero (by omega)⟩⟩
  case round =>
  obtain ⟨a, b, g, rfl, rfl, haN, hb1, hb2, hr, hF⟩ := hrel
  by_cases hlt : b ≤ N
  · have hlB : decide ((b : Int) ≤ (N : Int)) = true := by simp; omega
    have hc := insertion_any val lt hs W0 B N c g wr a b kp wp hC hr (by omega) hlt hN
    clear hR
    go_wp2_with (go_at_call 50; refine hc.mono ?_; rintro e w1 ⟨rfl, g1, hr1, hm1, hs1⟩; replace hm1 := Lib.hid hm1; replace hs1 := Lib.hid hs1)
    have hnew : 20 ∣ b ∧ Moved lt f g1 0 N ∧ Fst lt g1 20 b := by
      obtain ⟨d1, d2, d3⟩ := hF.out
      have hm := hm1.out
      have hs' := hs1.out
      have e : b = a + 20 := by omega
      rw [e] at hm hs' ⊢
      exact ⟨(Nat.dvd_add_right d1).2 (Nat.dvd_refl _), d2.trans (hm.wide (Nat.zero_le _) (by omega) (by omega)), d3.step d1 (by omega) hm hs'⟩
    replace hnew := Lib.hid hnew
    go_roundw
    case rel => exact ⟨b, b + 20, g1, rfl, by go_num, by omega, by omega, by omega, hr1, hnew⟩
    case measure => simp [intOf]; omega
  have hlB : decide ((b : Int) ≤ (N : Int)) = false := by simp; omega
  have hc := insertion_any val lt hs W0 B N c g wr a N kp wp hC hr haN (Nat.le_refl _) hN
  clear hR
  go_wp2_with (go_at_call 50; refine hc.mono ?_; rintro e w1 ⟨rfl, g1, hr1, hm1, hs1⟩; replace hm1 := Lib.hid hm1; replace hs1 := Lib.hid hs1)
  have hsb : Moved lt f g1 0 N ∧ SB lt g1 20 N := ⟨hF.out.2.1.trans (hm1.out.wide (Nat.zero_le _) haN (Nat.le_refl _)), hF.out.2.2.done hF.out.1 haN (by omega) hm1.out hs1.out⟩
  replace hsb := Lib.hid hsb
  clear hF hm1 hs1 hr hc
  go_loopw [6] (fun sv wr => ∃ (bs : Nat) (g : Nat → α), sv = .int .i64 (bs : Int) ∧ 0 < bs ∧ bs ≤ 2 * N + 20 ∧ RS val W0 B N g wr ∧ Hid (Moved lt f g 0 N ∧ SB lt g bs N)) (fun sv _ => N - (intOf sv).toNat)
  case atStart => exact ⟨20, g1, rfl, by omega, by omega, hr1, hsb⟩
  case round =>
  clear hr1 hsb hlB hb1 hb2 hlt haN
  obtain ⟨bs, g, rfl, hb0, hbN, hr, hF⟩ := hrel
  by_cases hlt : bs < N
  · have hlB : decide ((bs : Int) < (N : Int)) = true := by simp; omega
    have j2 : ((2 * bs : Nat) : Int) = 2 * (bs : Int) := by omega
    have j3 : ((bs * 2 : Nat) : Int) = (bs : Int) * 2 := by omega
    replace j2 := Lib.hid j2
    replace j3 := Lib.hid j3
    go_wp2
    go_loopw [7, 8] (fun av bv wr => ∃ (a b : Nat) (h : Nat → α), av = .int .i64 (a : Int) ∧ bv = .int .i64 (b : Int) ∧ a ≤ N ∧ a + 2 * bs ≤ b ∧ b ≤ a + 2 * bs ∧ RS val W0 B N h wr ∧ Hid (2 * bs ∣ a ∧ Moved lt f h 0 N ∧ Half lt h bs a N)) (fun av _ _ => N - (intOf av).toNat)
    case atStart => exact ⟨0, 2 * bs, g, rfl, by rw [j2.out], by omega, by omega, by omega, hr, Lib.hid ⟨⟨0, rfl⟩, hF.out.1, Half.start hF.out.2 hb0⟩⟩
    case round =>
    clear hr hF
    obtain ⟨a, b, h, rfl, rfl, haN, hb1, hb2, hr, hF⟩ := hrel
    obtain ⟨d1, d2, d3⟩ := hF.out
    have ja : ((a + bs : Nat) : Int) = (a : Int) + (bs : Int) := by omega
    by_cases hlt2 : b ≤ N
    · have hlB2 : decide ((b : Int) ≤ (N : Int)) = true := by simp; omega
      have e : b = a + 2 * bs := by omega
      have hc := merge_any val lt hs W0 B N c kp wp hC hN _ h wr a (a + bs) b (Nat.le_refl _) hr (by omega) (by omega) hlt2 (d3.left d1 (by omega)) (d3.right d1 (by omega))
      rw [ja] at hc
      replace d1 := Lib.hid d1
      replace d2 := Lib.hid d2
      replace d3 := Lib.hid d3
      replace e := Lib.hid e
      clear hF ja
      go_wp2_with (go_at_call 51; refine hc.mono ?_; rintro e' w1 ⟨rfl, h1, hr1, hm1, hs1⟩; replace hm1 := Lib.hid hm1; replace hs1 := Lib.hid hs1)
      have hnew : 2 * bs ∣ b ∧ Moved lt f h1 0 N ∧ Half lt h1 bs b N := by
        have hm := hm1.out
        have hs' := hs1.out
        have hl := hlt2
        rw [e.out] at hm hs' hl ⊢
        exact ⟨(Nat.dvd_add_right d1.out).2 (Nat.dvd_refl _), d2.out.trans (hm.wide (Nat.zero_le _) (by omega) hl), d3.out.step d1.out hb0 hm hs'⟩
      replace hnew := Lib.hid hnew
      go_roundw
      case rel => exact ⟨b, b + 2 * bs, h1, rfl, by first | (go_num; done) | (rw [Int.natCast_add, j2.out]), by omega, by omega, by omega, hr1, hnew⟩
      case measure => simp [intOf]; omega
    · have hlB2 : decide ((b : Int) ≤ (N : Int)) = false := by simp; omega
      by_cases hm : a + bs < N
      · have hmB : decide ((a : Int) + (bs : Int) < (N : Int)) = true := by simp; omega
        have hc := merge_any val lt hs W0 B N c kp wp hC hN _ h wr a (a + bs) N (Nat.le_refl _) hr (by omega) hm (Nat.le_refl _) (d3.left d1 (by omega)) (d3.right d1 (by omega))
        rw [ja] at hc
        replace d1 := Lib.hid d1
        replace d2 := Lib.hid d2
        replace d3 := Lib.hid d3
        clear hF ja
        go_wp2_with (go_at_call 51; refine hc.mono ?_; rintro e' w1 ⟨rfl, h1, hr1, hm1, hs1⟩; replace hm1 := Lib.hid hm1; replace hs1 := Lib.hid hs1)
        have hnew : Moved lt f h1 0 N ∧ SB lt h1 (bs * 2) N := by
          rw [Nat.mul_comm bs 2]
          exact ⟨d2.out.trans (hm1.out.wide (Nat.zero_le _) haN (Nat.le_refl _)), d3.out.done d1.out haN (by omega) hm1.out hs1.out⟩
        replace hnew := Lib.hid hnew
        go_roundw
        case rel => exact ⟨bs * 2, h1, by first | (go_num; done) | (rw [j3.out]), by omega, by omega, hr1, hnew⟩
        case measure => simp [intOf]; omega
      · have hmB : decide ((a : Int) + (bs : Int) < (N : Int)) = false := by simp; omega
        have hnew : Moved lt f h 0 N ∧ SB lt h (bs * 2) N := by
          rw [Nat.mul_comm bs 2]
          exact ⟨d2, d3.done d1 haN (by omega) (Moved.refl _ _ _ _) (d3.all d1 (by omega))⟩
        replace hnew := Lib.hid hnew
        clear hF ja d1 d2 d3
        go_wp2
        go_roundw
        case rel => exact ⟨bs * 2, h, by first | (go_num; done) | (rw [j3.out]), by omega, by omega, hr, hnew⟩
        case measure => simp [intOf]; omega
  · have hlB : decide ((bs : Int) < (N : Int)) = false := by simp; omega
    have hfin := hF.out.2 0 ⟨0, rfl⟩
    rw [Nat.min_eq_right (by omega)] at hfin
    replace hfin := Lib.hid hfin
    go_wp2
    go_end0
    exact ⟨rfl, g, hr, hF.out.1, hfin.out⟩

/-- the row that is sorted, in the end -/
theorem sortStable_any (val : α → Value) (lt : α → α → Bool) (hs : SWO lt) (W0 : World) (B N c : Nat) (kp wp : Value) (f : Nat → α) (W : World) (hC : CmpOk val lt W0 B kp wp) (hN : N ≤ 1099511627776) (hR : RS val W0 B N f W) :
    Calls Tryd.prog 33 #[.slice (some ⟨B, 0, none⟩) N c, .func (.func 41) #[] #[kp, wp]] W fun e W' => e = .returned (.tuple #[]) ∧ ∃ g, RS val W0 B N g W' ∧ seg g 0 N = isort lt (seg f 0 N) := by
  go_enter Tryd.func33, Tryd.ntmps33
  go_wp2_with (go_at_call 40; refine (stable_any val lt hs W0 B N c kp wp f _ hC hN hR).mono ?_; rintro e w1 ⟨rfl, g, hr, hm, hg⟩)
  go_end0
  exact ⟨rfl, g, hr, moved_sorted hm hg⟩
end Go.Proofs.YtdapnemcdgjeeaaDoor.Srt
