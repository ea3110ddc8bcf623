/- Walks: the law TokenBetween. -/
import Derived.Test.YtaeplgakpacobaaDoorRound
import Derived.Test.YtaeplgakpacobaaDoorBtw2
set_option maxRecDepth 100000
set_option linter.unusedVariables false
set_option linter.unusedSimpArgs false
namespace Go.Proofs.YtaeplgakpacobaaDoor
open Go.RowKit

theorem open_any (s : ByteArray) (b : Nat) (w : World) (hs : s.size ≤ 1048576) (h : b < s.size) (ho : Tok.opens s.data.toList b) :
    Calls Tryd.prog 9 #[.string s, .int .i64 (b : Int)] w fun e w' => e = .returned (.bool true) ∧ w = w' := by
  have g := getD_byte s b h
  unfold Tok.opens at ho
  rw [g] at ho
  clear g
  rcases ho with h1 | h1 | h1
  · have b1 : ((s[b].toNat : Int) == 39) = true := by simp; omega
    clear h1
    go_enter Tryd.func9, Tryd.ntmps9
    go_wp2
    go_ret
    exact ⟨rfl, rfl⟩
  · have b1 : ((s[b].toNat : Int) == 39) = false := by simp; omega
    have b2 : ((s[b].toNat : Int) == 120) = true := by simp; omega
    clear h1
    go_enter Tryd.func9, Tryd.ntmps9
    go_wp2
    go_ret
    exact ⟨rfl, rfl⟩
  · have b1 : ((s[b].toNat : Int) == 39) = false := by simp; omega
    have b2 : ((s[b].toNat : Int) == 120) = false := by simp; omega
    have b3 : ((s[b].toNat : Int) == 88) = true := by simp; omega
    clear h1
    go_enter Tryd.func9, Tryd.ntmps9
    go_wp2
    go_ret
    exact ⟨rfl, rfl⟩

/-- a slice of tokens of the call's own, as an argument -/
theorem toksAt_own {w : World} {B N c : Nat} {p : Option Addr} {L : List Tok.T} (h : w.ownsRow B 32 3 (.slice p N c) N (tokC L)) (hl : L.length = N) : ToksAt w p N (L.map Tok.toG) := by
  refine ⟨by simp [hl], ?_⟩
  by_cases h0 : N = 0
  · left
    have : L = [] := List.eq_nil_of_length_eq_zero (by omega)
    rw [this]; rfl
  · right
    obtain ⟨g, cap, hf, _, hlt⟩ := h.form (by omega)
    simp only [Value.slice.injEq, true_and] at hf
    obtain ⟨rfl, rfl⟩ := hf
    refine ⟨g, 0, rfl, hlt, fun k y hk => ?_⟩
    rw [List.getElem?_map] at hk
    obtain ⟨t, ht, rfl⟩ := Option.map_eq_some_iff.1 hk
    have hkl : k < N := by rw [← hl]; exact (List.getElem?_eq_some_iff.1 ht).1
    obtain ⟨q0, q1, q2⟩ := tokC_at L k t ht
    simp only [Nat.zero_add, Tok.toG]
    exact ⟨(h.cellAt (k * 3) (by omega)).trans q0, (h.cellAt (k * 3 + 1) (by omega)).trans q1, (h.cellAt (k * 3 + 2) (by omega)).trans q2⟩

theorem scan_large {n : Nat} (s : ByteArray) (w : World) (hs : s.size ≤ 4294967296) : ∃ L A E N, Tok.scan s.data.toList = (L, A, E) ∧ L.length = N := ⟨_, _, _, _, rfl, rfl⟩

theorem between_big (s m : ByteArray) (w : World) (hs : s.size ≤ 1048576) (hm : m.size ≤ 1048576) (h : 1992 < s.size + m.size) :
    Calls Tryd.prog 3 #[.string s, .string m] w fun e w' => e = .returned (.bool true) ∧ Below w.heap.size w w' := by
  obtain ⟨L, A, E, N, hq⟩ : ∃ L A E N, Tok.scan s.data.toList = (L, A, E) ∧ L.length = N := ⟨_, _, _, _, rfl, rfl⟩
  replace hq := Lib.hid hq
  have hB : decide ((s.size : Int) + (m.size : Int) > 1992) = true := by simp; omega
  go_enter Tryd.func3, Tryd.ntmps3
  go_wp2_with (first
    | (go_at_call 8; refine (head_any _).mono ?_; rintro e w2 ⟨rfl, hb2⟩)
    | (go_at_call 7; refine (scan_is s _ hq (by omega)).mono ?_; rintro e w1 ⟨p, c, rfl, hrow, hb1⟩))
  go_ret
  exact ⟨rfl, hb1.trans (hb2.mono hb1.size)⟩

set_option maxHeartbeats 1000000 in
theorem between_fault (s m : ByteArray) (w : World) (h : s.size + m.size ≤ 1992) (b : Nat) (hb : (Tok.toks s.data.toList 0).2 = some b) :
    Calls Tryd.prog 3 #[.string s, .string m] w fun e w' => e = .returned (.bool true) ∧ Below w.heap.size w w' := by
  have hl : s.data.toList.length = s.size := rfl
  have hlm : m.data.toList.length = m.size := rfl
  have hq : Tok.scan s.data.toList = ([], b, 250) ∧ ([] : List Tok.T).length = 0 := ⟨Tok.scan_bad (ys := (Tok.toks s.data.toList 0).1) (by omega) (by rw [← hb]), rfl⟩
  obtain ⟨hbl, hcase⟩ := Tok.between_bad (s := s.data.toList) (x := 10 :: 59 :: m.data.toList) rfl hb
  have hbs : b < s.size := hbl
  obtain ⟨x, hx⟩ : ∃ x, s.data.toList ++ (10 :: 59 :: m.data.toList) = x := ⟨_, rfl⟩
  have hxl : x.length ≤ 1994 := by rw [← hx]; simp; omega
  have hxe : s ++ (⟨#[10, 59]⟩ : ByteArray) ++ m = bs x := by
    rw [bs_two, ← bs_of s, ← bs_of m, bs_app, bs_app, ← hx]
    simp [bs_data]
  rw [hx] at hcase
  have hs1 : s.size ≤ 1048576 := by omega
  have hB : decide ((s.size : Int) + (m.size : Int) > 1992) = false := by simp; omega
  have z1 : ¬ 9223372036854775807 < s.size + 2 := by omega
  have z2 : ¬ 9223372036854775807 < s.size + 2 + m.size := by omega
  have hz : (bs x).size ≤ 4294967296 := by rw [bs_size]; omega
  replace hq := Lib.hid hq
  replace hxe := Lib.hid hxe
  clear hx hl hlm hb hbl
  rcases hcase with ⟨p, hp, hpb⟩ | ⟨hn, ho⟩
  · have hq2 : Tok.scan (bs x).data.toList = ([], p, 250) ∧ ([] : List Tok.T).length = 0 := ⟨Tok.scan_bad (ys := (Tok.toks x 0).1) (by rw [bs_data]; omega) (by rw [bs_data, ← hp]), rfl⟩
    replace hq2 := Lib.hid hq2
    clear hp
    by_cases hpe : p = b
    · subst hpe
      have e1 : ((p : Int) == (p : Int)) = true := by simp
      clear hpb
      go_enter Tryd.func3, Tryd.ntmps3
      go_wp2_with (first
        | (go_at_call 8; refine (head_any _).mono ?_; rintro e w2 ⟨rfl, hb2⟩)
        | (go_at_call_of 7 (Value.string s); refine (scan_is s _ hq (by omega)).mono ?_; rintro e w1 ⟨p1, c1, rfl, hrow, hb1⟩)
        | (go_at_call 7; rw [hxe.out]; refine (scan_is (bs x) _ hq2 hz).mono ?_; rintro e w3 ⟨p3, c3, rfl, hrow3, hb3⟩))
      go_ret
      exact ⟨rfl, (hb1.trans (hb2.mono hb1.size)).trans (hb3.mono (Nat.le_trans hb1.size hb2.size))⟩
    · obtain ⟨hlt, ho⟩ := hpb.resolve_left hpe
      have e1 : ((p : Int) == (b : Int)) = false := by simp; omega
      have e2 : decide ((p : Int) > (b : Int)) = true := by simp; omega
      clear hpb
      replace ho := Lib.hid ho
      go_enter Tryd.func3, Tryd.ntmps3
      go_wp2_with (first
        | (go_at_call 8; refine (head_any _).mono ?_; rintro e w2 ⟨rfl, hb2⟩)
        | (go_at_call 9; refine (open_any s b _ hs1 hbs ho.out).mono ?_; rintro e w4 ⟨rfl, rfl⟩)
        | (go_at_call_of 7 (Value.string s); refine (scan_is s _ hq (by omega)).mono ?_; rintro e w1 ⟨p1, c1, rfl, hrow, hb1⟩)
        | (go_at_call 7; rw [hxe.out]; refine (scan_is (bs x) _ hq2 hz).mono ?_; rintro e w3 ⟨p3, c3, rfl, hrow3, hb3⟩))
      go_ret
      exact ⟨rfl, (hb1.trans (hb2.mono hb1.size)).trans (hb3.mono (Nat.le_trans hb1.size hb2.size))⟩
  · obtain ⟨L2, hL2⟩ : ∃ L2, (Tok.toks x 0).1.map (·.1) = L2 := ⟨_, rfl⟩
    obtain ⟨N2, hN2⟩ : ∃ N2, L2.length = N2 := ⟨_, rfl⟩
    have hq2 : Tok.scan (bs x).data.toList = (L2, 0, 0) ∧ L2.length = N2 := ⟨by rw [bs_data, Tok.scan_ok (l := x) (ys := (Tok.toks x 0).1) (by omega) (by rw [← hn]), hL2], hN2⟩
    replace hq2 := Lib.hid hq2
    replace ho := Lib.hid ho
    clear hL2 hN2 hn
    go_enter Tryd.func3, Tryd.ntmps3
    go_wp2_with (first
      | (go_at_call 8; refine (head_any _).mono ?_; rintro e w2 ⟨rfl, hb2⟩)
      | (go_at_call 9; refine (open_any s b _ hs1 hbs ho.out).mono ?_; rintro e w4 ⟨rfl, rfl⟩)
      | (go_at_call_of 7 (Value.string s); refine (scan_is s _ hq (by omega)).mono ?_; rintro e w1 ⟨p1, c1, rfl, hrow, hb1⟩)
      | (go_at_call 7; rw [hxe.out]; refine (scan_is (bs x) _ hq2 hz).mono ?_; rintro e w3 ⟨p3, c3, rfl, hrow3, hb3⟩))
    go_ret
    exact ⟨rfl, (hb1.trans (hb2.mono hb1.size)).trans (hb3.mono (Nat.le_trans hb1.size hb2.size))⟩

end Go.Proofs.YtaeplgakpacobaaDoor
