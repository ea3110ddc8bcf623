/- Walks: Read of the reference. -/
import Derived.Test.YtiiaamkmnbegdaaDoorNumW
import Derived.Test.YtiiaamkmnbegdaaDoorRef02
import Derived.Test.YtiiaamkmnbegdaaDoorPrtIt
namespace Go.Proofs.YtiiaamkmnbegdaaDoor
set_option maxRecDepth 100000
set_option linter.unusedVariables false
set_option linter.unusedSimpArgs false
open Go.RowKit

theorem rnum_any (s : ByteArray) (w : World) (hs : s.size ≤ 1000) : Calls Tryd.prog 59 #[.string s] w (NumP (Val.number s.data.toList) w) := by
  by_cases h0 : s.size = 0
  · have e : s.data.toList = [] := List.eq_nil_of_length_eq_zero h0
    rw [e]
    have b0 : decide ((s.size : Int) > 0) = false := decide_eq_false (by omega)
    have b1 : ((0 : Int) == (s.size : Int)) = true := by simp; omega
    clear e h0
    go_enter Tryd.func59, Tryd.ntmps59
    go_wp2
    go_ret2
    exact ⟨rfl, rfl⟩
  · have hp : 0 < s.size := by omega
    have hd := dropc s 0 hp
    have hd0 : s.data.toList = s[0] :: s.data.toList.drop 1 := by simpa using hd
    have b0 : decide ((s.size : Int) > 0) = true := decide_eq_true (by omega)
    have hlen : s.data.toList.length = s.size := rfl
    by_cases h45 : (s[0]).toNat = 45
    · by_cases h1 : s.size = 1
      · have e : Val.number s.data.toList = none := by
          rw [hd0, Val.number, if_pos h45, if_pos (.inl (List.drop_of_length_le (by omega)))]
        rw [e]
        have b1 : (((s[0]).toNat : Int) == 45) = true := by simp; omega
        have b2 : ((1 : Int) == (s.size : Int)) = true := by simp; omega
        clear e hd hd0 hlen h0 h1 h45
        go_enter Tryd.func59, Tryd.ntmps59
        go_wp2
        go_ret2
        exact ⟨rfl, rfl⟩
      · have hp1 : 1 < s.size := by omega
        have hd1 := dropc s 1 hp1
        by_cases h48 : (s[1]).toNat = 48
        · have e : Val.number s.data.toList = none := by
            rw [hd0, Val.number, if_pos h45, if_pos (.inr (by rw [hd1]; simpa using h48))]
          rw [e]
          have b1 : (((s[0]).toNat : Int) == 45) = true := by simp; omega
          have b2 : ((1 : Int) == (s.size : Int)) = false := by simp; omega
          have b3 : (((s[1]).toNat : Int) == 48) = true := by simp; omega
          have b4 : decide ((s.size : Int) > 1) = true := decide_eq_true (by omega)
          clear e hd hd0 hd1 hlen h0 h1 h45 h48
          go_enter Tryd.func59, Tryd.ntmps59
          go_wp2
          go_ret2
          exact ⟨rfl, rfl⟩
        · have e : Val.number s.data.toList = Val.numFrom true 0 (s.data.toList.drop 1) := by
            conv => lhs; rw [hd0]
            rw [Val.number, if_pos h45, if_neg]
            rintro (h | h)
            · rw [hd1] at h; cases h
            · rw [hd1] at h; exact h48 (by simpa using h)
          rw [e]
          exact rnum_neg s w hs hp1 h45 h48 _ (Lib.hid rfl)
    · by_cases h48 : (s[0]).toNat = 48 ∧ 1 < s.size
      · have e : Val.number s.data.toList = none := by
          rw [hd0, Val.number, if_neg h45, if_pos ⟨h48.1, fun h => by have := congrArg List.length h; simp at this; omega⟩]
        rw [e]
        have b1 : (((s[0]).toNat : Int) == 45) = false := by simp; omega
        have b2 : ((0 : Int) == (s.size : Int)) = false := by simp; omega
        have b3 : (((s[0]).toNat : Int) == 48) = true := by simp; omega
        have b4 : decide ((s.size : Int) > 1) = true := decide_eq_true (by omega)
        clear e hd hd0 hlen h0 h45 h48
        go_enter Tryd.func59, Tryd.ntmps59
        go_wp2
        go_ret2
        exact ⟨rfl, rfl⟩
      · have e : Val.number s.data.toList = Val.numFrom false 0 (s.data.toList.drop 0) := by
          rw [List.drop_zero]
          conv => lhs; rw [hd0]
          rw [Val.number, if_neg h45, if_neg, ← hd0]
          rintro ⟨h, hr⟩
          exact h48 ⟨h, by
            apply Classical.byContradiction
            intro hh
            exact hr (List.drop_of_length_le (by omega))⟩
        rw [e]
        exact rnum_pos s w hs hp h45 h48 _ (Lib.hid rfl)

/-- what Read answers -/
def RReadP (q : Val.V × Nat) (w : World) (e : Ending) (w' : World) : Prop :=
  e = .returned (.tuple #[.agg #[.int .i64 q.1.kind, .int .i64 q.1.int, .string (bs q.1.text)], .int .i64 (q.2 : Int)]) ∧ Below w.heap.size w w'

theorem rread_long (s : ByteArray) (w : World) (h : 1000 < s.size) : Calls Tryd.prog 26 #[.string s] w (RReadP (Val.zero, 3) w) := by
  have b0 : decide ((s.size : Int) > 1000) = true := decide_eq_true (by omega)
  clear h
  go_enter Tryd.func26, Tryd.ntmps26
  go_wp2
  refine bodyPost_ret (v := .tuple #[.agg #[.int .i64 0, .int .i64 0, .string ⟨#[]⟩], .int .i64 3]) (by simp only [results, Tryd.results26]; go_simp) rfl ?_
  exact ⟨rfl, (Below.refl _ w).alloc (Nat.le_refl _) _⟩
theorem rread_null (s : ByteArray) (w : World) (h : s.size ≤ 1000) (hn : (s.toList == [78, 85, 76, 76]) = true) : Calls Tryd.prog 26 #[.string s] w (RReadP (Val.zero, 0) w) := by
  have b0 : decide ((s.size : Int) > 1000) = false := decide_eq_false (by omega)
  clear h
  go_enter Tryd.func26, Tryd.ntmps26
  go_wp2
  refine bodyPost_ret (v := .tuple #[.agg #[.int .i64 0, .int .i64 0, .string ⟨#[]⟩], .int .i64 0]) (by simp only [results, Tryd.results26]; go_simp) rfl ?_
  exact ⟨rfl, (Below.refl _ w).alloc (Nat.le_refl _) _⟩
theorem rread_num (s : ByteArray) (w : World) (n : Int) (h : s.size ≤ 1000) (hn : (s.toList == [78, 85, 76, 76]) = false) (hq : Hid (Val.number s.data.toList = some n)) : Calls Tryd.prog 26 #[.string s] w (RReadP (⟨1, n, []⟩, 0) w) := by
  have b0 : decide ((s.size : Int) > 1000) = false := decide_eq_false (by omega)
  have hnum := fun W => rnum_any s W h
  rw [hq.out] at hnum
  go_enter Tryd.func26, Tryd.ntmps26
  go_wp2_with (go_at_call 59; refine (hnum _).mono ?_; rintro e w1 ⟨rfl, rfl⟩)
  refine bodyPost_ret (v := .tuple #[.agg #[.int .i64 1, .int .i64 n, .string ⟨#[]⟩], .int .i64 0]) (by simp only [results, Tryd.results26]; go_simp) rfl ?_
  exact ⟨rfl, by first | exact below_set3 ((Below.refl _ w).alloc (Nat.le_refl _) _) | exact (Below.refl _ w).alloc (Nat.le_refl _) _⟩


theorem getD_at (s : ByteArray) (i : Nat) (h : i < s.size) : s.data.toList.getD i 0 = s[i] := by
  have h' : i < s.data.toList.length := h
  rw [List.getD, List.getElem?_eq_getElem h']
  rfl

theorem rread_t0 (s : ByteArray) (w : World) (h : s.size ≤ 1000) (hn : (s.toList == [78, 85, 76, 76]) = false) (hq : Hid (Val.number s.data.toList = none)) (hz : s.size = 0) :
    Calls Tryd.prog 26 #[.string s] w (RReadP (Val.zero, 120) w) := by
  have b0 : decide ((s.size : Int) > 1000) = false := decide_eq_false (by omega)
  have hnum := fun W => rnum_any s W h
  rw [hq.out] at hnum
  have f1 : decide ((s.size : Int) > 0) = false := decide_eq_false (by omega)
  have f2 : decide ((s.size : Int) < 2) = true := decide_eq_true (by omega)
  go_enter Tryd.func26, Tryd.ntmps26
  go_wp2_with (go_at_call 59; refine (hnum _).mono ?_; rintro e w1 ⟨rfl, rfl⟩)
  refine bodyPost_ret (v := .tuple #[.agg #[.int .i64 0, .int .i64 0, .string ⟨#[]⟩], .int .i64 120]) (by simp only [results, Tryd.results26]; go_simp) rfl ?_
  exact ⟨rfl, by first | exact (Below.refl _ w).alloc (Nat.le_refl _) _ | exact below_set3 ((Below.refl _ w).alloc (Nat.le_refl _) _)⟩

theorem rread_t1 (s : ByteArray) (w : World) (h : s.size ≤ 1000) (hn : (s.toList == [78, 85, 76, 76]) = false) (hq : Hid (Val.number s.data.toList = none)) (hz : s.size = 1) (hx : (s[0]).toNat ≠ 120) :
    Calls Tryd.prog 26 #[.string s] w (RReadP (Val.zero, 120) w) := by
  have b0 : decide ((s.size : Int) > 1000) = false := decide_eq_false (by omega)
  have hnum := fun W => rnum_any s W h
  rw [hq.out] at hnum
  have hp : 0 < s.size := by omega
  have f1 : decide ((s.size : Int) > 0) = true := decide_eq_true (by omega)
  have f2 : decide ((s.size : Int) < 2) = true := decide_eq_true (by omega)
  have f3 : (((s[0]).toNat : Int) == 120) = false := by simp; omega
  clear hx
  go_enter Tryd.func26, Tryd.ntmps26
  go_wp2_with (go_at_call 59; refine (hnum _).mono ?_; rintro e w1 ⟨rfl, rfl⟩)
  refine bodyPost_ret (v := .tuple #[.agg #[.int .i64 0, .int .i64 0, .string ⟨#[]⟩], .int .i64 120]) (by simp only [results, Tryd.results26]; go_simp) rfl ?_
  exact ⟨rfl, by first | exact (Below.refl _ w).alloc (Nat.le_refl _) _ | exact below_set3 ((Below.refl _ w).alloc (Nat.le_refl _) _)⟩

theorem rread_t2 (s : ByteArray) (w : World) (h : s.size ≤ 1000) (hn : (s.toList == [78, 85, 76, 76]) = false) (hq : Hid (Val.number s.data.toList = none)) (hz : 2 ≤ s.size) (hx : (s[0]).toNat ≠ 120) (h39 : (s[0]).toNat ≠ 39) :
    Calls Tryd.prog 26 #[.string s] w (RReadP (Val.zero, 120) w) := by
  have b0 : decide ((s.size : Int) > 1000) = false := decide_eq_false (by omega)
  have hnum := fun W => rnum_any s W h
  rw [hq.out] at hnum
  have hp : 0 < s.size := by omega
  have f1 : decide ((s.size : Int) > 0) = true := decide_eq_true (by omega)
  have f2 : decide ((s.size : Int) < 2) = false := decide_eq_false (by omega)
  have f3 : (((s[0]).toNat : Int) == 120) = false := by simp; omega
  have f4 : (((s[0]).toNat : Int) != 39) = true := by simp; omega
  clear hx h39
  go_enter Tryd.func26, Tryd.ntmps26
  go_wp2_with (go_at_call 59; refine (hnum _).mono ?_; rintro e w1 ⟨rfl, rfl⟩)
  refine bodyPost_ret (v := .tuple #[.agg #[.int .i64 0, .int .i64 0, .string ⟨#[]⟩], .int .i64 120]) (by simp only [results, Tryd.results26]; go_simp) rfl ?_
  exact ⟨rfl, by first | exact (Below.refl _ w).alloc (Nat.le_refl _) _ | exact below_set3 ((Below.refl _ w).alloc (Nat.le_refl _) _)⟩

theorem rread_t3 (s : ByteArray) (w : World) (h : s.size ≤ 1000) (hn : (s.toList == [78, 85, 76, 76]) = false) (hq : Hid (Val.number s.data.toList = none)) (hz : 2 ≤ s.size) (h39 : (s[0]).toNat = 39) (hl : (s[s.size - 1]).toNat ≠ 39) :
    Calls Tryd.prog 26 #[.string s] w (RReadP (Val.zero, 120) w) := by
  have b0 : decide ((s.size : Int) > 1000) = false := decide_eq_false (by omega)
  have hnum := fun W => rnum_any s W h
  rw [hq.out] at hnum
  have hp : 0 < s.size := by omega
  have i1 : (s.size : Int) - 1 = ((s.size - 1 : Nat) : Int) := by omega
  have f1 : decide ((s.size : Int) > 0) = true := decide_eq_true (by omega)
  have f2 : decide ((s.size : Int) < 2) = false := decide_eq_false (by omega)
  have f3 : (((s[0]).toNat : Int) == 120) = false := by simp; omega
  have f4 : (((s[0]).toNat : Int) != 39) = false := by simp; omega
  have f5 : (((s[s.size - 1]).toNat : Int) != 39) = true := by simp; omega
  clear h39 hl
  go_enter Tryd.func26, Tryd.ntmps26
  go_wp2_with (go_at_call 59; refine (hnum _).mono ?_; rintro e w1 ⟨rfl, rfl⟩)
  refine bodyPost_ret (v := .tuple #[.agg #[.int .i64 0, .int .i64 0, .string ⟨#[]⟩], .int .i64 120]) (by simp only [results, Tryd.results26]; go_simp) rfl ?_
  exact ⟨rfl, by first | exact (Below.refl _ w).alloc (Nat.le_refl _) _ | exact below_set3 ((Below.refl _ w).alloc (Nat.le_refl _) _)⟩

theorem rread_b1 (s : ByteArray) (w : World) (h : s.size ≤ 1000) (hn : (s.toList == [78, 85, 76, 76]) = false) (hq : Hid (Val.number s.data.toList = none)) (hp : 0 < s.size) (hx : (s[0]).toNat = 120) (hz : s.size < 3) :
    Calls Tryd.prog 26 #[.string s] w (RReadP (Val.zero, 120) w) := by
  have b0 : decide ((s.size : Int) > 1000) = false := decide_eq_false (by omega)
  have hnum := fun W => rnum_any s W h
  rw [hq.out] at hnum
  have f1 : decide ((s.size : Int) > 0) = true := decide_eq_true (by omega)
  have f2 : decide ((s.size : Int) < 3) = true := decide_eq_true (by omega)
  have f3 : (((s[0]).toNat : Int) == 120) = true := by simp; omega
  clear hx
  go_enter Tryd.func26, Tryd.ntmps26
  go_wp2_with (go_at_call 59; refine (hnum _).mono ?_; rintro e w1 ⟨rfl, rfl⟩)
  refine bodyPost_ret (v := .tuple #[.agg #[.int .i64 0, .int .i64 0, .string ⟨#[]⟩], .int .i64 120]) (by simp only [results, Tryd.results26]; go_simp) rfl ?_
  exact ⟨rfl, by first | exact (Below.refl _ w).alloc (Nat.le_refl _) _ | exact below_set3 ((Below.refl _ w).alloc (Nat.le_refl _) _)⟩

theorem rread_b2 (s : ByteArray) (w : World) (h : s.size ≤ 1000) (hn : (s.toList == [78, 85, 76, 76]) = false) (hq : Hid (Val.number s.data.toList = none)) (hz : 3 ≤ s.size) (hx : (s[0]).toNat = 120) (h39 : (s[1]).toNat ≠ 39) :
    Calls Tryd.prog 26 #[.string s] w (RReadP (Val.zero, 120) w) := by
  have b0 : decide ((s.size : Int) > 1000) = false := decide_eq_false (by omega)
  have hnum := fun W => rnum_any s W h
  rw [hq.out] at hnum
  have hp : 0 < s.size := by omega
  have hp1 : 1 < s.size := by omega
  have f1 : decide ((s.size : Int) > 0) = true := decide_eq_true (by omega)
  have f2 : decide ((s.size : Int) < 3) = false := decide_eq_false (by omega)
  have f3 : (((s[0]).toNat : Int) == 120) = true := by simp; omega
  have f4 : (((s[1]).toNat : Int) != 39) = true := by simp; omega
  clear hx h39
  go_enter Tryd.func26, Tryd.ntmps26
  go_wp2_with (go_at_call 59; refine (hnum _).mono ?_; rintro e w1 ⟨rfl, rfl⟩)
  refine bodyPost_ret (v := .tuple #[.agg #[.int .i64 0, .int .i64 0, .string ⟨#[]⟩], .int .i64 120]) (by simp only [results, Tryd.results26]; go_simp) rfl ?_
  exact ⟨rfl, by first | exact (Below.refl _ w).alloc (Nat.le_refl _) _ | exact below_set3 ((Below.refl _ w).alloc (Nat.le_refl _) _)⟩

theorem rread_b3 (s : ByteArray) (w : World) (h : s.size ≤ 1000) (hn : (s.toList == [78, 85, 76, 76]) = false) (hq : Hid (Val.number s.data.toList = none)) (hz : 3 ≤ s.size) (hx : (s[0]).toNat = 120) (h39 : (s[1]).toNat = 39) (hl : (s[s.size - 1]).toNat ≠ 39) :
    Calls Tryd.prog 26 #[.string s] w (RReadP (Val.zero, 120) w) := by
  have b0 : decide ((s.size : Int) > 1000) = false := decide_eq_false (by omega)
  have hnum := fun W => rnum_any s W h
  rw [hq.out] at hnum
  have hp : 0 < s.size := by omega
  have hp1 : 1 < s.size := by omega
  have i1 : (s.size : Int) - 1 = ((s.size - 1 : Nat) : Int) := by omega
  have f1 : decide ((s.size : Int) > 0) = true := decide_eq_true (by omega)
  have f2 : decide ((s.size : Int) < 3) = false := decide_eq_false (by omega)
  have f3 : (((s[0]).toNat : Int) == 120) = true := by simp; omega
  have f4 : (((s[1]).toNat : Int) != 39) = false := by simp; omega
  have f5 : (((s[s.size - 1]).toNat : Int) != 39) = true := by simp; omega
  clear hx h39 hl
  go_enter Tryd.func26, Tryd.ntmps26
  go_wp2_with (go_at_call 59; refine (hnum _).mono ?_; rintro e w1 ⟨rfl, rfl⟩)
  refine bodyPost_ret (v := .tuple #[.agg #[.int .i64 0, .int .i64 0, .string ⟨#[]⟩], .int .i64 120]) (by simp only [results, Tryd.results26]; go_simp) rfl ?_
  exact ⟨rfl, by first | exact (Below.refl _ w).alloc (Nat.le_refl _) _ | exact below_set3 ((Below.refl _ w).alloc (Nat.le_refl _) _)⟩

set_option maxHeartbeats 1000000 in
theorem rread_textN (s : ByteArray) (w : World) (h : s.size ≤ 1000) (hn : (s.toList == [78, 85, 76, 76]) = false) (hq : Hid (Val.number s.data.toList = none)) (hz : 2 ≤ s.size) (hx : (s[0]).toNat ≠ 120) (h39 : (s[0]).toNat = 39) (hl : (s[s.size - 1]).toNat = 39) (u : List UInt8) (b : Bool) (hu : Txt.bytes (Tok.cut s.data.toList 1 (s.size - 1)) false = (u, b)) (hbf : b = false) :
    Calls Tryd.prog 26 #[.string s] w (RReadP (Val.zero, 120) w) := by
  have b0 : decide ((s.size : Int) > 1000) = false := decide_eq_false (by omega)
  have hnum := fun W => rnum_any s W h
  rw [hq.out] at hnum
  subst hbf
  have hp : 0 < s.size := by omega
  have i1 : (s.size : Int) - 1 = ((s.size - 1 : Nat) : Int) := by omega
  have f1 : decide ((s.size : Int) > 0) = true := decide_eq_true (by omega)
  have f2 : decide ((s.size : Int) < 2) = false := decide_eq_false (by omega)
  have f3 : (((s[0]).toNat : Int) == 120) = false := by simp; omega
  have f4 : (((s[0]).toNat : Int) != 39) = false := by simp; omega
  have f5 : (((s[s.size - 1]).toNat : Int) != 39) = false := by simp; omega
  have hcut : (s.extract 1 (s.size - 1)).data.toList = Tok.cut s.data.toList 1 (s.size - 1) := by rw [Lib.extract_data]; rfl
  have hsz : (s.extract 1 (s.size - 1)).size ≤ 4294967296 := by rw [ByteArray.size_extract]; omega
  have hby := fun W => bytes_text (s.extract 1 (s.size - 1)) W hsz
  rw [hcut, hu] at hby
  clear hcut hu hsz hx h39 hl
  go_enter Tryd.func26, Tryd.ntmps26
  go_wp2_with (first
    | (go_at_call 59; refine (hnum _).mono ?_; rintro e w1 ⟨rfl, rfl⟩)
    | (go_at_call 60; refine (hby _).mono ?_; rintro e w2 ⟨rfl, hb2⟩; obtain ⟨c0, c1, c2, g0, g1, g2⟩ := cells3 hb2 (by simp) (heap_new _ _); have hz2 : w.heap.size < w2.heap.size := (by have := hb2.size; simp at this; omega); have hB2 : Below w.heap.size w w2 := ((Below.refl _ w).alloc (Nat.le_refl _) _).trans (hb2.mono (by simp))))
  refine bodyPost_ret (v := .tuple #[.agg #[.int .i64 0, .int .i64 0, .string ⟨#[]⟩], .int .i64 120]) (by simp only [results, Tryd.results26]; go_simp) rfl ?_
  exact ⟨rfl, by repeat (first | exact hB2 | refine Below.alloc ?_ (by simp; omega) _ | refine Below.setCell ?_ (by simp) _)⟩

set_option maxHeartbeats 1000000 in
theorem rread_textfalse (s : ByteArray) (w : World) (h : s.size ≤ 1000) (hn : (s.toList == [78, 85, 76, 76]) = false) (hq : Hid (Val.number s.data.toList = none)) (hz : 2 ≤ s.size) (hx : (s[0]).toNat ≠ 120) (h39 : (s[0]).toNat = 39) (hl : (s[s.size - 1]).toNat = 39) (u : List UInt8) (b : Bool) (hu : Txt.bytes (Tok.cut s.data.toList 1 (s.size - 1)) false = (u, b)) (hbf : b = true) (hm : Hid (Val.may ⟨2, 0, (bs u).data.toList⟩ = false)) :
    Calls Tryd.prog 26 #[.string s] w (RReadP (Val.zero, 120) w) := by
  have b0 : decide ((s.size : Int) > 1000) = false := decide_eq_false (by omega)
  have hnum := fun W => rnum_any s W h
  rw [hq.out] at hnum
  subst hbf
  have hp : 0 < s.size := by omega
  have i1 : (s.size : Int) - 1 = ((s.size - 1 : Nat) : Int) := by omega
  have f1 : decide ((s.size : Int) > 0) = true := decide_eq_true (by omega)
  have f2 : decide ((s.size : Int) < 2) = false := decide_eq_false (by omega)
  have f3 : (((s[0]).toNat : Int) == 120) = false := by simp; omega
  have f4 : (((s[0]).toNat : Int) != 39) = false := by simp; omega
  have f5 : (((s[s.size - 1]).toNat : Int) != 39) = false := by simp; omega
  have hcut : (s.extract 1 (s.size - 1)).data.toList = Tok.cut s.data.toList 1 (s.size - 1) := by rw [Lib.extract_data]; rfl
  have hsz : (s.extract 1 (s.size - 1)).size ≤ 4294967296 := by rw [ByteArray.size_extract]; omega
  have hby := fun W => bytes_text (s.extract 1 (s.size - 1)) W hsz
  rw [hcut, hu] at hby
  clear hcut hu hsz hx h39 hl
  go_enter Tryd.func26, Tryd.ntmps26
  go_wp2_with (first
    | (go_at_call 59; refine (hnum _).mono ?_; rintro e w1 ⟨rfl, rfl⟩)
    | (go_at_call 60; refine (hby _).mono ?_; rintro e w2 ⟨rfl, hb2⟩; obtain ⟨c0, c1, c2, g0, g1, g2⟩ := cells3 hb2 (by simp) (heap_new _ _); have hz2 : w.heap.size < w2.heap.size := (by have := hb2.size; simp at this; omega); have hB2 : Below w.heap.size w w2 := ((Below.refl _ w).alloc (Nat.le_refl _) _).trans (hb2.mono (by simp)))
    | (go_at_call 31; refine (rmay_is 2 0 (bs u) _ hm).mono ?_; rintro e w3 ⟨rfl, hb3⟩; have hb23 := hb2.trans ((((Below.refl _ w2).alloc (Nat.le_refl _) _).trans (hb3.mono (by simp))).mono hb2.size); obtain ⟨c0, c1, c2, g0, g1, g2⟩ := cells3 hb23 (by simp) (heap_new _ _); obtain ⟨d0, d1, d2, _, _, _⟩ := cells3 hb3 (by simp) (heap_new _ _); have hz3 : w.heap.size < w3.heap.size := (by have := hb23.size; simp at this; omega); have hB3 : Below w.heap.size w w3 := ((Below.refl _ w).alloc (Nat.le_refl _) _).trans (hb23.mono (by simp))))
  refine bodyPost_ret (v := .tuple #[.agg #[.int .i64 0, .int .i64 0, .string ⟨#[]⟩], .int .i64 120]) (by simp only [results, Tryd.results26]; go_simp) rfl ?_
  exact ⟨rfl, by repeat (first | exact hB3 | refine Below.alloc ?_ (by simp; omega) _ | refine Below.setCell ?_ (by simp) _)⟩

set_option maxHeartbeats 1000000 in
theorem rread_texttrue (s : ByteArray) (w : World) (h : s.size ≤ 1000) (hn : (s.toList == [78, 85, 76, 76]) = false) (hq : Hid (Val.number s.data.toList = none)) (hz : 2 ≤ s.size) (hx : (s[0]).toNat ≠ 120) (h39 : (s[0]).toNat = 39) (hl : (s[s.size - 1]).toNat = 39) (u : List UInt8) (b : Bool) (hu : Txt.bytes (Tok.cut s.data.toList 1 (s.size - 1)) false = (u, b)) (hbf : b = true) (hm : Hid (Val.may ⟨2, 0, (bs u).data.toList⟩ = true)) :
    Calls Tryd.prog 26 #[.string s] w (RReadP (⟨2, 0, u⟩, 0) w) := by
  have b0 : decide ((s.size : Int) > 1000) = false := decide_eq_false (by omega)
  have hnum := fun W => rnum_any s W h
  rw [hq.out] at hnum
  subst hbf
  have hp : 0 < s.size := by omega
  have i1 : (s.size : Int) - 1 = ((s.size - 1 : Nat) : Int) := by omega
  have f1 : decide ((s.size : Int) > 0) = true := decide_eq_true (by omega)
  have f2 : decide ((s.size : Int) < 2) = false := decide_eq_false (by omega)
  have f3 : (((s[0]).toNat : Int) == 120) = false := by simp; omega
  have f4 : (((s[0]).toNat : Int) != 39) = false := by simp; omega
  have f5 : (((s[s.size - 1]).toNat : Int) != 39) = false := by simp; omega
  have hcut : (s.extract 1 (s.size - 1)).data.toList = Tok.cut s.data.toList 1 (s.size - 1) := by rw [Lib.extract_data]; rfl
  have hsz : (s.extract 1 (s.size - 1)).size ≤ 4294967296 := by rw [ByteArray.size_extract]; omega
  have hby := fun W => bytes_text (s.extract 1 (s.size - 1)) W hsz
  rw [hcut, hu] at hby
  clear hcut hu hsz hx h39 hl
  go_enter Tryd.func26, Tryd.ntmps26
  go_wp2_with (first
    | (go_at_call 59; refine (hnum _).mono ?_; rintro e w1 ⟨rfl, rfl⟩)
    | (go_at_call 60; refine (hby _).mono ?_; rintro e w2 ⟨rfl, hb2⟩; obtain ⟨c0, c1, c2, g0, g1, g2⟩ := cells3 hb2 (by simp) (heap_new _ _); have hz2 : w.heap.size < w2.heap.size := (by have := hb2.size; simp at this; omega); have hB2 : Below w.heap.size w w2 := ((Below.refl _ w).alloc (Nat.le_refl _) _).trans (hb2.mono (by simp)))
    | (go_at_call 31; refine (rmay_is 2 0 (bs u) _ hm).mono ?_; rintro e w3 ⟨rfl, hb3⟩; have hb23 := hb2.trans ((((Below.refl _ w2).alloc (Nat.le_refl _) _).trans (hb3.mono (by simp))).mono hb2.size); obtain ⟨c0, c1, c2, g0, g1, g2⟩ := cells3 hb23 (by simp) (heap_new _ _); obtain ⟨d0, d1, d2, _, _, _⟩ := cells3 hb3 (by simp) (heap_new _ _); have hz3 : w.heap.size < w3.heap.size := (by have := hb23.size; simp at this; omega); have hB3 : Below w.heap.size w w3 := ((Below.refl _ w).alloc (Nat.le_refl _) _).trans (hb23.mono (by simp))))
  refine bodyPost_ret (v := .tuple #[.agg #[.int .i64 2, .int .i64 0, .string (bs u)], .int .i64 0]) (by simp only [results, Tryd.results26]; go_simp) rfl ?_
  exact ⟨rfl, by repeat (first | exact hB3 | refine Below.alloc ?_ (by simp; omega) _ | refine Below.setCell ?_ (by simp) _)⟩

set_option maxHeartbeats 1000000 in
theorem rread_blobN (s : ByteArray) (w : World) (h : s.size ≤ 1000) (hn : (s.toList == [78, 85, 76, 76]) = false) (hq : Hid (Val.number s.data.toList = none)) (hz : 3 ≤ s.size) (hx : (s[0]).toNat = 120) (h39 : (s[1]).toNat = 39) (hl : (s[s.size - 1]).toNat = 39) (u : List UInt8) (b : Bool) (hu : Txt.bytes (Tok.cut s.data.toList 2 (s.size - 1)) true = (u, b)) (hbf : b = false) :
    Calls Tryd.prog 26 #[.string s] w (RReadP (Val.zero, 120) w) := by
  have b0 : decide ((s.size : Int) > 1000) = false := decide_eq_false (by omega)
  have hnum := fun W => rnum_any s W h
  rw [hq.out] at hnum
  subst hbf
  have hp : 0 < s.size := by omega
  have hp1 : 1 < s.size := by omega
  have i1 : (s.size : Int) - 1 = ((s.size - 1 : Nat) : Int) := by omega
  have f1 : decide ((s.size : Int) > 0) = true := decide_eq_true (by omega)
  have f2 : decide ((s.size : Int) < 3) = false := decide_eq_false (by omega)
  have f3 : (((s[0]).toNat : Int) == 120) = true := by simp; omega
  have f4 : (((s[1]).toNat : Int) != 39) = false := by simp; omega
  have f5 : (((s[s.size - 1]).toNat : Int) != 39) = false := by simp; omega
  have hcut : (s.extract 2 (s.size - 1)).data.toList = Tok.cut s.data.toList 2 (s.size - 1) := by rw [Lib.extract_data]; rfl
  have hsz : (s.extract 2 (s.size - 1)).size ≤ 4294967296 := by rw [ByteArray.size_extract]; omega
  have hby := fun W => bytes_blob (s.extract 2 (s.size - 1)) W hsz
  rw [hcut, hu] at hby
  clear hcut hu hsz hx h39 hl
  go_enter Tryd.func26, Tryd.ntmps26
  go_wp2_with (first
    | (go_at_call 59; refine (hnum _).mono ?_; rintro e w1 ⟨rfl, rfl⟩)
    | (go_at_call 60; refine (hby _).mono ?_; rintro e w2 ⟨rfl, hb2⟩; obtain ⟨c0, c1, c2, g0, g1, g2⟩ := cells3 hb2 (by simp) (heap_new _ _); have hz2 : w.heap.size < w2.heap.size := (by have := hb2.size; simp at this; omega); have hB2 : Below w.heap.size w w2 := ((Below.refl _ w).alloc (Nat.le_refl _) _).trans (hb2.mono (by simp))))
  refine bodyPost_ret (v := .tuple #[.agg #[.int .i64 0, .int .i64 0, .string ⟨#[]⟩], .int .i64 120]) (by simp only [results, Tryd.results26]; go_simp) rfl ?_
  exact ⟨rfl, by repeat (first | exact hB2 | refine Below.alloc ?_ (by simp; omega) _ | refine Below.setCell ?_ (by simp) _)⟩

set_option maxHeartbeats 1000000 in
theorem rread_blobfalse (s : ByteArray) (w : World) (h : s.size ≤ 1000) (hn : (s.toList == [78, 85, 76, 76]) = false) (hq : Hid (Val.number s.data.toList = none)) (hz : 3 ≤ s.size) (hx : (s[0]).toNat = 120) (h39 : (s[1]).toNat = 39) (hl : (s[s.size - 1]).toNat = 39) (u : List UInt8) (b : Bool) (hu : Txt.bytes (Tok.cut s.data.toList 2 (s.size - 1)) true = (u, b)) (hbf : b = true) (hm : Hid (Val.may ⟨3, 0, (bs u).data.toList⟩ = false)) :
    Calls Tryd.prog 26 #[.string s] w (RReadP (Val.zero, 120) w) := by
  have b0 : decide ((s.size : Int) > 1000) = false := decide_eq_false (by omega)
  have hnum := fun W => rnum_any s W h
  rw [hq.out] at hnum
  subst hbf
  have hp : 0 < s.size := by omega
  have hp1 : 1 < s.size := by omega
  have i1 : (s.size : Int) - 1 = ((s.size - 1 : Nat) : Int) := by omega
  have f1 : decide ((s.size : Int) > 0) = true := decide_eq_true (by omega)
  have f2 : decide ((s.size : Int) < 3) = false := decide_eq_false (by omega)
  have f3 : (((s[0]).toNat : Int) == 120) = true := by simp; omega
  have f4 : (((s[1]).toNat : Int) != 39) = false := by simp; omega
  have f5 : (((s[s.size - 1]).toNat : Int) != 39) = false := by simp; omega
  have hcut : (s.extract 2 (s.size - 1)).data.toList = Tok.cut s.data.toList 2 (s.size - 1) := by rw [Lib.extract_data]; rfl
  have hsz : (s.extract 2 (s.size - 1)).size ≤ 4294967296 := by rw [ByteArray.size_extract]; omega
  have hby := fun W => bytes_blob (s.extract 2 (s.size - 1)) W hsz
  rw [hcut, hu] at hby
  clear hcut hu hsz hx h39 hl
  go_enter Tryd.func26, Tryd.ntmps26
  go_wp2_with (first
    | (go_at_call 59; refine (hnum _).mono ?_; rintro e w1 ⟨rfl, rfl⟩)
    | (go_at_call 60; refine (hby _).mono ?_; rintro e w2 ⟨rfl, hb2⟩; obtain ⟨c0, c1, c2, g0, g1, g2⟩ := cells3 hb2 (by simp) (heap_new _ _); have hz2 : w.heap.size < w2.heap.size := (by have := hb2.size; simp at this; omega); have hB2 : Below w.heap.size w w2 := ((Below.refl _ w).alloc (Nat.le_refl _) _).trans (hb2.mono (by simp)))
    | (go_at_call 31; refine (rmay_is 3 0 (bs u) _ hm).mono ?_; rintro e w3 ⟨rfl, hb3⟩; have hb23 := hb2.trans ((((Below.refl _ w2).alloc (Nat.le_refl _) _).trans (hb3.mono (by simp))).mono hb2.size); obtain ⟨c0, c1, c2, g0, g1, g2⟩ := cells3 hb23 (by simp) (heap_new _ _); obtain ⟨d0, d1, d2, _, _, _⟩ := cells3 hb3 (by simp) (heap_new _ _); have hz3 : w.heap.size < w3.heap.size := (by have := hb23.size; simp at this; omega); have hB3 : Below w.heap.size w w3 := ((Below.refl _ w).alloc (Nat.le_refl _) _).trans (hb23.mono (by simp))))
  refine bodyPost_ret (v := .tuple #[.agg #[.int .i64 0, .int .i64 0, .string ⟨#[]⟩], .int .i64 120]) (by simp only [results, Tryd.results26]; go_simp) rfl ?_
  exact ⟨rfl, by repeat (first | exact hB3 | refine Below.alloc ?_ (by simp; omega) _ | refine Below.setCell ?_ (by simp) _)⟩

set_option maxHeartbeats 1000000 in
theorem rread_blobtrue (s : ByteArray) (w : World) (h : s.size ≤ 1000) (hn : (s.toList == [78, 85, 76, 76]) = false) (hq : Hid (Val.number s.data.toList = none)) (hz : 3 ≤ s.size) (hx : (s[0]).toNat = 120) (h39 : (s[1]).toNat = 39) (hl : (s[s.size - 1]).toNat = 39) (u : List UInt8) (b : Bool) (hu : Txt.bytes (Tok.cut s.data.toList 2 (s.size - 1)) true = (u, b)) (hbf : b = true) (hm : Hid (Val.may ⟨3, 0, (bs u).data.toList⟩ = true)) :
    Calls Tryd.prog 26 #[.string s] w (RReadP (⟨3, 0, u⟩, 0) w) := by
  have b0 : decide ((s.size : Int) > 1000) = false := decide_eq_false (by omega)
  have hnum := fun W => rnum_any s W h
  rw [hq.out] at hnum
  subst hbf
  have hp : 0 < s.size := by omega
  have hp1 : 1 < s.size := by omega
  have i1 : (s.size : Int) - 1 = ((s.size - 1 : Nat) : Int) := by omega
  have f1 : decide ((s.size : Int) > 0) = true := decide_eq_true (by omega)
  have f2 : decide ((s.size : Int) < 3) = false := decide_eq_false (by omega)
  have f3 : (((s[0]).toNat : Int) == 120) = true := by simp; omega
  have f4 : (((s[1]).toNat : Int) != 39) = false := by simp; omega
  have f5 : (((s[s.size - 1]).toNat : Int) != 39) = false := by simp; omega
  have hcut : (s.extract 2 (s.size - 1)).data.toList = Tok.cut s.data.toList 2 (s.size - 1) := by rw [Lib.extract_data]; rfl
  have hsz : (s.extract 2 (s.size - 1)).size ≤ 4294967296 := by rw [ByteArray.size_extract]; omega
  have hby := fun W => bytes_blob (s.extract 2 (s.size - 1)) W hsz
  rw [hcut, hu] at hby
  clear hcut hu hsz hx h39 hl
  go_enter Tryd.func26, Tryd.ntmps26
  go_wp2_with (first
    | (go_at_call 59; refine (hnum _).mono ?_; rintro e w1 ⟨rfl, rfl⟩)
    | (go_at_call 60; refine (hby _).mono ?_; rintro e w2 ⟨rfl, hb2⟩; obtain ⟨c0, c1, c2, g0, g1, g2⟩ := cells3 hb2 (by simp) (heap_new _ _); have hz2 : w.heap.size < w2.heap.size := (by have := hb2.size; simp at this; omega); have hB2 : Below w.heap.size w w2 := ((Below.refl _ w).alloc (Nat.le_refl _) _).trans (hb2.mono (by simp)))
    | (go_at_call 31; refine (rmay_is 3 0 (bs u) _ hm).mono ?_; rintro e w3 ⟨rfl, hb3⟩; have hb23 := hb2.trans ((((Below.refl _ w2).alloc (Nat.le_refl _) _).trans (hb3.mono (by simp))).mono hb2.size); obtain ⟨c0, c1, c2, g0, g1, g2⟩ := cells3 hb23 (by simp) (heap_new _ _); obtain ⟨d0, d1, d2, _, _, _⟩ := cells3 hb3 (by simp) (heap_new _ _); have hz3 : w.heap.size < w3.heap.size := (by have := hb23.size; simp at this; omega); have hB3 : Below w.heap.size w w3 := ((Below.refl _ w).alloc (Nat.le_refl _) _).trans (hb23.mono (by simp))))
  refine bodyPost_ret (v := .tuple #[.agg #[.int .i64 3, .int .i64 0, .string (bs u)], .int .i64 0]) (by simp only [results, Tryd.results26]; go_simp) rfl ?_
  exact ⟨rfl, by repeat (first | exact hB3 | refine Below.alloc ?_ (by simp; omega) _ | refine Below.setCell ?_ (by simp) _)⟩

theorem rread_any (s : ByteArray) (w : World) : Calls Tryd.prog 26 #[.string s] w (RReadP (Val.rread s.data.toList) w) := by
  have hlen : s.data.toList.length = s.size := rfl
  unfold Val.rread
  rw [hlen]
  by_cases h : 1000 < s.size
  · rw [if_pos h]; exact rread_long s w h
  · rw [if_neg h]
    have h1 : s.size ≤ 1000 := by omega
    by_cases hn : s.data.toList = [78, 85, 76, 76]
    · rw [if_pos hn]
      exact rread_null s w h1 (by rw [Lib.toList_data, hn]; rfl)
    · rw [if_neg hn]
      have hnB : (s.toList == [78, 85, 76, 76]) = false := by rw [Lib.toList_data]; exact beq_false_of_ne hn
      cases hq : Val.number s.data.toList with
      | some n => exact rread_num s w n h1 hnB (Lib.hid hq)
      | none =>
        simp only
        by_cases h0 : s.size = 0
        · have e : s.data.toList = [] := List.eq_nil_of_length_eq_zero h0
          rw [if_neg (by rw [e]; decide), if_pos (.inl (by omega))]
          exact rread_t0 s w h1 hnB (Lib.hid hq) h0
        · have hp : 0 < s.size := by omega
          rw [getD_at s 0 hp, getD_at s (s.size - 1) (by omega)]
          by_cases hx : (s[0]).toNat = 120
          · rw [if_pos hx]
            by_cases h3 : s.size < 3
            · rw [if_pos (.inl h3)]
              exact rread_b1 s w h1 hnB (Lib.hid hq) hp hx h3
            · have hz : 3 ≤ s.size := by omega
              rw [getD_at s 1 (by omega)]
              by_cases h39 : (s[1]).toNat = 39
              · by_cases hl : (s[s.size - 1]).toNat = 39
                · rw [if_neg (by rintro (a | a | a) <;> omega)]
                  obtain ⟨u, b, hu⟩ : ∃ u b, Txt.unhex (Tok.cut s.data.toList 2 (s.size - 1)) [] = (u, b) := ⟨_, _, rfl⟩
                  rw [hu]
                  cases b with
                  | false =>
                    rw [if_neg (by simp)]
                    exact rread_blobN s w h1 hnB (Lib.hid hq) hz hx h39 hl u false (by simpa [Txt.bytes] using hu) rfl
                  | true =>
                    cases hm : Val.may ⟨3, 0, u⟩ with
                    | false =>
                      rw [if_neg (by simp [hm])]
                      exact rread_blobfalse s w h1 hnB (Lib.hid hq) hz hx h39 hl u true (by simpa [Txt.bytes] using hu) rfl (Lib.hid hm)
                    | true =>
                      rw [if_pos (by simp [hm])]
                      exact rread_blobtrue s w h1 hnB (Lib.hid hq) hz hx h39 hl u true (by simpa [Txt.bytes] using hu) rfl (Lib.hid hm)
                · rw [if_pos (.inr (.inr hl))]
                  exact rread_b3 s w h1 hnB (Lib.hid hq) hz hx h39 hl
              · rw [if_pos (.inr (.inl h39))]
                exact rread_b2 s w h1 hnB (Lib.hid hq) hz hx h39
          · rw [if_neg hx]
            by_cases h2 : s.size < 2
            · rw [if_pos (.inl h2)]
              exact rread_t1 s w h1 hnB (Lib.hid hq) (by omega) hx
            · have hz : 2 ≤ s.size := by omega
              by_cases h39 : (s[0]).toNat = 39
              · by_cases hl : (s[s.size - 1]).toNat = 39
                · rw [if_neg (by rintro (a | a | a) <;> omega)]
                  obtain ⟨u, b, hu⟩ : ∃ u b, Txt.unq (Tok.cut s.data.toList 1 (s.size - 1)) [] = (u, b) := ⟨_, _, rfl⟩
                  rw [hu]
                  cases b with
                  | false =>
                    rw [if_neg (by simp)]
                    exact rread_textN s w h1 hnB (Lib.hid hq) hz hx h39 hl u false (by simpa [Txt.bytes] using hu) rfl
                  | true =>
                    cases hm : Val.may ⟨2, 0, u⟩ with
                    | false =>
                      rw [if_neg (by simp [hm])]
                      exact rread_textfalse s w h1 hnB (Lib.hid hq) hz hx h39 hl u true (by simpa [Txt.bytes] using hu) rfl (Lib.hid hm)
                    | true =>
                      rw [if_pos (by simp [hm])]
                      exact rread_texttrue s w h1 hnB (Lib.hid hq) hz hx h39 hl u true (by simpa [Txt.bytes] using hu) rfl (Lib.hid hm)
                · rw [if_pos (.inr (.inr hl))]
                  exact rread_t3 s w h1 hnB (Lib.hid hq) hz h39 hl
              · rw [if_pos (.inr (.inl h39))]
                exact rread_t2 s w h1 hnB (Lib.hid hq) hz hx h39

end Go.Proofs.YtiiaamkmnbegdaaDoor
