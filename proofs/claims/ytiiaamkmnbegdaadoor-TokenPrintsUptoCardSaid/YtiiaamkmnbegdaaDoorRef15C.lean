/- Walks: End of the reference of layer 15. -/
import Derived.Test.YtiiaamkmnbegdaaDoorRef15B
namespace Go.Proofs.YtiiaamkmnbegdaaDoor
set_option maxRecDepth 100000
set_option linter.unusedVariables false
set_option linter.unusedSimpArgs false
open Go.RowKit

theorem rquote_is {n : Int} (s : ByteArray) (k : Nat) (w : World) (he : Hid (n = Tok.fin (Tok.quoted s.data.toList (k + 1) []).2)) (hs : s.size ≤ 4294967296) (h1 : k < s.size) :
    Calls Tryd.prog 110 #[.string s, .int .i64 (k : Int)] w fun e w' => e = .returned (.int .i64 n) ∧ w = w' :=
  (rquote_any s k w hs (by omega) (by omega)).mono fun _ _ ⟨h, h'⟩ => ⟨by rw [h, Int.toNat_natCast, ← he.out], h'⟩
theorem rblob_is {n : Int} (s : ByteArray) (k : Nat) (w : World) (he : Hid (n = Tok.fin (Tok.blob s.data.toList (k + 1)).2)) (hs : s.size ≤ 4294967296) (h1 : k + 1 < s.size) :
    Calls Tryd.prog 111 #[.string s, .int .i64 ((k : Int) + 1)] w fun e w' => e = .returned (.int .i64 n) ∧ w = w' :=
  (rblob_any s ((k : Int) + 1) w hs (by omega) (by omega)).mono fun _ _ ⟨h, h'⟩ => ⟨by rw [h, show ((k : Int) + 1).toNat = k + 1 by omega, ← he.out], h'⟩

theorem end_eq {p : Int × Nat} {a : Int} {k : Nat} {x y : Int} (h : p = (a, k)) (hx : x = a) (hy : y = (k : Int)) : Ending.returned (.tuple #[.int .i64 x, .int .i64 y]) = .returned (.tuple #[.int .i64 p.1, .int .i64 (p.2 : Int)]) := by rw [h, hx, hy]

theorem rend_letter_a (s : ByteArray) (k : Nat) (w : World) (r : Int × Nat) (n : Nat) (hs : s.size ≤ 4294967296) (hk : k < s.size) (hc : s[k].toNat ≠ 39) (hx : s[k].toNat = 120) (h2 : k + 1 < s.size) (hd : s[k + 1].toNat ≠ 39) (hl : Hid (Tok.letter s[k] = true))
    (hn : Hid (Tok.runEnd Tok.word s.data.toList (k + 1) = n)) (hst : Hid (r = ((n : Int), 1))) :
    Calls Tryd.prog 80 #[.string s, .int .i64 (k : Int)] w fun e w' => e = .returned (.tuple #[.int .i64 r.1, .int .i64 (r.2 : Int)]) ∧ w = w' := by
  have hcB : ((s[k].toNat : Int) == 39) = false := by simp; omega
  have x1 : ((s[k].toNat : Int) == 120) = true := by simp; omega
  have h2B : decide ((k : Int) + 1 < (s.size : Int)) = true := by simp; omega
  have hdB : ((s[k + 1].toNat : Int) == 39) = false := by simp; omega
  clear hc hx
  clear hd
  go_enter Tryd.func80, Tryd.ntmps80
  go_wp2_with (go_at_call 78; refine (rletter_any _ _).mono ?_; rintro e w' ⟨rfl, rfl⟩; rw [hl.out])
  clear hcB x1 h2B hdB
  go_loop [8] (fun i => ∃ j : Nat, j ≤ s.size ∧ i = .int .i64 (j : Int) ∧ Hid (Tok.runEnd Tok.word s.data.toList j = n)) (fun i => s.size - (intOf i).toNat)
  case atStart => exact ⟨k + 1, by omega, by go_num, hn⟩
  case round =>
    obtain ⟨j, hj, rfl, hq⟩ := hrel
    by_cases hlt : j < s.size
    · have hlt' : j < s.data.toList.length := hlt
      go_wp2_with (first
        | (go_at_call 78; refine (rletter_any _ _).mono ?_; rintro e w' ⟨rfl, rfl⟩)
        | (go_at_call 79; refine (rdigit15_any _ _).mono ?_; rintro e w' ⟨rfl, rfl⟩))
      all_goals first
        | (have hp : Tok.word s[j] = true := by (simp_all [Tok.word]; done)
           go_round
           case rel => exact ⟨j + 1, by omega, by go_num, (Tok.runEnd_step hlt' hp).trans hq⟩
           case measure => simp [intOf]; omega)
        | (have hp : Tok.word s[j] = false := by (simp_all [Tok.word]; done)
           have hst2 := hst.out.trans (by rw [← hq.out, Tok.runEnd_stop hlt' hp])
           replace hst2 := Lib.hid hst2
           go_ret2
           exact ⟨end_eq hst2.out rfl rfl, rfl⟩)
    · have hst2 := hst.out.trans (by rw [← hq.out, Tok.runEnd_end (Nat.le_of_not_lt hlt)])
      replace hst2 := Lib.hid hst2
      go_wp2
      go_ret2
      exact ⟨end_eq hst2.out rfl rfl, rfl⟩

theorem rend_letter_b (s : ByteArray) (k : Nat) (w : World) (r : Int × Nat) (n : Nat) (hs : s.size ≤ 4294967296) (hk : k < s.size) (hc : s[k].toNat ≠ 39) (hx : s[k].toNat = 88) (h2 : k + 1 < s.size) (hd : s[k + 1].toNat ≠ 39) (hl : Hid (Tok.letter s[k] = true))
    (hn : Hid (Tok.runEnd Tok.word s.data.toList (k + 1) = n)) (hst : Hid (r = ((n : Int), 1))) :
    Calls Tryd.prog 80 #[.string s, .int .i64 (k : Int)] w fun e w' => e = .returned (.tuple #[.int .i64 r.1, .int .i64 (r.2 : Int)]) ∧ w = w' := by
  have hcB : ((s[k].toNat : Int) == 39) = false := by simp; omega
  have x1 : ((s[k].toNat : Int) == 120) = false := by simp; omega
  have x2 : ((s[k].toNat : Int) == 88) = true := by simp; omega
  have h2B : decide ((k : Int) + 1 < (s.size : Int)) = true := by simp; omega
  have hdB : ((s[k + 1].toNat : Int) == 39) = false := by simp; omega
  clear hc hx
  clear hd
  go_enter Tryd.func80, Tryd.ntmps80
  go_wp2_with (go_at_call 78; refine (rletter_any _ _).mono ?_; rintro e w' ⟨rfl, rfl⟩; rw [hl.out])
  clear hcB x1 h2B x2 hdB
  go_loop [8] (fun i => ∃ j : Nat, j ≤ s.size ∧ i = .int .i64 (j : Int) ∧ Hid (Tok.runEnd Tok.word s.data.toList j = n)) (fun i => s.size - (intOf i).toNat)
  case atStart => exact ⟨k + 1, by omega, by go_num, hn⟩
  case round =>
    obtain ⟨j, hj, rfl, hq⟩ := hrel
    by_cases hlt : j < s.size
    · have hlt' : j < s.data.toList.length := hlt
      go_wp2_with (first
        | (go_at_call 78; refine (rletter_any _ _).mono ?_; rintro e w' ⟨rfl, rfl⟩)
        | (go_at_call 79; refine (rdigit15_any _ _).mono ?_; rintro e w' ⟨rfl, rfl⟩))
      all_goals first
        | (have hp : Tok.word s[j] = true := by (simp_all [Tok.word]; done)
           go_round
           case rel => exact ⟨j + 1, by omega, by go_num, (Tok.runEnd_step hlt' hp).trans hq⟩
           case measure => simp [intOf]; omega)
        | (have hp : Tok.word s[j] = false := by (simp_all [Tok.word]; done)
           have hst2 := hst.out.trans (by rw [← hq.out, Tok.runEnd_stop hlt' hp])
           replace hst2 := Lib.hid hst2
           go_ret2
           exact ⟨end_eq hst2.out rfl rfl, rfl⟩)
    · have hst2 := hst.out.trans (by rw [← hq.out, Tok.runEnd_end (Nat.le_of_not_lt hlt)])
      replace hst2 := Lib.hid hst2
      go_wp2
      go_ret2
      exact ⟨end_eq hst2.out rfl rfl, rfl⟩

theorem rend_letter_c (s : ByteArray) (k : Nat) (w : World) (r : Int × Nat) (n : Nat) (hs : s.size ≤ 4294967296) (hk : k < s.size) (hc : s[k].toNat ≠ 39) (hx : s[k].toNat = 120) (h2 : ¬ k + 1 < s.size) (hl : Hid (Tok.letter s[k] = true))
    (hn : Hid (Tok.runEnd Tok.word s.data.toList (k + 1) = n)) (hst : Hid (r = ((n : Int), 1))) :
    Calls Tryd.prog 80 #[.string s, .int .i64 (k : Int)] w fun e w' => e = .returned (.tuple #[.int .i64 r.1, .int .i64 (r.2 : Int)]) ∧ w = w' := by
  have hcB : ((s[k].toNat : Int) == 39) = false := by simp; omega
  have x1 : ((s[k].toNat : Int) == 120) = true := by simp; omega
  have h2B : decide ((k : Int) + 1 < (s.size : Int)) = false := by simp; omega
  clear hc hx
  go_enter Tryd.func80, Tryd.ntmps80
  go_wp2_with (go_at_call 78; refine (rletter_any _ _).mono ?_; rintro e w' ⟨rfl, rfl⟩; rw [hl.out])
  clear hcB x1 h2B
  go_loop [8] (fun i => ∃ j : Nat, j ≤ s.size ∧ i = .int .i64 (j : Int) ∧ Hid (Tok.runEnd Tok.word s.data.toList j = n)) (fun i => s.size - (intOf i).toNat)
  case atStart => exact ⟨k + 1, by omega, by go_num, hn⟩
  case round =>
    obtain ⟨j, hj, rfl, hq⟩ := hrel
    by_cases hlt : j < s.size
    · have hlt' : j < s.data.toList.length := hlt
      go_wp2_with (first
        | (go_at_call 78; refine (rletter_any _ _).mono ?_; rintro e w' ⟨rfl, rfl⟩)
        | (go_at_call 79; refine (rdigit15_any _ _).mono ?_; rintro e w' ⟨rfl, rfl⟩))
      all_goals first
        | (have hp : Tok.word s[j] = true := by (simp_all [Tok.word]; done)
           go_round
           case rel => exact ⟨j + 1, by omega, by go_num, (Tok.runEnd_step hlt' hp).trans hq⟩
           case measure => simp [intOf]; omega)
        | (have hp : Tok.word s[j] = false := by (simp_all [Tok.word]; done)
           have hst2 := hst.out.trans (by rw [← hq.out, Tok.runEnd_stop hlt' hp])
           replace hst2 := Lib.hid hst2
           go_ret2
           exact ⟨end_eq hst2.out rfl rfl, rfl⟩)
    · have hst2 := hst.out.trans (by rw [← hq.out, Tok.runEnd_end (Nat.le_of_not_lt hlt)])
      replace hst2 := Lib.hid hst2
      go_wp2
      go_ret2
      exact ⟨end_eq hst2.out rfl rfl, rfl⟩

theorem rend_letter_d (s : ByteArray) (k : Nat) (w : World) (r : Int × Nat) (n : Nat) (hs : s.size ≤ 4294967296) (hk : k < s.size) (hc : s[k].toNat ≠ 39) (hx : s[k].toNat = 88) (h2 : ¬ k + 1 < s.size) (hl : Hid (Tok.letter s[k] = true))
    (hn : Hid (Tok.runEnd Tok.word s.data.toList (k + 1) = n)) (hst : Hid (r = ((n : Int), 1))) :
    Calls Tryd.prog 80 #[.string s, .int .i64 (k : Int)] w fun e w' => e = .returned (.tuple #[.int .i64 r.1, .int .i64 (r.2 : Int)]) ∧ w = w' := by
  have hcB : ((s[k].toNat : Int) == 39) = false := by simp; omega
  have x1 : ((s[k].toNat : Int) == 120) = false := by simp; omega
  have x2 : ((s[k].toNat : Int) == 88) = true := by simp; omega
  have h2B : decide ((k : Int) + 1 < (s.size : Int)) = false := by simp; omega
  clear hc hx
  go_enter Tryd.func80, Tryd.ntmps80
  go_wp2_with (go_at_call 78; refine (rletter_any _ _).mono ?_; rintro e w' ⟨rfl, rfl⟩; rw [hl.out])
  clear hcB x1 h2B x2
  go_loop [8] (fun i => ∃ j : Nat, j ≤ s.size ∧ i = .int .i64 (j : Int) ∧ Hid (Tok.runEnd Tok.word s.data.toList j = n)) (fun i => s.size - (intOf i).toNat)
  case atStart => exact ⟨k + 1, by omega, by go_num, hn⟩
  case round =>
    obtain ⟨j, hj, rfl, hq⟩ := hrel
    by_cases hlt : j < s.size
    · have hlt' : j < s.data.toList.length := hlt
      go_wp2_with (first
        | (go_at_call 78; refine (rletter_any _ _).mono ?_; rintro e w' ⟨rfl, rfl⟩)
        | (go_at_call 79; refine (rdigit15_any _ _).mono ?_; rintro e w' ⟨rfl, rfl⟩))
      all_goals first
        | (have hp : Tok.word s[j] = true := by (simp_all [Tok.word]; done)
           go_round
           case rel => exact ⟨j + 1, by omega, by go_num, (Tok.runEnd_step hlt' hp).trans hq⟩
           case measure => simp [intOf]; omega)
        | (have hp : Tok.word s[j] = false := by (simp_all [Tok.word]; done)
           have hst2 := hst.out.trans (by rw [← hq.out, Tok.runEnd_stop hlt' hp])
           replace hst2 := Lib.hid hst2
           go_ret2
           exact ⟨end_eq hst2.out rfl rfl, rfl⟩)
    · have hst2 := hst.out.trans (by rw [← hq.out, Tok.runEnd_end (Nat.le_of_not_lt hlt)])
      replace hst2 := Lib.hid hst2
      go_wp2
      go_ret2
      exact ⟨end_eq hst2.out rfl rfl, rfl⟩

theorem rend_letter_e (s : ByteArray) (k : Nat) (w : World) (r : Int × Nat) (n : Nat) (hs : s.size ≤ 4294967296) (hk : k < s.size) (hc : s[k].toNat ≠ 39) (hx : s[k].toNat ≠ 120 ∧ s[k].toNat ≠ 88) (h2 : k + 1 < s.size) (hl : Hid (Tok.letter s[k] = true))
    (hn : Hid (Tok.runEnd Tok.word s.data.toList (k + 1) = n)) (hst : Hid (r = ((n : Int), 1))) :
    Calls Tryd.prog 80 #[.string s, .int .i64 (k : Int)] w fun e w' => e = .returned (.tuple #[.int .i64 r.1, .int .i64 (r.2 : Int)]) ∧ w = w' := by
  have hcB : ((s[k].toNat : Int) == 39) = false := by simp; omega
  have x1 : ((s[k].toNat : Int) == 120) = false := by simp; omega
  have x2 : ((s[k].toNat : Int) == 88) = false := by simp; omega
  have h2B : decide ((k : Int) + 1 < (s.size : Int)) = true := by simp; omega
  clear hc hx
  go_enter Tryd.func80, Tryd.ntmps80
  go_wp2_with (go_at_call 78; refine (rletter_any _ _).mono ?_; rintro e w' ⟨rfl, rfl⟩; rw [hl.out])
  clear hcB x1 h2B x2
  go_loop [8] (fun i => ∃ j : Nat, j ≤ s.size ∧ i = .int .i64 (j : Int) ∧ Hid (Tok.runEnd Tok.word s.data.toList j = n)) (fun i => s.size - (intOf i).toNat)
  case atStart => exact ⟨k + 1, by omega, by go_num, hn⟩
  case round =>
    obtain ⟨j, hj, rfl, hq⟩ := hrel
    by_cases hlt : j < s.size
    · have hlt' : j < s.data.toList.length := hlt
      go_wp2_with (first
        | (go_at_call 78; refine (rletter_any _ _).mono ?_; rintro e w' ⟨rfl, rfl⟩)
        | (go_at_call 79; refine (rdigit15_any _ _).mono ?_; rintro e w' ⟨rfl, rfl⟩))
      all_goals first
        | (have hp : Tok.word s[j] = true := by (simp_all [Tok.word]; done)
           go_round
           case rel => exact ⟨j + 1, by omega, by go_num, (Tok.runEnd_step hlt' hp).trans hq⟩
           case measure => simp [intOf]; omega)
        | (have hp : Tok.word s[j] = false := by (simp_all [Tok.word]; done)
           have hst2 := hst.out.trans (by rw [← hq.out, Tok.runEnd_stop hlt' hp])
           replace hst2 := Lib.hid hst2
           go_ret2
           exact ⟨end_eq hst2.out rfl rfl, rfl⟩)
    · have hst2 := hst.out.trans (by rw [← hq.out, Tok.runEnd_end (Nat.le_of_not_lt hlt)])
      replace hst2 := Lib.hid hst2
      go_wp2
      go_ret2
      exact ⟨end_eq hst2.out rfl rfl, rfl⟩

theorem rend_letter_f (s : ByteArray) (k : Nat) (w : World) (r : Int × Nat) (n : Nat) (hs : s.size ≤ 4294967296) (hk : k < s.size) (hc : s[k].toNat ≠ 39) (hx : s[k].toNat ≠ 120 ∧ s[k].toNat ≠ 88) (h2 : ¬ k + 1 < s.size) (hl : Hid (Tok.letter s[k] = true))
    (hn : Hid (Tok.runEnd Tok.word s.data.toList (k + 1) = n)) (hst : Hid (r = ((n : Int), 1))) :
    Calls Tryd.prog 80 #[.string s, .int .i64 (k : Int)] w fun e w' => e = .returned (.tuple #[.int .i64 r.1, .int .i64 (r.2 : Int)]) ∧ w = w' := by
  have hcB : ((s[k].toNat : Int) == 39) = false := by simp; omega
  have x1 : ((s[k].toNat : Int) == 120) = false := by simp; omega
  have x2 : ((s[k].toNat : Int) == 88) = false := by simp; omega
  have h2B : decide ((k : Int) + 1 < (s.size : Int)) = false := by simp; omega
  clear hc hx
  go_enter Tryd.func80, Tryd.ntmps80
  go_wp2_with (go_at_call 78; refine (rletter_any _ _).mono ?_; rintro e w' ⟨rfl, rfl⟩; rw [hl.out])
  clear hcB x1 h2B x2
  go_loop [8] (fun i => ∃ j : Nat, j ≤ s.size ∧ i = .int .i64 (j : Int) ∧ Hid (Tok.runEnd Tok.word s.data.toList j = n)) (fun i => s.size - (intOf i).toNat)
  case atStart => exact ⟨k + 1, by omega, by go_num, hn⟩
  case round =>
    obtain ⟨j, hj, rfl, hq⟩ := hrel
    by_cases hlt : j < s.size
    · have hlt' : j < s.data.toList.length := hlt
      go_wp2_with (first
        | (go_at_call 78; refine (rletter_any _ _).mono ?_; rintro e w' ⟨rfl, rfl⟩)
        | (go_at_call 79; refine (rdigit15_any _ _).mono ?_; rintro e w' ⟨rfl, rfl⟩))
      all_goals first
        | (have hp : Tok.word s[j] = true := by (simp_all [Tok.word]; done)
           go_round
           case rel => exact ⟨j + 1, by omega, by go_num, (Tok.runEnd_step hlt' hp).trans hq⟩
           case measure => simp [intOf]; omega)
        | (have hp : Tok.word s[j] = false := by (simp_all [Tok.word]; done)
           have hst2 := hst.out.trans (by rw [← hq.out, Tok.runEnd_stop hlt' hp])
           replace hst2 := Lib.hid hst2
           go_ret2
           exact ⟨end_eq hst2.out rfl rfl, rfl⟩)
    · have hst2 := hst.out.trans (by rw [← hq.out, Tok.runEnd_end (Nat.le_of_not_lt hlt)])
      replace hst2 := Lib.hid hst2
      go_wp2
      go_ret2
      exact ⟨end_eq hst2.out rfl rfl, rfl⟩

theorem rend_digit_e (s : ByteArray) (k : Nat) (w : World) (r : Int × Nat) (n : Nat) (hs : s.size ≤ 4294967296) (hk : k < s.size) (hc : s[k].toNat ≠ 39) (hx : s[k].toNat ≠ 120 ∧ s[k].toNat ≠ 88) (h2 : k + 1 < s.size) (h63 : s[k].toNat ≠ 63) (hl : Hid (Tok.letter s[k] = false)) (hdg : Hid (Tok.digit s[k] = true))
    (hn : Hid (Tok.runEnd Tok.digit s.data.toList (k + 1) = n)) (hst : Hid (r = ((n : Int), 2))) :
    Calls Tryd.prog 80 #[.string s, .int .i64 (k : Int)] w fun e w' => e = .returned (.tuple #[.int .i64 r.1, .int .i64 (r.2 : Int)]) ∧ w = w' := by
  have hcB : ((s[k].toNat : Int) == 39) = false := by simp; omega
  have x1 : ((s[k].toNat : Int) == 120) = false := by simp; omega
  have x2 : ((s[k].toNat : Int) == 88) = false := by simp; omega
  have h2B : decide ((k : Int) + 1 < (s.size : Int)) = true := by simp; omega
  have hmB : ((s[k].toNat : Int) == 63) = false := by simp; omega
  clear hc hx h63
  go_enter Tryd.func80, Tryd.ntmps80
  go_wp2_with (first | (go_at_call 78; refine (rletter_any _ _).mono ?_; rintro e w' ⟨rfl, rfl⟩; rw [hl.out]) | (go_at_call 79; refine (rdigit15_any _ _).mono ?_; rintro e w' ⟨rfl, rfl⟩; rw [hdg.out]))
  clear hcB x1 h2B x2
  go_loop [8] (fun i => ∃ j : Nat, j ≤ s.size ∧ i = .int .i64 (j : Int) ∧ Hid (Tok.runEnd Tok.digit s.data.toList j = n)) (fun i => s.size - (intOf i).toNat)
  case atStart => exact ⟨k + 1, by omega, by go_num, hn⟩
  case round =>
    obtain ⟨j, hj, rfl, hq⟩ := hrel
    by_cases hlt : j < s.size
    · have hlt' : j < s.data.toList.length := hlt
      go_wp2_with (first
        | (go_at_call 78; refine (rletter_any _ _).mono ?_; rintro e w' ⟨rfl, rfl⟩)
        | (go_at_call 79; refine (rdigit15_any _ _).mono ?_; rintro e w' ⟨rfl, rfl⟩))
      all_goals first
        | (have hp : Tok.digit s[j] = true := by (simp_all [Tok.word]; done)
           go_round
           case rel => exact ⟨j + 1, by omega, by go_num, (Tok.runEnd_step hlt' hp).trans hq⟩
           case measure => simp [intOf]; omega)
        | (have hp : Tok.digit s[j] = false := by (simp_all [Tok.word]; done)
           have hst2 := hst.out.trans (by rw [← hq.out, Tok.runEnd_stop hlt' hp])
           replace hst2 := Lib.hid hst2
           go_ret2
           exact ⟨end_eq hst2.out rfl rfl, rfl⟩)
    · have hst2 := hst.out.trans (by rw [← hq.out, Tok.runEnd_end (Nat.le_of_not_lt hlt)])
      replace hst2 := Lib.hid hst2
      go_wp2
      go_ret2
      exact ⟨end_eq hst2.out rfl rfl, rfl⟩

theorem rend_digit_f (s : ByteArray) (k : Nat) (w : World) (r : Int × Nat) (n : Nat) (hs : s.size ≤ 4294967296) (hk : k < s.size) (hc : s[k].toNat ≠ 39) (hx : s[k].toNat ≠ 120 ∧ s[k].toNat ≠ 88) (h2 : ¬ k + 1 < s.size) (h63 : s[k].toNat ≠ 63) (hl : Hid (Tok.letter s[k] = false)) (hdg : Hid (Tok.digit s[k] = true))
    (hn : Hid (Tok.runEnd Tok.digit s.data.toList (k + 1) = n)) (hst : Hid (r = ((n : Int), 2))) :
    Calls Tryd.prog 80 #[.string s, .int .i64 (k : Int)] w fun e w' => e = .returned (.tuple #[.int .i64 r.1, .int .i64 (r.2 : Int)]) ∧ w = w' := by
  have hcB : ((s[k].toNat : Int) == 39) = false := by simp; omega
  have x1 : ((s[k].toNat : Int) == 120) = false := by simp; omega
  have x2 : ((s[k].toNat : Int) == 88) = false := by simp; omega
  have h2B : decide ((k : Int) + 1 < (s.size : Int)) = false := by simp; omega
  have hmB : ((s[k].toNat : Int) == 63) = false := by simp; omega
  clear hc hx h63
  go_enter Tryd.func80, Tryd.ntmps80
  go_wp2_with (first | (go_at_call 78; refine (rletter_any _ _).mono ?_; rintro e w' ⟨rfl, rfl⟩; rw [hl.out]) | (go_at_call 79; refine (rdigit15_any _ _).mono ?_; rintro e w' ⟨rfl, rfl⟩; rw [hdg.out]))
  clear hcB x1 h2B x2
  go_loop [8] (fun i => ∃ j : Nat, j ≤ s.size ∧ i = .int .i64 (j : Int) ∧ Hid (Tok.runEnd Tok.digit s.data.toList j = n)) (fun i => s.size - (intOf i).toNat)
  case atStart => exact ⟨k + 1, by omega, by go_num, hn⟩
  case round =>
    obtain ⟨j, hj, rfl, hq⟩ := hrel
    by_cases hlt : j < s.size
    · have hlt' : j < s.data.toList.length := hlt
      go_wp2_with (first
        | (go_at_call 78; refine (rletter_any _ _).mono ?_; rintro e w' ⟨rfl, rfl⟩)
        | (go_at_call 79; refine (rdigit15_any _ _).mono ?_; rintro e w' ⟨rfl, rfl⟩))
      all_goals first
        | (have hp : Tok.digit s[j] = true := by (simp_all [Tok.word]; done)
           go_round
           case rel => exact ⟨j + 1, by omega, by go_num, (Tok.runEnd_step hlt' hp).trans hq⟩
           case measure => simp [intOf]; omega)
        | (have hp : Tok.digit s[j] = false := by (simp_all [Tok.word]; done)
           have hst2 := hst.out.trans (by rw [← hq.out, Tok.runEnd_stop hlt' hp])
           replace hst2 := Lib.hid hst2
           go_ret2
           exact ⟨end_eq hst2.out rfl rfl, rfl⟩)
    · have hst2 := hst.out.trans (by rw [← hq.out, Tok.runEnd_end (Nat.le_of_not_lt hlt)])
      replace hst2 := Lib.hid hst2
      go_wp2
      go_ret2
      exact ⟨end_eq hst2.out rfl rfl, rfl⟩

theorem rend_mark_e (s : ByteArray) (k : Nat) (w : World) (r : Int × Nat) (n : Nat) (hs : s.size ≤ 4294967296) (hk : k < s.size) (hc : s[k].toNat ≠ 39) (hx : s[k].toNat ≠ 120 ∧ s[k].toNat ≠ 88) (h2 : k + 1 < s.size) (h63 : s[k].toNat = 63) (hl : Hid (Tok.letter s[k] = false)) (hdg : Hid (Tok.digit s[k] = false))
    (hn : Hid (Tok.runEnd Tok.digit s.data.toList (k + 1) = n)) (hst : Hid (r = ((n : Int), 5))) :
    Calls Tryd.prog 80 #[.string s, .int .i64 (k : Int)] w fun e w' => e = .returned (.tuple #[.int .i64 r.1, .int .i64 (r.2 : Int)]) ∧ w = w' := by
  have hcB : ((s[k].toNat : Int) == 39) = false := by simp; omega
  have x1 : ((s[k].toNat : Int) == 120) = false := by simp; omega
  have x2 : ((s[k].toNat : Int) == 88) = false := by simp; omega
  have h2B : decide ((k : Int) + 1 < (s.size : Int)) = true := by simp; omega
  have hmB : ((s[k].toNat : Int) == 63) = true := by simp; omega
  clear hc hx h63
  go_enter Tryd.func80, Tryd.ntmps80
  go_wp2_with (first | (go_at_call 78; refine (rletter_any _ _).mono ?_; rintro e w' ⟨rfl, rfl⟩; rw [hl.out]) | (go_at_call 79; refine (rdigit15_any _ _).mono ?_; rintro e w' ⟨rfl, rfl⟩; rw [hdg.out]))
  clear hcB x1 h2B x2
  go_loop [8] (fun i => ∃ j : Nat, j ≤ s.size ∧ i = .int .i64 (j : Int) ∧ Hid (Tok.runEnd Tok.digit s.data.toList j = n)) (fun i => s.size - (intOf i).toNat)
  case atStart => exact ⟨k + 1, by omega, by go_num, hn⟩
  case round =>
    obtain ⟨j, hj, rfl, hq⟩ := hrel
    by_cases hlt : j < s.size
    · have hlt' : j < s.data.toList.length := hlt
      go_wp2_with (first
        | (go_at_call 78; refine (rletter_any _ _).mono ?_; rintro e w' ⟨rfl, rfl⟩)
        | (go_at_call 79; refine (rdigit15_any _ _).mono ?_; rintro e w' ⟨rfl, rfl⟩))
      all_goals first
        | (have hp : Tok.digit s[j] = true := by (simp_all [Tok.word]; done)
           go_round
           case rel => exact ⟨j + 1, by omega, by go_num, (Tok.runEnd_step hlt' hp).trans hq⟩
           case measure => simp [intOf]; omega)
        | (have hp : Tok.digit s[j] = false := by (simp_all [Tok.word]; done)
           have hst2 := hst.out.trans (by rw [← hq.out, Tok.runEnd_stop hlt' hp])
           replace hst2 := Lib.hid hst2
           go_ret2
           exact ⟨end_eq hst2.out rfl rfl, rfl⟩)
    · have hst2 := hst.out.trans (by rw [← hq.out, Tok.runEnd_end (Nat.le_of_not_lt hlt)])
      replace hst2 := Lib.hid hst2
      go_wp2
      go_ret2
      exact ⟨end_eq hst2.out rfl rfl, rfl⟩

theorem rend_mark_f (s : ByteArray) (k : Nat) (w : World) (r : Int × Nat) (n : Nat) (hs : s.size ≤ 4294967296) (hk : k < s.size) (hc : s[k].toNat ≠ 39) (hx : s[k].toNat ≠ 120 ∧ s[k].toNat ≠ 88) (h2 : ¬ k + 1 < s.size) (h63 : s[k].toNat = 63) (hl : Hid (Tok.letter s[k] = false)) (hdg : Hid (Tok.digit s[k] = false))
    (hn : Hid (Tok.runEnd Tok.digit s.data.toList (k + 1) = n)) (hst : Hid (r = ((n : Int), 5))) :
    Calls Tryd.prog 80 #[.string s, .int .i64 (k : Int)] w fun e w' => e = .returned (.tuple #[.int .i64 r.1, .int .i64 (r.2 : Int)]) ∧ w = w' := by
  have hcB : ((s[k].toNat : Int) == 39) = false := by simp; omega
  have x1 : ((s[k].toNat : Int) == 120) = false := by simp; omega
  have x2 : ((s[k].toNat : Int) == 88) = false := by simp; omega
  have h2B : decide ((k : Int) + 1 < (s.size : Int)) = false := by simp; omega
  have hmB : ((s[k].toNat : Int) == 63) = true := by simp; omega
  clear hc hx h63
  go_enter Tryd.func80, Tryd.ntmps80
  go_wp2_with (first | (go_at_call 78; refine (rletter_any _ _).mono ?_; rintro e w' ⟨rfl, rfl⟩; rw [hl.out]) | (go_at_call 79; refine (rdigit15_any _ _).mono ?_; rintro e w' ⟨rfl, rfl⟩; rw [hdg.out]))
  clear hcB x1 h2B x2
  go_loop [8] (fun i => ∃ j : Nat, j ≤ s.size ∧ i = .int .i64 (j : Int) ∧ Hid (Tok.runEnd Tok.digit s.data.toList j = n)) (fun i => s.size - (intOf i).toNat)
  case atStart => exact ⟨k + 1, by omega, by go_num, hn⟩
  case round =>
    obtain ⟨j, hj, rfl, hq⟩ := hrel
    by_cases hlt : j < s.size
    · have hlt' : j < s.data.toList.length := hlt
      go_wp2_with (first
        | (go_at_call 78; refine (rletter_any _ _).mono ?_; rintro e w' ⟨rfl, rfl⟩)
        | (go_at_call 79; refine (rdigit15_any _ _).mono ?_; rintro e w' ⟨rfl, rfl⟩))
      all_goals first
        | (have hp : Tok.digit s[j] = true := by (simp_all [Tok.word]; done)
           go_round
           case rel => exact ⟨j + 1, by omega, by go_num, (Tok.runEnd_step hlt' hp).trans hq⟩
           case measure => simp [intOf]; omega)
        | (have hp : Tok.digit s[j] = false := by (simp_all [Tok.word]; done)
           have hst2 := hst.out.trans (by rw [← hq.out, Tok.runEnd_stop hlt' hp])
           replace hst2 := Lib.hid hst2
           go_ret2
           exact ⟨end_eq hst2.out rfl rfl, rfl⟩)
    · have hst2 := hst.out.trans (by rw [← hq.out, Tok.runEnd_end (Nat.le_of_not_lt hlt)])
      replace hst2 := Lib.hid hst2
      go_wp2
      go_ret2
      exact ⟨end_eq hst2.out rfl rfl, rfl⟩

end Go.Proofs.YtiiaamkmnbegdaaDoor
