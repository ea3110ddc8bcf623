/- Walks: one. -/
import Derived.Test.YtaeplgakpacobaaDoorTokW5
set_option maxRecDepth 100000
set_option linter.unusedVariables false
set_option linter.unusedSimpArgs false
namespace Go.Proofs.YtaeplgakpacobaaDoor
open Go.RowKit

theorem cut_data (s : ByteArray) (i e : Nat) : (s.extract i e) = bs (Tok.cut s.data.toList i e) := by
  apply ByteArray.ext
  apply Array.toList_inj.1
  rw [Lib.extract_data]
  rfl

/-- the value of one's answer -/
theorem one_eq {q : Tok.T × Nat × Bool} {k a n : Int} {t : ByteArray} {b : Bool} (hk : k = (q.1.kind : Int)) (ha : a = (q.1.at_ : Int)) (ht : t = bs q.1.text) (hn : n = (q.2.1 : Int)) (hb : b = q.2.2) :
    Ending.returned (.tuple #[.agg #[.int .i64 k, .int .i64 a, .string t], .int .i64 n, .bool b]) = .returned (.tuple #[.agg #[.int .i64 (q.1.kind : Int), .int .i64 (q.1.at_ : Int), .string (bs q.1.text)], .int .i64 (q.2.1 : Int), .bool q.2.2]) := by
  rw [hk, ha, ht, hn, hb]

/-- what one answers -/
def OneP (s : ByteArray) (a : Int) (w : World) (e : Ending) (w' : World) : Prop :=
  e = .returned (.tuple #[.agg #[.int .i64 ((Tok.one s.data.toList a.toNat).1.kind : Int), .int .i64 ((Tok.one s.data.toList a.toNat).1.at_ : Int), .string (bs (Tok.one s.data.toList a.toNat).1.text)], .int .i64 ((Tok.one s.data.toList a.toNat).2.1 : Int), .bool (Tok.one s.data.toList a.toNat).2.2]) ∧ Below w.heap.size w w'

theorem bcell {W w1 : World} (hb : Below W.heap.size W w1) : (∀ b o, b < W.heap.size → w1.cell? ⟨b, o, none⟩ = W.cell? ⟨b, o, none⟩) ∧ (∀ b o, b < W.heap.size → w1.frozen? ⟨b, o, none⟩ = W.frozen? ⟨b, o, none⟩) :=
  ⟨fun b o h => hb.cell (p := ⟨b, o, none⟩) h, fun b o h => hb.frozen (p := ⟨b, o, none⟩) h⟩

theorem one_text (s : ByteArray) (k : Nat) (w : World) (hs : s.size ≤ 4294967296) (h1 : k < s.size) (hc : s[k].toNat = 39) :
    Calls Tryd.prog 47 #[.string s, .int .i64 (k : Int)] w (OneP s k w) := by
  have ga := getD_byte s k h1
  have ho : Tok.one s.data.toList k = (⟨3, k, (Tok.quoted s.data.toList (k + 1) []).1⟩, (Tok.quoted s.data.toList (k + 1) []).2.1, (Tok.quoted s.data.toList (k + 1) []).2.2) := by
    rw [Tok.one, ga, if_pos hc]
  have hcB : ((s[k].toNat : Int) == 39) = true := by simp; omega
  clear ga hc
  replace ho := Lib.hid ho
  go_enter Tryd.func47, Tryd.ntmps47
  go_wp2_with (go_at_call 62; go_must (refine (quoted_any _ _ _ hs (by omega) (by omega)).mono ?_; rintro e w1 ⟨rfl, hb⟩; obtain ⟨c0, c1, c2, f0, f1, f2⟩ := cells3 hb (by simp; omega) (heap_new1 _ _ _); obtain ⟨d0, d1, d2, g0, g1, g2⟩ := cells3 hb (by simp) (heap_new2 _ _ _); have hz : w.heap.size + 1 < w1.heap.size := by (have := hb.size; simp at this; omega)))
  have hB := (((Below.refl w.heap.size w).alloc (Nat.le_refl _) _).alloc (by simp) _).trans (hb.mono (by simp; omega))
  refine bodyPost_ret (v := .tuple #[.agg #[.int .i64 3, .int .i64 k, .string (bs (Tok.quoted s.data.toList (k + 1) []).1)], .int .i64 ((Tok.quoted s.data.toList (k + 1) []).2.1 : Int), .bool (Tok.quoted s.data.toList (k + 1) []).2.2]) (by simp only [results, Tryd.results47]; go_simp) rfl ?_
  refine ⟨?_, ?_⟩
  · rw [Int.toNat_natCast, ho.out]; rfl
  · repeat (refine Below.setCell ?_ (by simp) _)
    exact hB

theorem one_blob (s : ByteArray) (k : Nat) (w : World) (hs : s.size ≤ 4294967296) (h1 : k < s.size) (h2 : k + 1 < s.size) (hc : s[k].toNat = 120 ∨ s[k].toNat = 88) (hd : s[k + 1].toNat = 39) :
    Calls Tryd.prog 47 #[.string s, .int .i64 (k : Int)] w (OneP s k w) := by
  have ga := getD_byte s k h1
  have gb := getD_byte s (k + 1) h2
  have ho : Tok.one s.data.toList k = (⟨4, k, (Tok.blob s.data.toList (k + 1)).1⟩, (Tok.blob s.data.toList (k + 1)).2.1, (Tok.blob s.data.toList (k + 1)).2.2) := by
    rw [Tok.one, ga, gb, if_neg (by omega), if_pos ⟨hc, by simpa using h2, hd⟩]
  have hcB : ((s[k].toNat : Int) == 39) = false := by simp; omega
  have hdB : ((s[k + 1].toNat : Int) == 39) = true := by simp; omega
  clear ga gb hd
  replace ho := Lib.hid ho
  rcases hc with hc | hc
  all_goals
    first
      | have hcC : ((s[k].toNat : Int) == 120) = true := by (simp; omega)
      | (have hcC : ((s[k].toNat : Int) == 120) = false := by (simp; omega)
         have hcD : ((s[k].toNat : Int) == 88) = true := by (simp; omega))
    clear hc
    go_enter Tryd.func47, Tryd.ntmps47
    go_wp2_with (go_at_call 63; go_must (refine (blob_any _ _ _ hs (by omega) (by omega)).mono ?_; rintro e w1 ⟨rfl, hb⟩; obtain ⟨c0, c1, c2, f0, f1, f2⟩ := cells3 hb (by simp; omega) (heap_new1 _ _ _); obtain ⟨d0, d1, d2, g0, g1, g2⟩ := cells3 hb (by simp) (heap_new2 _ _ _); have hz : w.heap.size + 1 < w1.heap.size := by (have := hb.size; simp at this; omega)))
    have hB := (((Below.refl w.heap.size w).alloc (Nat.le_refl _) _).alloc (by simp) _).trans (hb.mono (by simp; omega))
    refine bodyPost_ret (v := .tuple #[.agg #[.int .i64 4, .int .i64 k, .string (bs (Tok.blob s.data.toList (k + 1)).1)], .int .i64 ((Tok.blob s.data.toList (k + 1)).2.1 : Int), .bool (Tok.blob s.data.toList (k + 1)).2.2]) (by simp only [results, Tryd.results47]; go_simp) rfl ?_
    refine ⟨?_, ?_⟩
    · rw [Int.toNat_natCast, ho.out]; rfl
    · repeat (refine Below.setCell ?_ (by simp) _)
      exact hB

/-- no text and no blob begins here: the two first tests, as the walk asks them -/
theorem no_quote (s : ByteArray) (k : Nat) (h1 : k < s.size) (hc : s[k].toNat ≠ 39) (hx : s[k].toNat ≠ 120 ∧ s[k].toNat ≠ 88) :
    Tok.one s.data.toList k = (if s[k].toNat = 63 then (⟨5, k, Tok.cut s.data.toList (k + 1) (Tok.runEnd Tok.digit s.data.toList (k + 1))⟩, Tok.runEnd Tok.digit s.data.toList (k + 1), true)
      else if Tok.letter s[k] = true then (⟨1, k, Tok.cut s.data.toList k (Tok.runEnd Tok.word s.data.toList k)⟩, Tok.runEnd Tok.word s.data.toList k, decide (k < Tok.runEnd Tok.word s.data.toList k))
      else if Tok.digit s[k] = true then (⟨2, k, Tok.cut s.data.toList k (Tok.runEnd Tok.digit s.data.toList k)⟩, Tok.runEnd Tok.digit s.data.toList k, decide (k < Tok.runEnd Tok.digit s.data.toList k))
      else (⟨6, k, Tok.cut s.data.toList k (k + Tok.sign s.data.toList k)⟩, k + Tok.sign s.data.toList k, decide (k < k + Tok.sign s.data.toList k))) := by
  rw [Tok.one, getD_byte s k h1, if_neg hc, if_neg (by omega)]

theorem one_param (s : ByteArray) (k : Nat) (w : World) (hs : s.size ≤ 4294967296) (h1 : k < s.size) (hc : s[k].toNat = 63) :
    Calls Tryd.prog 47 #[.string s, .int .i64 (k : Int)] w (OneP s k w) := by
  have ho := no_quote s k h1 (by omega) (by omega)
  rw [if_pos hc] at ho
  obtain ⟨e, he⟩ : ∃ e, e = Tok.runEnd Tok.digit s.data.toList (k + 1) := ⟨_, rfl⟩
  have hle := Tok.runEnd_le Tok.digit s.data.toList (k + 1) h1
  rw [← he] at ho hle
  have hle1 : k + 1 ≤ e := hle.1
  have hle2 : e ≤ s.size := hle.2
  clear hle
  have hcA : ((s[k].toNat : Int) == 39) = false := by simp; omega
  have hcB : ((s[k].toNat : Int) == 120) = false := by simp; omega
  have hcC : ((s[k].toNat : Int) == 88) = false := by simp; omega
  have hcD : ((s[k].toNat : Int) == 63) = true := by simp; omega
  clear hc
  replace ho := Lib.hid ho
  replace he := Lib.hid he
  go_enter Tryd.func47, Tryd.ntmps47
  go_wp2_with (go_at_call 25; go_must (refine (run_digit _ _ _ hs (by omega) (by omega)).mono ?_; rintro e' w1 ⟨rfl, rfl⟩; rw [show ((k : Int) + 1).toNat = k + 1 from by omega, ← he.out]))
  refine bodyPost_ret (v := .tuple #[.agg #[.int .i64 5, .int .i64 k, .string (s.extract (k + 1) e)], .int .i64 (e : Int), .bool true]) (by simp only [results, Tryd.results47]; go_simp) rfl ?_
  refine ⟨?_, ?_⟩
  · rw [Int.toNat_natCast, ho.out, cut_data]; rfl
  · repeat (first | exact Below.refl _ _ | refine Below.setCell ?_ (by simp) _ | refine Below.alloc ?_ (by simp) _)

theorem one_word (s : ByteArray) (k : Nat) (w : World) (hs : s.size ≤ 4294967296) (h1 : k < s.size) (hl : Tok.letter s[k] = true) (hnb : ¬ ((s[k].toNat = 120 ∨ s[k].toNat = 88) ∧ k + 1 < s.size ∧ (s.data.toList.getD (k + 1) 0).toNat = 39)) :
    Calls Tryd.prog 47 #[.string s, .int .i64 (k : Int)] w (OneP s k w) := by
  have hln : 97 ≤ s[k].toNat ∧ s[k].toNat ≤ 122 ∨ 65 ≤ s[k].toNat ∧ s[k].toNat ≤ 90 ∨ s[k].toNat = 95 := by simpa [Tok.letter] using hl
  have ho : Tok.one s.data.toList k = (⟨1, k, Tok.cut s.data.toList k (Tok.runEnd Tok.word s.data.toList k)⟩, Tok.runEnd Tok.word s.data.toList k, decide (k < Tok.runEnd Tok.word s.data.toList k)) := by
    rw [Tok.one, getD_byte s k h1, if_neg (by omega), if_neg (by simpa using hnb), if_neg (by omega), if_pos hl]
  obtain ⟨e, he⟩ : ∃ e, e = Tok.runEnd Tok.word s.data.toList k := ⟨_, rfl⟩
  have hle := Tok.runEnd_le Tok.word s.data.toList k (Nat.le_of_lt h1)
  rw [← he] at ho hle
  have hle1 : k ≤ e := hle.1
  have hle2 : e ≤ s.size := hle.2
  clear hle
  have hcA : ((s[k].toNat : Int) == 39) = false := by simp; omega
  have hcD : ((s[k].toNat : Int) == 63) = false := by simp; omega
  replace ho := Lib.hid ho
  replace he := Lib.hid he
  clear hln
  by_cases hxx : s[k].toNat = 120 ∨ s[k].toNat = 88
  · by_cases h2 : k + 1 < s.size
    · have gb := getD_byte s (k + 1) h2
      have hqB : ((s[k + 1].toNat : Int) == 39) = false := by
        rw [gb] at hnb
        simp
        intro h
        exact hnb ⟨hxx, h2, by omega⟩
      clear gb hnb
      rcases hxx with hc | hc
      all_goals
        first
          | have hcB : ((s[k].toNat : Int) == 120) = true := by (simp; omega)
          | (have hcB : ((s[k].toNat : Int) == 120) = false := by (simp; omega)
             have hcC : ((s[k].toNat : Int) == 88) = true := by (simp; omega))
        clear hc
        go_enter Tryd.func47, Tryd.ntmps47
        go_wp2_with (first
          | (go_at_call 26; go_must (refine (letter_any _ _).mono ?_; rintro e' w1 ⟨rfl, rfl⟩; rw [hl]))
          | (go_at_call 25; go_must (refine (run_word_is _ _ _ he hs (by omega)).mono ?_; rintro e' w1 ⟨rfl, rfl⟩)))
        refine bodyPost_ret (v := .tuple #[.agg #[.int .i64 1, .int .i64 k, .string (s.extract k e)], .int .i64 (e : Int), .bool (decide ((k : Int) < (e : Int)))]) (by simp only [results, Tryd.results47]; go_simp) rfl ?_
        refine ⟨?_, ?_⟩
        · rw [Int.toNat_natCast, ho.out, cut_data]; simp
        · repeat (first | exact Below.refl _ _ | refine Below.setCell ?_ (by simp) _ | refine Below.alloc ?_ (by simp) _)
    · clear hnb
      rcases hxx with hc | hc
      all_goals
        first
          | have hcB : ((s[k].toNat : Int) == 120) = true := by (simp; omega)
          | (have hcB : ((s[k].toNat : Int) == 120) = false := by (simp; omega)
             have hcC : ((s[k].toNat : Int) == 88) = true := by (simp; omega))
        clear hc
        go_enter Tryd.func47, Tryd.ntmps47
        go_wp2_with (first
          | (go_at_call 26; go_must (refine (letter_any _ _).mono ?_; rintro e' w1 ⟨rfl, rfl⟩; rw [hl]))
          | (go_at_call 25; go_must (refine (run_word_is _ _ _ he hs (by omega)).mono ?_; rintro e' w1 ⟨rfl, rfl⟩)))
        refine bodyPost_ret (v := .tuple #[.agg #[.int .i64 1, .int .i64 k, .string (s.extract k e)], .int .i64 (e : Int), .bool (decide ((k : Int) < (e : Int)))]) (by simp only [results, Tryd.results47]; go_simp) rfl ?_
        refine ⟨?_, ?_⟩
        · rw [Int.toNat_natCast, ho.out, cut_data]; simp
        · repeat (first | exact Below.refl _ _ | refine Below.setCell ?_ (by simp) _ | refine Below.alloc ?_ (by simp) _)
  · have hcB : ((s[k].toNat : Int) == 120) = false := by simp; omega
    have hcC : ((s[k].toNat : Int) == 88) = false := by simp; omega
    clear hnb hxx
    go_enter Tryd.func47, Tryd.ntmps47
    go_wp2_with (first
      | (go_at_call 26; go_must (refine (letter_any _ _).mono ?_; rintro e' w1 ⟨rfl, rfl⟩; rw [hl]))
      | (go_at_call 25; go_must (refine (run_word_is _ _ _ he hs (by omega)).mono ?_; rintro e' w1 ⟨rfl, rfl⟩)))
    refine bodyPost_ret (v := .tuple #[.agg #[.int .i64 1, .int .i64 k, .string (s.extract k e)], .int .i64 (e : Int), .bool (decide ((k : Int) < (e : Int)))]) (by simp only [results, Tryd.results47]; go_simp) rfl ?_
    refine ⟨?_, ?_⟩
    · rw [Int.toNat_natCast, ho.out, cut_data]; simp
    · repeat (first | exact Below.refl _ _ | refine Below.setCell ?_ (by simp) _ | refine Below.alloc ?_ (by simp) _)

theorem one_int (s : ByteArray) (k : Nat) (w : World) (hs : s.size ≤ 4294967296) (h1 : k < s.size) (hd : Tok.digit s[k] = true) :
    Calls Tryd.prog 47 #[.string s, .int .i64 (k : Int)] w (OneP s k w) := by
  have hdn : 48 ≤ s[k].toNat ∧ s[k].toNat ≤ 57 := by simpa [Tok.digit] using hd
  have hl : Tok.letter s[k] = false := by simp [Tok.letter]; omega
  have ho := no_quote s k h1 (by omega) (by omega)
  rw [if_neg (by omega), if_neg (by rw [hl]; decide), if_pos hd] at ho
  obtain ⟨e, he⟩ : ∃ e, e = Tok.runEnd Tok.digit s.data.toList k := ⟨_, rfl⟩
  have hle := Tok.runEnd_le Tok.digit s.data.toList k (Nat.le_of_lt h1)
  rw [← he] at ho hle
  have hle1 : k ≤ e := hle.1
  have hle2 : e ≤ s.size := hle.2
  clear hle
  have hcA : ((s[k].toNat : Int) == 39) = false := by simp; omega
  have hcB : ((s[k].toNat : Int) == 120) = false := by simp; omega
  have hcC : ((s[k].toNat : Int) == 88) = false := by simp; omega
  have hcD : ((s[k].toNat : Int) == 63) = false := by simp; omega
  replace ho := Lib.hid ho
  replace he := Lib.hid he
  clear hdn
  go_enter Tryd.func47, Tryd.ntmps47
  go_wp2_with (first
    | (go_at_call 26; go_must (refine (letter_any _ _).mono ?_; rintro e' w1 ⟨rfl, rfl⟩; rw [hl]))
    | (go_at_call 31; go_must (refine (digit_any _ _).mono ?_; rintro e' w1 ⟨rfl, rfl⟩; rw [hd]))
    | (go_at_call 25; go_must (refine (run_digit_is _ _ _ he hs (by omega)).mono ?_; rintro e' w1 ⟨rfl, rfl⟩)))
  refine bodyPost_ret (v := .tuple #[.agg #[.int .i64 2, .int .i64 k, .string (s.extract k e)], .int .i64 (e : Int), .bool (decide ((k : Int) < (e : Int)))]) (by simp only [results, Tryd.results47]; go_simp) rfl ?_
  refine ⟨?_, ?_⟩
  · rw [Int.toNat_natCast, ho.out, cut_data]; simp
  · repeat (first | exact Below.refl _ _ | refine Below.setCell ?_ (by simp) _ | refine Below.alloc ?_ (by simp) _)

theorem one_sign (s : ByteArray) (k : Nat) (w : World) (hs : s.size ≤ 4294967296) (h1 : k < s.size) (hc : s[k].toNat ≠ 39) (hq : s[k].toNat ≠ 63) (hl : Tok.letter s[k] = false) (hd : Tok.digit s[k] = false) :
    Calls Tryd.prog 47 #[.string s, .int .i64 (k : Int)] w (OneP s k w) := by
  have hln : ¬ (97 ≤ s[k].toNat ∧ s[k].toNat ≤ 122 ∨ 65 ≤ s[k].toNat ∧ s[k].toNat ≤ 90 ∨ s[k].toNat = 95) := by
    intro h; simp [Tok.letter] at hl; omega
  have ho := no_quote s k h1 hc (by omega)
  rw [if_neg hq, if_neg (by rw [hl]; decide), if_neg (by rw [hd]; decide)] at ho
  obtain ⟨n, he⟩ : ∃ n, n = Tok.sign s.data.toList k := ⟨_, rfl⟩
  have hle := Tok.sign_le s.data.toList k h1
  rw [← he] at ho hle
  have hle2 : k + n ≤ s.size := hle
  clear hle
  have hcA : ((s[k].toNat : Int) == 39) = false := by simp; omega
  have hcB : ((s[k].toNat : Int) == 120) = false := by simp; omega
  have hcC : ((s[k].toNat : Int) == 88) = false := by simp; omega
  have hcD : ((s[k].toNat : Int) == 63) = false := by simp; omega
  replace ho := Lib.hid ho
  replace he := Lib.hid he
  clear hln hc hq
  go_enter Tryd.func47, Tryd.ntmps47
  go_wp2_with (first
    | (go_at_call 26; go_must (refine (letter_any _ _).mono ?_; rintro e' w1 ⟨rfl, rfl⟩; rw [hl]))
    | (go_at_call 31; go_must (refine (digit_any _ _).mono ?_; rintro e' w1 ⟨rfl, rfl⟩; rw [hd]))
    | (go_at_call 65; go_must (refine (sign_is _ _ _ he hs h1).mono ?_; rintro e w1 ⟨rfl, hb⟩; obtain ⟨c0, c1, c2, f0, f1, f2⟩ := cells3 hb (by simp; omega) (heap_new1 _ _ _); obtain ⟨d0, d1, d2, g0, g1, g2⟩ := cells3 hb (by simp) (heap_new2 _ _ _); have hz : w.heap.size + 1 < w1.heap.size := by (have := hb.size; simp at this; omega))))
  have hB := (((Below.refl w.heap.size w).alloc (Nat.le_refl _) _).alloc (by simp) _).trans (hb.mono (by simp; omega))
  refine bodyPost_ret (v := .tuple #[.agg #[.int .i64 6, .int .i64 k, .string (s.extract k (k + n))], .int .i64 ((k : Int) + n), .bool (decide ((k : Int) < (k : Int) + n))]) (by simp only [results, Tryd.results47]; go_simp) rfl ?_
  refine ⟨?_, ?_⟩
  · rw [Int.toNat_natCast, ho.out, cut_data]; simp; omega
  · repeat (refine Below.setCell ?_ (by simp) _)
    exact hB

theorem one_any (s : ByteArray) (a : Int) (w : World) (hs : s.size ≤ 4294967296) (h0 : 0 ≤ a) (h1 : a < s.size) :
    Calls Tryd.prog 47 #[.string s, .int .i64 a] w (OneP s a w) := by
  obtain ⟨k, rfl⟩ := Int.eq_ofNat_of_zero_le h0
  have hk : k < s.size := by omega
  by_cases hc : s[k].toNat = 39
  · exact one_text s k w hs hk hc
  by_cases hb : (s[k].toNat = 120 ∨ s[k].toNat = 88) ∧ k + 1 < s.size ∧ (s.data.toList.getD (k + 1) 0).toNat = 39
  · obtain ⟨hx, h2, hd⟩ := hb
    rw [getD_byte s (k + 1) h2] at hd
    exact one_blob s k w hs hk h2 hx hd
  by_cases hq : s[k].toNat = 63
  · exact one_param s k w hs hk hq
  cases hl : Tok.letter s[k] with
  | true => exact one_word s k w hs hk hl hb
  | false =>
    cases hd : Tok.digit s[k] with
    | true => exact one_int s k w hs hk hd
    | false => exact one_sign s k w hs hk hc hq hl hd

theorem one_is {t : Tok.T} {e : Nat} {b : Bool} (s : ByteArray) (k : Nat) (w : World) (hu : Hid (Tok.one s.data.toList k = (t, e, b))) (hs : s.size ≤ 4294967296) (h1 : k < s.size) :
    Calls Tryd.prog 47 #[.string s, .int .i64 (k : Int)] w fun e' w' => e' = .returned (.tuple #[.agg #[.int .i64 (t.kind : Int), .int .i64 (t.at_ : Int), .string (bs t.text)], .int .i64 (e : Int), .bool b]) ∧ Below w.heap.size w w' :=
  (one_any s k w hs (by omega) (by omega)).mono fun _ _ ⟨h, h'⟩ => ⟨by rw [h, Int.toNat_natCast, hu.out], h'⟩

theorem skip_is {n : Nat} (s : ByteArray) (k : Nat) (w : World) (he : Hid (n = Tok.skip s.data.toList k)) (hs : s.size ≤ 4294967296) (h1 : k ≤ s.size) :
    Calls Tryd.prog 46 #[.string s, .int .i64 (k : Int)] w fun e w' => e = .returned (.int .i64 (n : Int)) ∧ w = w' :=
  (skip_any s k w hs (by omega) (by omega)).mono fun _ _ ⟨h, h'⟩ => ⟨by rw [h, Int.toNat_natCast, ← he.out], h'⟩

end Go.Proofs.YtaeplgakpacobaaDoor
