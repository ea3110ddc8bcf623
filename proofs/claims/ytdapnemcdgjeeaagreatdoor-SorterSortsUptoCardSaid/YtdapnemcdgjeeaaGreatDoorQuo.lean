/- strconv.Quote tells texts apart: in plain Lean. -/
import Derived.Test.YtdapnemcdgjeeaaGreatDoorPlain
import Derived.Lib.QuoteLoop
set_option maxRecDepth 100000
set_option linter.unusedVariables false
set_option linter.unusedSimpArgs false
namespace Go.Proofs.YtdapnemcdgjeeaaGreatDoor.Quo
open Go.Lib

theorem hd_inj {x y : Nat} (hx : x < 16) (hy : y < 16) (h : hexDigit x = hexDigit y) : x = y := by
  unfold hexDigit at h
  split at h <;> split at h <;> omega
def okR (r : Int) : Prop := (0 ≤ r ∧ r < 55296) ∨ (57343 < r ∧ r ≤ 1114111)
theorem enc1 {r : Int} (h0 : 0 ≤ r) (h1 : r ≤ 127) : encodeRuneZ r = [r] := by unfold encodeRuneZ; rw [if_pos ⟨h0, h1⟩]
theorem enc2 {r : Int} (h0 : 128 ≤ r) (h1 : r ≤ 2047) : encodeRuneZ r = [192 + r / 64, 128 + r % 64] := by unfold encodeRuneZ; rw [if_neg (by omega), if_pos ⟨h0, h1⟩]
theorem enc3 {r : Int} (h0 : 2048 ≤ r) (h1 : r ≤ 65535) (h : okR r) : encodeRuneZ r = [224 + r / 4096, 128 + r / 64 % 64, 128 + r % 64] := by
  unfold okR at h
  unfold encodeRuneZ; rw [if_neg (by omega), if_neg (by omega), if_pos (by omega)]
theorem enc4 {r : Int} (h0 : 65536 ≤ r) (h1 : r ≤ 1114111) : encodeRuneZ r = [240 + r / 262144, 128 + r / 4096 % 64, 128 + r / 64 % 64, 128 + r % 64] := by
  unfold encodeRuneZ; rw [if_neg (by omega), if_neg (by omega), if_neg (by omega), if_pos ⟨h0, h1⟩]
theorem enc_cases {r : Int} (h : okR r) : (0 ≤ r ∧ r ≤ 127 ∧ encodeRuneZ r = [r]) ∨ (128 ≤ r ∧ r ≤ 2047 ∧ encodeRuneZ r = [192 + r / 64, 128 + r % 64]) ∨ (2048 ≤ r ∧ r ≤ 65535 ∧ encodeRuneZ r = [224 + r / 4096, 128 + r / 64 % 64, 128 + r % 64]) ∨ (65536 ≤ r ∧ r ≤ 1114111 ∧ encodeRuneZ r = [240 + r / 262144, 128 + r / 4096 % 64, 128 + r / 64 % 64, 128 + r % 64]) := by
  have h' := h
  unfold okR at h'
  by_cases c1 : r ≤ 127
  · exact .inl ⟨by omega, c1, enc1 (by omega) c1⟩
  · by_cases c2 : r ≤ 2047
    · exact .inr (.inl ⟨by omega, c2, enc2 (by omega) c2⟩)
    · by_cases c3 : r ≤ 65535
      · exact .inr (.inr (.inl ⟨by omega, c3, enc3 (by omega) c3 h⟩))
      · exact .inr (.inr (.inr ⟨by omega, by omega, enc4 (by omega) (by omega)⟩))
theorem enc_inj {r q : Int} (hr : okR r) (hq : okR q) {X Y : List Int} (h : encodeRuneZ r ++ X = encodeRuneZ q ++ Y) : r = q ∧ X = Y := by
  rcases enc_cases hr with ⟨a1, a2, e⟩ | ⟨a1, a2, e⟩ | ⟨a1, a2, e⟩ | ⟨a1, a2, e⟩ <;> rcases enc_cases hq with ⟨b1, b2, g⟩ | ⟨b1, b2, g⟩ | ⟨b1, b2, g⟩ | ⟨b1, b2, g⟩ <;> rw [e, g] at h <;> simp only [List.cons_append, List.nil_append, List.cons.injEq] at h
  all_goals first
    | (exfalso; omega)
    | exact ⟨by omega, h.2⟩
    | exact ⟨by omega, h.2.2⟩
    | exact ⟨by omega, h.2.2.2⟩
    | exact ⟨by omega, h.2.2.2.2⟩
/-- an escape of one letter stands for -/
def back (x : Int) : Int := if x = 97 then 7 else if x = 98 then 8 else if x = 102 then 12 else if x = 110 then 10 else if x = 114 then 13 else if x = 116 then 9 else if x = 118 then 11 else x
theorem esc_cases (T : PrintTabs) {r : Int} (h : okR r) : (escRune T r = encodeRuneZ r ∧ r ≠ 34 ∧ r ≠ 92) ∨ (∃ x, escRune T r = [92, x] ∧ back x = r ∧ x ≠ 120 ∧ x ≠ 117 ∧ x ≠ 85) ∨ (escRune T r = [92, 120, hexDigit (r.toNat / 16), hexDigit (r.toNat % 16)] ∧ 0 ≤ r ∧ r < 128) ∨ (escRune T r = 92 :: 117 :: hexDigits r.toNat 4 ∧ 0 ≤ r ∧ r < 65536) ∨ (escRune T r = 92 :: 85 :: hexDigits r.toNat 8 ∧ 65536 ≤ r ∧ r ≤ 1114111) := by
  have hv : validRune r = true := by unfold okR at h; simp only [validRune, decide_eq_true_eq]; omega
  have h' := h
  unfold okR at h'
  unfold escRune
  by_cases c0 : r = 34 ∨ r = 92
  · rw [if_pos c0]
    refine .inr (.inl ⟨r, rfl, ?_, by omega, by omega, by omega⟩)
    rcases c0 with rfl | rfl <;> rfl
  rw [if_neg c0]
  by_cases c1 : isPrintR T r = true
  · rw [if_pos c1]; exact .inl ⟨rfl, fun e => c0 (.inl e), fun e => c0 (.inr e)⟩
  rw [if_neg c1]
  by_cases c2 : r = 7
  · rw [if_pos c2]; subst c2; exact .inr (.inl ⟨97, rfl, rfl, by decide, by decide, by decide⟩)
  rw [if_neg c2]
  by_cases c3 : r = 8
  · rw [if_pos c3]; subst c3; exact .inr (.inl ⟨98, rfl, rfl, by decide, by decide, by decide⟩)
  rw [if_neg c3]
  by_cases c4 : r = 12
  · rw [if_pos c4]; subst c4; exact .inr (.inl ⟨102, rfl, rfl, by decide, by decide, by decide⟩)
  rw [if_neg c4]
  by_cases c5 : r = 10
  · rw [if_pos c5]; subst c5; exact .inr (.inl ⟨110, rfl, rfl, by decide, by decide, by decide⟩)
  rw [if_neg c5]
  by_cases c6 : r = 13
  · rw [if_pos c6]; subst c6; exact .inr (.inl ⟨114, rfl, rfl, by decide, by decide, by decide⟩)
  rw [if_neg c6]
  by_cases c7 : r = 9
  · rw [if_pos c7]; subst c7; exact .inr (.inl ⟨116, rfl, rfl, by decide, by decide, by decide⟩)
  rw [if_neg c7]
  by_cases c8 : r = 11
  · rw [if_pos c8]; subst c8; exact .inr (.inl ⟨118, rfl, rfl, by decide, by decide, by decide⟩)
  rw [if_neg c8]
  by_cases c9 : r < 32 ∨ r = 127
  · rw [if_pos c9]; exact .inr (.inr (.inl ⟨rfl, by omega, by omega⟩))
  rw [if_neg c9, if_neg (by rw [hv]; simp)]
  by_cases c10 : r < 65536
  · rw [if_pos c10]; exact .inr (.inr (.inr (.inl ⟨rfl, by omega, c10⟩)))
  · rw [if_neg c10]; exact .inr (.inr (.inr (.inr ⟨rfl, by omega, by omega⟩)))
theorem hex4 (n : Nat) : hexDigits n 4 = [hexDigit (n / 4096 % 16), hexDigit (n / 256 % 16), hexDigit (n / 16 % 16), hexDigit (n % 16)] := by
  simp [hexDigits]
theorem hex8 (n : Nat) : hexDigits n 8 = [hexDigit (n / 268435456 % 16), hexDigit (n / 16777216 % 16), hexDigit (n / 1048576 % 16), hexDigit (n / 65536 % 16), hexDigit (n / 4096 % 16), hexDigit (n / 256 % 16), hexDigit (n / 16 % 16), hexDigit (n % 16)] := by
  simp [hexDigits]
theorem raw_ne {r : Int} (h : okR r) (h2 : r ≠ 92) {x : Int} {X Y : List Int} (he : encodeRuneZ r ++ X = 92 :: Y) : False := by
  rcases enc_cases h with ⟨a1, a2, e⟩ | ⟨a1, a2, e⟩ | ⟨a1, a2, e⟩ | ⟨a1, a2, e⟩ <;> rw [e] at he <;> simp only [List.cons_append, List.nil_append, List.cons.injEq] at he <;> omega
theorem esc_inj (T : PrintTabs) {r q : Int} (hr : okR r) (hq : okR q) {X Y : List Int} (h : escRune T r ++ X = escRune T q ++ Y) : r = q ∧ X = Y := by
  rcases esc_cases T hr with ⟨e, a1, a2⟩ | ⟨x, e, a1, a2, a3, a4⟩ | ⟨e, a1, a2⟩ | ⟨e, a1, a2⟩ | ⟨e, a1, a2⟩ <;> rcases esc_cases T hq with ⟨g, b1, b2⟩ | ⟨y, g, b1, b2, b3, b4⟩ | ⟨g, b1, b2⟩ | ⟨g, b1, b2⟩ | ⟨g, b1, b2⟩ <;> rw [e, g] at h
  · exact enc_inj hr hq h
  · exact (raw_ne (x := 0) hr a2 h).elim
  · exact (raw_ne (x := 0) hr a2 h).elim
  · exact (raw_ne (x := 0) hr a2 h).elim
  · exact (raw_ne (x := 0) hr a2 h).elim
  · exact (raw_ne (x := 0) hq b2 h.symm).elim
  · simp only [List.cons_append, List.nil_append, List.cons.injEq, true_and] at h
    exact ⟨by rw [← a1, ← b1, h.1], h.2⟩
  · simp only [List.cons_append, List.nil_append, List.cons.injEq, true_and] at h
    exact absurd h.1 a2
  · simp only [List.cons_append, List.nil_append, List.cons.injEq, true_and] at h
    exact absurd h.1 a3
  · simp only [List.cons_append, List.nil_append, List.cons.injEq, true_and] at h
    exact absurd h.1 a4
  · exact (raw_ne (x := 0) hq b2 h.symm).elim
  · simp only [List.cons_append, List.nil_append, List.cons.injEq, true_and] at h
    exact absurd h.1.symm b2
  · simp only [List.cons_append, List.nil_append, List.cons.injEq, true_and] at h
    have h1 := hd_inj (by omega) (by omega) h.1
    have h2 := hd_inj (by omega) (by omega) h.2.1
    exact ⟨by omega, h.2.2⟩
  · simp only [List.cons_append, List.nil_append, List.cons.injEq, true_and] at h
    exact absurd h.1 (by decide)
  · simp only [List.cons_append, List.nil_append, List.cons.injEq, true_and] at h
    exact absurd h.1 (by decide)
  · exact (raw_ne (x := 0) hq b2 h.symm).elim
  · simp only [List.cons_append, List.nil_append, List.cons.injEq, true_and] at h
    exact absurd h.1.symm b3
  · simp only [List.cons_append, List.nil_append, List.cons.injEq, true_and] at h
    exact absurd h.1 (by decide)
  · rw [hex4, hex4] at h
    simp only [List.cons_append, List.nil_append, List.cons.injEq, true_and] at h
    have h1 := hd_inj (by omega) (by omega) h.1
    have h2 := hd_inj (by omega) (by omega) h.2.1
    have h3 := hd_inj (by omega) (by omega) h.2.2.1
    have h4 := hd_inj (by omega) (by omega) h.2.2.2.1
    exact ⟨by omega, h.2.2.2.2⟩
  · simp only [List.cons_append, List.nil_append, List.cons.injEq, true_and] at h
    exact absurd h.1 (by decide)
  · exact (raw_ne (x := 0) hq b2 h.symm).elim
  · simp only [List.cons_append, List.nil_append, List.cons.injEq, true_and] at h
    exact absurd h.1.symm b4
  · simp only [List.cons_append, List.nil_append, List.cons.injEq, true_and] at h
    exact absurd h.1 (by decide)
  · simp only [List.cons_append, List.nil_append, List.cons.injEq, true_and] at h
    exact absurd h.1 (by decide)
  · rw [hex8, hex8] at h
    simp only [List.cons_append, List.nil_append, List.cons.injEq, true_and] at h
    have h1 := hd_inj (by omega) (by omega) h.1
    have h2 := hd_inj (by omega) (by omega) h.2.1
    have h3 := hd_inj (by omega) (by omega) h.2.2.1
    have h4 := hd_inj (by omega) (by omega) h.2.2.2.1
    have h5 := hd_inj (by omega) (by omega) h.2.2.2.2.1
    have h6 := hd_inj (by omega) (by omega) h.2.2.2.2.2.1
    have h7 := hd_inj (by omega) (by omega) h.2.2.2.2.2.2.1
    have h8 := hd_inj (by omega) (by omega) h.2.2.2.2.2.2.2.1
    exact ⟨by omega, h.2.2.2.2.2.2.2.2⟩
/-- the place of a byte that is no rune's -/
theorem bad_ne (T : PrintTabs) {b : Nat} (hb : 128 ≤ b) (hb2 : b < 256) {r : Int} (hr : okR r) {X Y : List Int} (h : [92, 120, hexDigit (b / 16), hexDigit (b % 16)] ++ X = escRune T r ++ Y) : False := by
  rcases esc_cases T hr with ⟨g, b1, b2⟩ | ⟨y, g, b1, b2, b3, b4⟩ | ⟨g, b1, b2⟩ | ⟨g, b1, b2⟩ | ⟨g, b1, b2⟩ <;> rw [g] at h
  · exact raw_ne (x := 0) hr b2 h.symm
  all_goals simp only [List.cons_append, List.nil_append, List.cons.injEq, true_and] at h
  · exact b2 h.1.symm
  · have := hd_inj (by omega) (by omega) h.1
    omega
  · exact absurd h.1 (by decide)
  · exact absurd h.1 (by decide)
/-- the first rune of a text, and its bytes -/
def ints (l : List UInt8) : List Int := l.map fun b => (b.toNat : Int)
theorem ints_inj : ∀ {a b : List UInt8}, ints a = ints b → a = b := by
  intro a
  induction a with
  | nil => intro b h; cases b with
    | nil => rfl
    | cons c b => cases h
  | cons c a ih =>
    intro b h
    cases b with
    | nil => cases h
    | cons d b =>
      simp only [ints, List.map_cons, List.cons.injEq] at h
      have h1 : c = d := UInt8.toNat_inj.1 (by omega)
      rw [h1, ih h.2]
def dec (l : List UInt8) : Nat × Nat := decodeN l.length (l.getD 0 0).toNat (l.getD 1 0).toNat (l.getD 2 0).toNat (l.getD 3 0).toNat
theorem dec_cases (l : List UInt8) (h : l ≠ []) : ((dec l).1 = 65533 ∧ (dec l).2 = 1 ∧ 128 ≤ (l.getD 0 0).toNat) ∨ (okR ((dec l).1 : Int) ∧ encodeRuneZ ((dec l).1 : Int) = ints (l.take (dec l).2) ∧ ¬ ((dec l).2 = 1 ∧ (dec l).1 = 65533) ∧ 0 < (dec l).2 ∧ (dec l).2 ≤ l.length) := by
  cases l with
  | nil => exact absurd rfl h
  | cons b0 l =>
    have h0 := b0.toNat_lt
    unfold dec decodeN
    simp only [List.getD_cons_zero, List.length_cons]
    by_cases c0 : b0.toNat < 128
    · rw [if_pos c0]
      refine .inr ⟨.inl (by omega), ?_, by omega, by omega, by omega⟩
      rw [enc1 (by omega) (by omega)]
      simp [ints]
    rw [if_neg c0]
    by_cases c1 : b0.toNat / 32 = 6 ∧ (1 < l.length + 1 ∧ ((b0 :: l).getD 1 0).toNat / 64 = 2)
    · rw [if_pos c1]
      cases l with
      | nil => exfalso; simp at c1
      | cons b1 l =>
        have h1 := b1.toNat_lt
        simp only [List.getD_cons_succ, List.getD_cons_zero, List.length_cons] at c1 ⊢
        split
        · rename_i c2
          refine .inr ⟨.inl (by omega), ?_, by omega, by omega, by omega⟩
          rw [enc2 (by omega) (by omega)]
          simp only [ints, List.take_succ_cons, List.take_zero, List.map_cons, List.map_nil, List.cons.injEq, and_true]
          omega
        · exact .inl ⟨rfl, rfl, by omega⟩
    rw [if_neg c1]
    by_cases c3 : b0.toNat / 16 = 14 ∧ (1 < l.length + 1 ∧ ((b0 :: l).getD 1 0).toNat / 64 = 2) ∧ (2 < l.length + 1 ∧ ((b0 :: l).getD 2 0).toNat / 64 = 2)
    · rw [if_pos c3]
      match l, c1, c3 with
      | [], _, c3 => exfalso; simp at c3
      | [b1], _, c3 => exfalso; simp at c3
      | b1 :: b2 :: l, c1, c3 =>
        have h1 := b1.toNat_lt
        have h2 := b2.toNat_lt
        simp only [List.getD_cons_succ, List.getD_cons_zero, List.length_cons] at c3 ⊢
        split
        · rename_i c4
          have hk : okR ((b0.toNat % 16 * 4096 + b1.toNat % 64 * 64 + b2.toNat % 64 : Nat) : Int) := by unfold okR; omega
          refine .inr ⟨hk, ?_, by omega, by omega, by omega⟩
          rw [enc3 (by omega) (by omega) hk]
          simp only [ints, List.take_succ_cons, List.take_zero, List.map_cons, List.map_nil, List.cons.injEq, and_true]
          omega
        · exact .inl ⟨rfl, rfl, by omega⟩
    rw [if_neg c3]
    by_cases c5 : b0.toNat / 8 = 30 ∧ (1 < l.length + 1 ∧ ((b0 :: l).getD 1 0).toNat / 64 = 2) ∧ (2 < l.length + 1 ∧ ((b0 :: l).getD 2 0).toNat / 64 = 2) ∧ (3 < l.length + 1 ∧ ((b0 :: l).getD 3 0).toNat / 64 = 2)
    · rw [if_pos c5]
      match l, c1, c3, c5 with
      | [], _, _, c5 => exfalso; simp at c5
      | [b1], _, _, c5 => exfalso; simp at c5
      | [b1, b2], _, _, c5 => exfalso; simp at c5
      | b1 :: b2 :: b3 :: l, _, _, c5 =>
        have h1 := b1.toNat_lt
        have h2 := b2.toNat_lt
        have h3 := b3.toNat_lt
        simp only [List.getD_cons_succ, List.getD_cons_zero, List.length_cons] at c5 ⊢
        split
        · rename_i c6
          refine .inr ⟨.inr (by omega), ?_, by omega, by omega, by omega⟩
          rw [enc4 (by omega) (by omega)]
          simp only [ints, List.take_succ_cons, List.take_zero, List.map_cons, List.map_nil, List.cons.injEq, and_true]
          omega
        · exact .inl ⟨rfl, rfl, by omega⟩
    rw [if_neg c5]
    exact .inl ⟨rfl, rfl, by omega⟩
theorem get_list (s : ByteArray) (i : Nat) : s.get! i = s.data.toList.getD i 0 := by
  cases s with
  | mk d =>
    show d[i]! = _
    by_cases h : i < d.size
    · rw [getElem!_pos d i h, List.getD_eq_getElem?_getD, Array.getElem?_toList, Array.getElem?_eq_getElem h]
      rfl
    · rw [getElem!_neg d i h, List.getD_eq_getElem?_getD, Array.getElem?_toList, Array.getElem?_eq_none (show d.size ≤ i by omega)]
      rfl
theorem dec_of (s : ByteArray) : Utf8.decode s 0 = dec s.data.toList := by
  rw [decode_at]
  unfold dec
  rw [get_list, get_list, get_list, get_list]
  rfl
/-- what Quote writes for the first rune of a text -/
def qstep (T : PrintTabs) (l : List UInt8) : List Int := if (dec l).2 = 1 ∧ (dec l).1 = 65533 then [92, 120, hexDigit ((l.getD 0 0).toNat / 16), hexDigit ((l.getD 0 0).toNat % 16)] else escRune T ((dec l).1 : Int)
theorem qstep_of (T : PrintTabs) (s : ByteArray) : quoteStep T s = qstep T s.data.toList := by
  unfold quoteStep qstep
  rw [dec_of, get_list]
theorem qstep_inj (T : PrintTabs) {a b : List UInt8} (ha : a ≠ []) (hb : b ≠ []) {X Y : List Int} (h : qstep T a ++ X = qstep T b ++ Y) : a.take (dec a).2 = b.take (dec b).2 ∧ X = Y := by
  have one : ∀ l : List UInt8, l ≠ [] → l.take 1 = [l.getD 0 0] := fun l hl => by
    cases l with
    | nil => exact absurd rfl hl
    | cons c l => rfl
  unfold qstep at h
  rcases dec_cases a ha with ⟨a1, a2, a3⟩ | ⟨a1, a2, a3, a4, a5⟩
  · rw [if_pos ⟨a2, a1⟩] at h
    rcases dec_cases b hb with ⟨b1, b2, b3⟩ | ⟨b1, b2, b3, b4, b5⟩
    · rw [if_pos ⟨b2, b1⟩] at h
      simp only [List.cons_append, List.nil_append, List.cons.injEq, true_and] at h
      have l1 := (a.getD 0 0).toNat_lt
      have l2 := (b.getD 0 0).toNat_lt
      have h1 := hd_inj (by omega) (by omega) h.1
      have h2 := hd_inj (by omega) (by omega) h.2.1
      refine ⟨?_, h.2.2⟩
      rw [a2, b2, one a ha, one b hb, UInt8.toNat_inj.1 (show (a.getD 0 0).toNat = (b.getD 0 0).toNat by omega)]
    · rw [if_neg b3] at h
      exact (bad_ne T a3 (UInt8.toNat_lt _) b1 h).elim
  · rw [if_neg a3] at h
    rcases dec_cases b hb with ⟨b1, b2, b3⟩ | ⟨b1, b2, b3, b4, b5⟩
    · rw [if_pos ⟨b2, b1⟩] at h
      exact (bad_ne T b3 (UInt8.toNat_lt _) a1 h.symm).elim
    · rw [if_neg b3] at h
      obtain ⟨e, hX⟩ := esc_inj T a1 b1 h
      refine ⟨ints_inj ?_, hX⟩
      rw [← a2, ← b2, e]
theorem qstep_head (T : PrintTabs) {a : List UInt8} (ha : a ≠ []) {X Y : List Int} (h : qstep T a ++ X = 34 :: Y) : False := by
  unfold qstep at h
  rcases dec_cases a ha with ⟨a1, a2, a3⟩ | ⟨a1, a2, a3, a4, a5⟩
  · rw [if_pos ⟨a2, a1⟩] at h
    simp at h
  · rw [if_neg a3] at h
    rcases esc_cases T a1 with ⟨g, b1, b2⟩ | ⟨y, g, b1, b2, b3, b4⟩ | ⟨g, b1, b2⟩ | ⟨g, b1, b2⟩ | ⟨g, b1, b2⟩ <;> rw [g] at h
    · rcases enc_cases a1 with ⟨a1, a2, e⟩ | ⟨a1, a2, e⟩ | ⟨a1, a2, e⟩ | ⟨a1, a2, e⟩ <;> rw [e] at h <;> simp only [List.cons_append, List.nil_append, List.cons.injEq] at h <;> omega
    all_goals simp at h
theorem dec_pos (a : List UInt8) (ha : a ≠ []) : 0 < (dec a).2 := by
  rcases dec_cases a ha with ⟨a1, a2, a3⟩ | ⟨a1, a2, a3, a4, a5⟩ <;> omega
theorem ext_drop' (x : ByteArray) (k : Nat) : (x.extract k x.size).data.toList = x.data.toList.drop k := by
  rw [Lib.extract_data]
  exact List.take_of_length_le (by rw [List.length_drop]; exact Nat.le_refl _)
theorem from_inj (T : PrintTabs) : ∀ (n : Nat) (s t : ByteArray) (f g : Nat) (X Y : List Int), s.size ≤ n → s.size ≤ f → t.size ≤ g → quoteFrom T f s ++ 34 :: X = quoteFrom T g t ++ 34 :: Y → s.data.toList = t.data.toList ∧ X = Y := by
  intro n
  induction n with
  | zero =>
    intro s t f g X Y hs hf hg h
    have es : s.data.toList = [] := List.eq_nil_of_length_eq_zero (by have : s.data.toList.length = s.size := rfl; omega)
    rw [quoteFrom_end T f s (by omega), List.nil_append] at h
    by_cases ht : 0 < t.size
    · rw [quoteFrom_step T g t ht hg, qstep_of, List.append_assoc] at h
      exact (qstep_head T (fun e => by have : t.data.toList.length = t.size := rfl; rw [e] at this; simp at this; omega) h.symm).elim
    · have et : t.data.toList = [] := List.eq_nil_of_length_eq_zero (by have : t.data.toList.length = t.size := rfl; omega)
      rw [quoteFrom_end T g t ht, List.nil_append] at h
      injection h with _ h
      exact ⟨by rw [es, et], h⟩
  | succ n ih =>
    intro s t f g X Y hs hf hg h
    by_cases h0 : 0 < s.size
    · have hsn : s.data.toList ≠ [] := fun e => by have : s.data.toList.length = s.size := rfl; rw [e] at this; simp at this; omega
      rw [quoteFrom_step T f s h0 hf, qstep_of, List.append_assoc] at h
      by_cases ht : 0 < t.size
      · have htn : t.data.toList ≠ [] := fun e => by have : t.data.toList.length = t.size := rfl; rw [e] at this; simp at this; omega
        rw [quoteFrom_step T g t ht hg, qstep_of, List.append_assoc] at h
        obtain ⟨e1, e2⟩ := qstep_inj T hsn htn h
        rw [dec_of, dec_of] at e2
        have p1 := dec_pos _ hsn
        have p2 := dec_pos _ htn
        obtain ⟨e3, e4⟩ := ih _ _ _ _ X Y (by rw [size_rest]; omega) (by rw [size_rest]; omega) (by rw [size_rest]; omega) e2
        rw [ext_drop', ext_drop'] at e3
        refine ⟨?_, e4⟩
        rw [← List.take_append_drop (dec s.data.toList).2 s.data.toList, e1, e3, List.take_append_drop]
      · rw [quoteFrom_end T g t ht, List.nil_append] at h
        exact (qstep_head T hsn h).elim
    · have es : s.data.toList = [] := List.eq_nil_of_length_eq_zero (by have : s.data.toList.length = s.size := rfl; omega)
      rw [quoteFrom_end T f s h0, List.nil_append] at h
      by_cases ht : 0 < t.size
      · rw [quoteFrom_step T g t ht hg, qstep_of, List.append_assoc] at h
        exact (qstep_head T (fun e => by have : t.data.toList.length = t.size := rfl; rw [e] at this; simp at this; omega) h.symm).elim
      · have et : t.data.toList = [] := List.eq_nil_of_length_eq_zero (by have : t.data.toList.length = t.size := rfl; omega)
        rw [quoteFrom_end T g t ht, List.nil_append] at h
        injection h with _ h
        exact ⟨by rw [es, et], h⟩
/-- texts with a like quote, whatever follows, are the same -/
theorem quote_inj (T : PrintTabs) {s t : ByteArray} {X Y : List Int} (h : quoteZ T s ++ X = quoteZ T t ++ Y) : s.data.toList = t.data.toList ∧ X = Y := by
  unfold quoteZ at h
  simp only [List.cons_append, List.append_assoc, List.nil_append, List.cons.injEq, true_and] at h
  exact from_inj T s.size s t _ _ X Y (Nat.le_refl _) (Nat.le_refl _) (Nat.le_refl _) h

end Go.Proofs.YtdapnemcdgjeeaaGreatDoor.Quo
