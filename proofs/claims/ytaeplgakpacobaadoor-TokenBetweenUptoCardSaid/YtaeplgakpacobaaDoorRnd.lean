/- Tokens that are written are read again, in plain Lean. -/
import Derived.Test.YtaeplgakpacobaaDoorPlain
set_option maxRecDepth 100000
set_option linter.unusedVariables false
set_option linter.unusedSimpArgs false
namespace Go.Proofs.YtaeplgakpacobaaDoor.Tok

/-- what comes behind a token: nothing, or a blank -/
def Rest (r : List UInt8) : Prop := ∀ c, r.head? = some c → blank c = true

theorem drop_lt {l u : List UInt8} {i : Nat} {c : UInt8} (h : l.drop i = c :: u) : i < l.length ∧ l[i]? = some c ∧ l.drop (i + 1) = u := by
  have hi : i < l.length := by
    rcases Nat.lt_or_ge i l.length with h' | h'
    · exact h'
    · rw [List.drop_of_length_le h'] at h; cases h
  rw [drop_at hi] at h
  injection h with h1 h2
  exact ⟨hi, by rw [List.getElem?_eq_getElem hi, h1], h2⟩
theorem drop_get {l u : List UInt8} {i : Nat} {c : UInt8} (h : l.drop i = c :: u) : ∃ hi : i < l.length, l[i] = c := by
  obtain ⟨h1, h2, _⟩ := drop_lt h
  exact ⟨h1, by rw [List.getElem?_eq_getElem h1] at h2; exact Option.some.inj h2⟩
theorem getD_drop {l u : List UInt8} {i : Nat} {c : UInt8} (h : l.drop i = c :: u) : l.getD i 0 = c := by
  obtain ⟨hi, e⟩ := drop_get h
  rw [getD_at hi, e]
theorem drop_add {l u r : List UInt8} {i : Nat} (h : l.drop i = u ++ r) : l.drop (i + u.length) = r := by
  rw [← List.drop_drop, h, List.drop_left]
theorem drop_nil_len {l : List UInt8} {i : Nat} (h : l.drop i = []) : l.length ≤ i := by
  have := congrArg List.length h
  simp at this; omega

theorem blank_not {c : UInt8} (h : blank c = true) : c.toNat ≠ 39 ∧ word c = false ∧ digit c = false ∧ c.toNat ≠ 45 ∧ c.toNat ≠ 61 ∧ c.toNat ≠ 62 ∧ c.toNat ≠ 124 := by
  simp [blank] at h
  simp [word, letter, digit]; omega

theorem runEnd_row {p : UInt8 → Bool} {l u r : List UInt8} {i : Nat} (h : l.drop i = u ++ r) (hu : ∀ c ∈ u, p c = true) (hr : ∀ c, r.head? = some c → p c = false) : runEnd p l i = i + u.length := by
  induction u generalizing i with
  | nil =>
    simp only [List.nil_append] at h
    cases r with
    | nil => rw [runEnd_end (drop_nil_len h)]; rfl
    | cons c r =>
      obtain ⟨hi, e⟩ := drop_get h
      rw [runEnd_stop hi (by rw [e]; exact hr c rfl)]; rfl
  | cons c u ih =>
    obtain ⟨hi, e⟩ := drop_get h
    rw [← runEnd_step hi (by rw [e]; exact hu c (by simp)), ih (drop_lt h).2.2 (fun d hd => hu d (by simp [hd]))]
    simp; omega
theorem runEnd_all {p : UInt8 → Bool} {t : List UInt8} {i : Nat} (hi : i ≤ t.length) (h : runEnd p t i = t.length) : ∀ c ∈ t.drop i, p c = true := by
  induction hn : t.length - i generalizing i with
  | zero => rw [List.drop_of_length_le (by omega)]; simp
  | succ n ih =>
    have hlt : i < t.length := by omega
    cases hp : p t[i] with
    | false => rw [runEnd_stop hlt hp] at h; omega
    | true =>
      rw [← runEnd_step hlt hp] at h
      rw [drop_at hlt]
      intro c hc
      rcases List.mem_cons.1 hc with rfl | hc
      · exact hp
      · exact ih (by omega) h (by omega) c hc

theorem quoted_row {l t r : List UInt8} {i : Nat} (acc : List UInt8) (h : l.drop i = dbl t ++ 39 :: r) (hr : Rest r) : quoted l i acc = (acc ++ t, i + (dbl t).length + 1, true) := by
  induction t generalizing i acc with
  | nil =>
    simp only [dbl, List.nil_append] at h
    obtain ⟨hi, e⟩ := drop_get h
    have h' := (drop_lt h).2.2
    have hc : l[i].toNat = 39 := by rw [e]; rfl
    cases r with
    | nil =>
      have := drop_nil_len h'
      rw [quoted_last hi hc (by omega)]; simp [dbl]
    | cons d r =>
      obtain ⟨hi', e'⟩ := drop_get h'
      rw [quoted_close hi' hc (by rw [e']; exact (blank_not (hr d rfl)).1)]; simp [dbl]
  | cons c t ih =>
    by_cases hc : c.toNat = 39
    · rw [dbl_quote t hc] at h ⊢
      obtain ⟨hi, e⟩ := drop_get h
      have h' := (drop_lt h).2.2
      obtain ⟨hi', e'⟩ := drop_get h'
      rw [← quoted_pair hi' (by rw [e]; rfl) (by rw [e']; rfl), ih _ (drop_lt h').2.2, e']
      have : c = 39 := UInt8.toNat_inj.1 hc
      subst this
      simp; omega
    · rw [dbl_byte t hc] at h ⊢
      obtain ⟨hi, e⟩ := drop_get h
      rw [← quoted_byte hi (by rw [e]; exact hc), ih _ (drop_lt h).2.2, e]
      simp; omega

theorem toNat_div (c : UInt8) : c.toNat / 16 < 16 ∧ c.toNat % 16 < 16 := by have := c.toNat_lt; omega
theorem index_hexs (t r : List UInt8) : Lib.indexByte (hexs t ++ 39 :: r) 39 = ((2 * t.length : Nat) : Int) := by
  induction t with
  | nil => simp [hexs, Lib.indexByte]
  | cons c t ih =>
    have h1 := (dig_hex (toNat_div c).1).2
    have h2 := (dig_hex (toNat_div c).2).2
    have n1 : ¬ dig (c.toNat / 16) = 39 := fun h => h1 (by rw [h]; rfl)
    have n2 : ¬ dig (c.toNat % 16) = 39 := fun h => h2 (by rw [h]; rfl)
    simp only [hexs, List.cons_append, Lib.indexByte, beq_iff_eq, n1, n2, if_false, ih, List.length_cons]
    have a1 : ¬ (((2 * t.length : Nat) : Int) = -1) := by omega
    have a2 : ¬ (((2 * t.length : Nat) : Int) + 1 = -1) := by omega
    simp only [a1, a2, if_false]
    omega
theorem pairs_row {l t r : List UInt8} {i : Nat} (acc : List UInt8) (h : l.drop i = hexs t ++ r) : pairs l i (i + 2 * t.length) acc = some (acc ++ t) := by
  induction t generalizing i acc with
  | nil => rw [pairs_end (by simp)]; simp
  | cons c t ih =>
    simp only [hexs, List.cons_append] at h
    have h' := (drop_lt h).2.2
    have e1 := (dig_hex (toNat_div c).1).1
    have e2 := (dig_hex (toNat_div c).2).1
    have g1 := getD_drop h
    have g2 := getD_drop h'
    have e : i + 2 * (c :: t).length = i + 2 + 2 * t.length := by simp; omega
    rw [e, ← pairs_step (by omega) (by rw [g1, e1]; omega) (by rw [g2, e2]; omega), ih _ (drop_lt h').2.2, g1, g2, e1, e2]
    have hx : UInt8.ofNat (((c.toNat / 16 : Nat) : Int).toNat * 16 + ((c.toNat % 16 : Nat) : Int).toNat) = c := by
      rw [Int.toNat_natCast, Int.toNat_natCast, show c.toNat / 16 * 16 + c.toNat % 16 = c.toNat by omega]
      exact UInt8.ofNat_toNat
    rw [hx]
    simp
theorem blob_row {l t r : List UInt8} {i : Nat} (h : l.drop (i + 1) = hexs t ++ 39 :: r) : blob l i = (t, i + 2 * t.length + 2, true) := by
  have hx : Lib.indexByte (l.drop (i + 1)) 39 = ((2 * t.length : Nat) : Int) := by rw [h, index_hexs]
  rw [blob_some (b := t) (by rw [hx]; omega) (by rw [hx, Int.toNat_natCast, pairs_row [] h]; rfl), hx, Int.toNat_natCast]

/-- a token that is written is read again, whatever lies ahead; behind it a blank or nothing -/
theorem one_row {l t x r : List UInt8} {i : Nat} {k : Int} (hw : written k t = some x) (h : l.drop i = x ++ r) (hr : Rest r) :
    ∃ n : Nat, k = n ∧ one l i = (⟨n, i, t⟩, i + x.length, true) := by
  by_cases k3 : k = 3
  · subst k3
    rw [written_text] at hw; cases hw
    simp only [List.cons_append, List.append_assoc, List.nil_append] at h
    refine ⟨3, rfl, ?_⟩
    rw [one, if_pos (by rw [getD_drop h]; rfl), quoted_row [] (drop_lt h).2.2 hr]
    simp; omega
  by_cases k4 : k = 4
  · subst k4
    rw [written_blob] at hw; cases hw
    simp only [List.cons_append, List.append_assoc, List.nil_append] at h
    have h' := (drop_lt h).2.2
    refine ⟨4, rfl, ?_⟩
    rw [one, if_neg (by rw [getD_drop h]; decide), if_pos ⟨.inl (by rw [getD_drop h]; rfl), (drop_lt h').1, by rw [getD_drop h']; rfl⟩, blob_row (drop_lt h').2.2]
    simp [hexs_len]; omega
  by_cases k5 : k = 5
  · subst k5
    rw [written_param] at hw
    split at hw
    · rename_i hd
      cases hw
      simp only [List.cons_append] at h
      refine ⟨5, rfl, ?_⟩
      have hrun : runEnd digit l (i + 1) = i + 1 + t.length := by
        refine runEnd_row (drop_lt h).2.2 (by simpa using runEnd_all (Nat.zero_le _) hd) (fun c hc => (blank_not (hr c hc)).2.2.1)
      rw [one, if_neg (by rw [getD_drop h]; decide), if_neg (by rintro ⟨hb, _⟩; rw [getD_drop h] at hb; revert hb; decide), if_pos (by rw [getD_drop h]; rfl), hrun]
      have hc : cut l (i + 1) (i + 1 + t.length) = t := by
        rw [cut, (drop_lt h).2.2, show i + 1 + t.length - (i + 1) = t.length by omega, List.take_left]
      rw [hc]
      simp; omega
    · cases hw
  by_cases ka : k = 1 ∨ k = 2 ∨ k = 6
  · rw [written_as t ka] at hw
    split at hw
    · rename_i hd
      cases hw
      obtain ⟨hne, ho, hend, hk⟩ := hd
      have hcut : cut l i (i + t.length) = t := by rw [cut, h, show i + t.length - i = t.length by omega, List.take_left]
      cases t with
      | nil => exact absurd rfl hne
      | cons c u =>
      have g0 : (c :: u).getD 0 0 = c := rfl
      have gl : l.getD i 0 = c := getD_drop h
      have h' : l.drop (i + 1) = u ++ r := (drop_lt h).2.2
      have hb : isBlob l i → isBlob (c :: u) 0 := by
        rintro ⟨b1, b2, b3⟩
        rw [gl] at b1
        cases u with
        | nil =>
          cases r with
          | nil => have := drop_nil_len h'; omega
          | cons d r => rw [getD_drop h'] at b3; exact absurd b3 (blank_not (hr d rfl)).1
        | cons d u => rw [getD_drop h'] at b3; exact ⟨b1, by simp, b3⟩
      have nb : ¬ isBlob l i := by
        intro hb'
        have hb0 := hb hb'
        rw [one, if_neg (by rw [g0]; have := hb0.1; rw [g0] at this; omega), if_pos hb0] at hk
        simp only at hk; omega
      have n39 : c.toNat ≠ 39 := by
        intro hc
        rw [one, if_pos (by rw [g0]; exact hc)] at hk
        simp only at hk; omega
      have nb0 : ¬ isBlob (c :: u) 0 := by
        intro hb0
        rw [one, if_neg (by rw [g0]; exact n39), if_pos hb0] at hk
        simp only at hk; omega
      have n63 : c.toNat ≠ 63 := by
        intro hc
        rw [one, if_neg (by rw [g0]; exact n39), if_neg nb0, if_pos (by rw [g0]; exact hc)] at hk
        simp only at hk; omega
      rw [one, if_neg (by rw [g0]; exact n39), if_neg nb0, if_neg (by rw [g0]; exact n63)] at ho hend hk
      rw [one, if_neg (by rw [gl]; exact n39), if_neg nb, if_neg (by rw [gl]; exact n63)]
      rw [g0] at ho hend hk
      rw [gl]
      by_cases hl : letter c = true
      · rw [if_pos hl] at hend hk ⊢
        simp only at hend hk
        have hrun : runEnd word l i = i + (c :: u).length := runEnd_row h (by simpa using runEnd_all (Nat.zero_le _) hend) (fun d hd => (blank_not (hr d hd)).2.1)
        refine ⟨1, by omega, ?_⟩
        rw [hrun, hcut]; simp
      · rw [if_neg hl] at ho hend hk ⊢
        by_cases hd : digit c = true
        · rw [if_pos hd] at hend hk ⊢
          simp only at hend hk
          have hrun : runEnd digit l i = i + (c :: u).length := runEnd_row h (by simpa using runEnd_all (Nat.zero_le _) hend) (fun d hd => (blank_not (hr d hd)).2.2.1)
          refine ⟨2, by omega, ?_⟩
          rw [hrun, hcut]; simp
        · rw [if_neg hd] at ho hend hk ⊢
          simp only at ho hend hk
          have hs : sign l i = (c :: u).length := by
            rw [Nat.zero_add] at hend
            cases u with
            | nil =>
              have hs0 : single c = true := by
                unfold sign at hend
                rw [if_neg (by simp), g0] at hend
                cases hsc : single c with
                | true => rfl
                | false => rw [hsc] at hend; simp at hend
              refine sign_one ?_ (by rw [gl]; exact hs0)
              rintro ⟨p1, p2⟩
              cases r with
              | nil => have := drop_nil_len h'; omega
              | cons d r =>
                rw [gl, getD_drop h'] at p2
                have hbn := blank_not (hr d rfl)
                simp only [pair, decide_eq_true_eq, List.mem_cons, List.cons.injEq, and_true, List.not_mem_nil, or_false] at p2
                rcases p2 with p | p | p | p | p | p <;> (rw [p.2] at hbn; revert hbn; decide)
            | cons d u =>
              have g1 : (c :: d :: u).getD 1 0 = d := rfl
              have gl1 : l.getD (i + 1) 0 = d := getD_drop h'
              unfold sign at hend
              split at hend
              · rename_i hp
                rw [g0, Nat.zero_add, g1] at hp
                rw [sign_two (by have := (drop_lt h').1; exact this) (by rw [gl, gl1]; exact hp.2)]
                exact hend
              · split at hend <;> simp at hend
          refine ⟨6, by omega, ?_⟩
          rw [hs, hcut]; simp
    · cases hw
  · rw [written, if_neg k3, if_neg k4, if_neg k5, if_neg ka] at hw
    cases hw

/-- a token's text begins with no blank, and with no remark -/
theorem start_row {l t x r : List UInt8} {i : Nat} {k : Int} (hw : written k t = some x) (h : l.drop i = x ++ r) (hr : Rest r) : i < l.length ∧ skip l i = i := by
  have hx : x ≠ [] := by
    rintro rfl
    unfold written at hw
    split at hw
    · cases hw
    · split at hw
      · cases hw
      · split at hw
        · split at hw <;> cases hw
        · split at hw
          · split at hw
            · rename_i hd; cases hw; exact hd.1 rfl
            · cases hw
          · cases hw
  obtain ⟨n, hk, ho⟩ := one_row hw h hr
  cases x with
  | nil => exact absurd rfl hx
  | cons c u =>
  obtain ⟨hi, e⟩ := drop_get h
  refine ⟨hi, ?_⟩
  have gl : l.getD i 0 = c := getD_drop h
  have h' : l.drop (i + 1) = u ++ r := (drop_lt h).2.2
  have hnb : blank c = false := by
    cases hb : blank c with
    | false => rfl
    | true =>
      exfalso
      have b0 : c.toNat = 32 ∨ c.toNat = 9 ∨ c.toNat = 10 ∨ c.toNat = 13 := by simpa [blank] using hb
      have hlt : letter c = false := by simp [letter]; omega
      have hdg : digit c = false := by simp [digit]; omega
      rw [one_other (by rw [gl]; omega) (fun hbb => by have := hbb.1; rw [gl] at this; omega) (by rw [gl]; omega) (by rw [gl]; exact hlt) (by rw [gl]; exact hdg)] at ho
      have hs : sign l i = 0 := by
        refine sign_none ?_ ?_
        · rintro ⟨_, p2⟩
          rw [gl] at p2
          simp only [pair, decide_eq_true_eq, List.mem_cons, List.cons.injEq, and_true, List.not_mem_nil, or_false] at p2
          rcases p2 with p | p | p | p | p | p <;> (have q := p.1; rw [q] at b0; revert b0; decide)
        · rw [gl]
          have hc : c = 32 ∨ c = 9 ∨ c = 10 ∨ c = 13 := by
            rcases b0 with b | b | b | b
            · exact .inl (UInt8.toNat_inj.1 b)
            · exact .inr (.inl (UInt8.toNat_inj.1 b))
            · exact .inr (.inr (.inl (UInt8.toNat_inj.1 b)))
            · exact .inr (.inr (.inr (UInt8.toNat_inj.1 b)))
          rcases hc with rfl | rfl | rfl | rfl <;> decide
      rw [hs] at ho
      simp at ho
  refine skip_here hi (by rw [e]; exact hnb) ?_
  rw [dash hi]
  refine decide_eq_false ?_
  rintro ⟨d1, d2, d3⟩
  rw [e] at d1
  have hc : c = 45 := UInt8.toNat_inj.1 d1
  subst hc
  rw [one_other (by rw [gl]; decide) (fun hbb => by have := hbb.1; rw [gl] at this; revert this; decide) (by rw [gl]; decide) (by rw [gl]; decide) (by rw [gl]; decide)] at ho
  have hs1 : sign l i ≤ 1 := by
    unfold sign
    split
    · rename_i hp
      have p2 := hp.2
      rw [gl] at p2
      simp only [pair, decide_eq_true_eq, List.mem_cons, List.cons.injEq, and_true, List.not_mem_nil, or_false] at p2
      rcases p2 with p | p | p | p | p | p <;> (have q := p.1; revert q; decide)
    · split <;> omega
  have hlen := congrArg (fun q => q.2.1) ho
  simp only [List.length_cons] at hlen
  have hu : u = [] := by
    cases u with
    | nil => rfl
    | cons _ _ => simp at hlen; omega
  subst hu
  cases r with
  | nil => have := drop_nil_len h'; omega
  | cons d r => rw [getD_drop h'] at d3; exact absurd d3 (blank_not (hr d rfl)).2.2.2.1

theorem toks_skip {l : List UInt8} {i j : Nat} (h : skip l i = skip l j) : toks l i = toks l j := by
  rw [toks.eq_def l i, toks.eq_def l j, h]

/-- tokens that are written are read again, with a line's end or nothing behind them -/
theorem toks_row {l r : List UInt8} (hr : r = [] ∨ r = [10]) : ∀ (gs : List G) (ws : List (List UInt8)) (i : Nat), wall gs = some ws → l.drop i = Lib.join ws [32] ++ r →
    (toks l i).2 = none ∧ (toks l i).1.map (fun y => (y.1.kind, y.1.text)) = gs.map (fun g => (g.kind.toNat, g.text)) ∧ ∀ g ∈ gs, 0 ≤ g.kind := by
  have hend : ∀ i, l.drop i = r → toks l i = ([], none) := by
    intro i h
    rcases hr with rfl | rfl
    · have := drop_nil_len h
      exact toks_end (by rw [skip_end this]; exact this)
    · obtain ⟨hi, e⟩ := drop_get h
      have h' := drop_nil_len (drop_lt h).2.2
      refine toks_end ?_
      rw [← skip_blank hi (by rw [e]; decide), skip_end h']
      exact h'
  intro gs
  induction gs with
  | nil =>
    intro ws i hw h
    cases hw
    rw [Lib.join_nil, List.nil_append] at h
    rw [hend i h]
    exact ⟨rfl, rfl, by simp⟩
  | cons g gs ih =>
    intro ws i hw h
    obtain ⟨w, ws', h1, h2, rfl⟩ := wall_cons_inv hw
    rw [Lib.join_cons, List.append_assoc] at h
    have hrest : Rest (Lib.joinTail [32] ws' ++ r) := by
      intro c hc
      cases ws' with
      | nil =>
        simp only [Lib.joinTail, List.map_nil, List.flatten_nil, List.nil_append] at hc
        rcases hr with rfl | rfl
        · cases hc
        · simp at hc; subst hc; decide
      | cons w' ws' => simp [Lib.joinTail] at hc; subst hc; decide
    obtain ⟨n, hk, ho⟩ := one_row h1 h hrest
    obtain ⟨hi, hs⟩ := start_row h1 h hrest
    have hd := drop_add h
    have hnext : toks l (i + w.length) = ([], none) ∧ ws' = [] ∨ (ws' ≠ [] ∧ toks l (i + w.length) = toks l (i + w.length + 1) ∧ l.drop (i + w.length + 1) = Lib.join ws' [32] ++ r) := by
      cases ws' with
      | nil => exact .inl ⟨hend _ (by simpa [Lib.joinTail] using hd), rfl⟩
      | cons w' ws' =>
        have e : Lib.joinTail [32] (w' :: ws') ++ r = 32 :: (Lib.join (w' :: ws') [32] ++ r) := by rw [Lib.join_cons]; simp [Lib.joinTail]
        rw [e] at hd
        obtain ⟨hi', e'⟩ := drop_get hd
        exact .inr ⟨by simp, toks_skip (skip_blank hi' (by rw [e']; decide)).symm, (drop_lt hd).2.2⟩
    rw [toks_step (by rw [hs]; exact hi) (by rw [hs, ho]), hs, ho]
    simp only
    rcases hnext with ⟨h3, h4⟩ | ⟨h3, h4, h5⟩
    · subst h4
      have hg : gs = [] := by
        have := wall_len h2
        cases gs with
        | nil => rfl
        | cons _ _ => simp at this
      subst hg
      rw [h3]
      refine ⟨rfl, ?_, ?_⟩
      · simp [hk]
      · intro g' hg'; simp at hg'; subst hg'; omega
    · obtain ⟨q1, q2, q3⟩ := ih ws' (i + w.length + 1) h2 h5
      rw [h4]
      refine ⟨q1, ?_, ?_⟩
      · simp [hk, q2]
      · intro g' hg'
        rcases List.mem_cons.1 hg' with rfl | hg'
        · omega
        · exact q3 g' hg'

end Go.Proofs.YtaeplgakpacobaaDoor.Tok
