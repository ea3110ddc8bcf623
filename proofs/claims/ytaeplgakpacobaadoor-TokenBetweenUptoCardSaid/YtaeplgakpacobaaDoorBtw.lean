/- What lies between tokens changes nothing, in plain Lean: text behind a fault; tokens of a text may be written. -/
import Derived.Test.YtaeplgakpacobaaDoorRnd
set_option maxRecDepth 100000
set_option linter.unusedVariables false
set_option linter.unusedSimpArgs false
namespace Go.Proofs.YtaeplgakpacobaaDoor.Tok

theorem run_all (p : UInt8 → Bool) (l : List UInt8) (i : Nat) : ∀ c ∈ cut l i (runEnd p l i), p c = true := by
  induction hn : l.length - i generalizing i with
  | zero => rw [runEnd_end (by omega), cut_nil (Nat.le_refl _)]; simp
  | succ n ih =>
    have hlt : i < l.length := by omega
    cases hp : p l[i] with
    | false => rw [runEnd_stop hlt hp, cut_nil (Nat.le_refl _)]; simp
    | true =>
      have hle := runEnd_le p l (i + 1) (by omega)
      rw [← runEnd_step hlt hp, cut_cons (by omega) hlt]
      intro c hc
      rcases List.mem_cons.1 hc with rfl | hc
      · exact hp
      · exact ih (i + 1) (by omega) c hc
theorem run_cut (p : UInt8 → Bool) (u : List UInt8) (h : ∀ c ∈ u, p c = true) : runEnd p u 0 = u.length := by
  have := runEnd_row (p := p) (l := u) (u := u) (r := []) (i := 0) (by simp) h (by simp)
  omega

/-- a token that is found may be written -/
theorem one_written {l : List UInt8} {i : Nat} (hi : i < l.length) (ho : (one l i).2.2 = true) : ∃ x, written ((one l i).1.kind : Int) (one l i).1.text = some x := by
  by_cases h1 : (l.getD i 0).toNat = 39
  · rw [one, if_pos h1]; exact ⟨_, written_text _⟩
  by_cases h2 : isBlob l i
  · rw [one, if_neg h1, if_pos h2]; exact ⟨_, written_blob _⟩
  by_cases h3 : (l.getD i 0).toNat = 63
  · rw [one, if_neg h1, if_neg h2, if_pos h3]
    refine ⟨63 :: cut l (i + 1) (runEnd digit l (i + 1)), ?_⟩
    simp only
    rw [show ((5 : Nat) : Int) = 5 from rfl, written_param, if_pos (run_cut _ _ (run_all _ _ _))]
  have key : ∀ (p : UInt8 → Bool) (k : Nat), p l[i] = true → (∀ c : UInt8, p c = true → c.toNat ≠ 39) → (k = 1 ∨ k = 2) →
      (∀ u : List UInt8, u.getD 0 0 = l[i] → u ≠ [] → ¬ isBlob u 0 → one u 0 = (⟨k, 0, cut u 0 (runEnd p u 0)⟩, runEnd p u 0, decide (0 < runEnd p u 0))) →
      ∃ x, written (k : Int) (cut l i (runEnd p l i)) = some x := by
    intro p k hp hq hk hone
    have hall := run_all p l i
    have hle := runEnd_le p l (i + 1) (by omega)
    rw [runEnd_step hi hp] at hle
    have hc := cut_cons (l := l) (i := i) (e := runEnd p l i) (by omega) hi
    have hrun := run_cut p _ hall
    refine ⟨cut l i (runEnd p l i), ?_⟩
    rw [written_as _ (by omega), if_pos]
    have hne : cut l i (runEnd p l i) ≠ [] := by rw [hc]; simp
    have hpos : 0 < (cut l i (runEnd p l i)).length := by rw [hc]; simp
    have hb : ¬ isBlob (cut l i (runEnd p l i)) 0 := by
      rintro ⟨_, b2, b3⟩
      rw [getD_at b2] at b3
      exact hq _ (hall _ (List.getElem_mem b2)) b3
    have := hone _ (by rw [hc]; rfl) hne hb
    rw [this]
    refine ⟨hne, ?_, hrun, rfl⟩
    simp only [decide_eq_true_eq]; omega
  by_cases h4 : letter (l.getD i 0) = true
  · rw [one, if_neg h1, if_neg h2, if_neg h3, if_pos h4]
    have g := getD_at hi
    refine key word 1 (by rw [← g, word, h4]; rfl) (fun c hc => ?_) (.inl rfl) (fun u hu _ hb => ?_)
    · rw [word, Bool.or_eq_true] at hc
      rcases hc with hc | hc
      · exact (letter_not hc).1
      · exact (digit_not hc).1
    · rw [one, if_neg (by rw [hu, ← g]; exact h1), if_neg hb, if_neg (by rw [hu, ← g]; exact h3), if_pos (by rw [hu, ← g]; exact h4)]
  by_cases h5 : digit (l.getD i 0) = true
  · rw [one, if_neg h1, if_neg h2, if_neg h3, if_neg h4, if_pos h5]
    have g := getD_at hi
    refine key digit 2 (by rw [← g]; exact h5) (fun c hc => (digit_not hc).1) (.inr rfl) (fun u hu _ hb => ?_)
    rw [one, if_neg (by rw [hu, ← g]; exact h1), if_neg hb, if_neg (by rw [hu, ← g]; exact h3), if_neg (by rw [hu, ← g]; exact h4), if_pos (by rw [hu, ← g]; exact h5)]
  · rw [one, if_neg h1, if_neg h2, if_neg h3, if_neg h4, if_neg h5] at ho ⊢
    simp only [decide_eq_true_eq] at ho
    simp only
    have hsl := sign_le l i hi
    have h4' : letter (l.getD i 0) = false := by simpa using h4
    have h5' : digit (l.getD i 0) = false := by simpa using h5
    refine ⟨cut l i (i + sign l i), ?_⟩
    rw [written_as _ (by omega), if_pos]
    have hlen : (cut l i (i + sign l i)).length = sign l i := by rw [cut_len hsl]; omega
    have hc := cut_cons (l := l) (i := i) (e := i + sign l i) (by omega) hi
    have g : (cut l i (i + sign l i)).getD 0 0 = l.getD i 0 := by rw [hc, getD_at hi]; rfl
    have hne : cut l i (i + sign l i) ≠ [] := by rw [hc]; simp
    have hb : ¬ isBlob (cut l i (i + sign l i)) 0 := by
      rintro ⟨b1, _, _⟩
      rw [g] at b1
      have : letter (l.getD i 0) = true := decide_eq_true (by omega)
      rw [h4'] at this; cases this
    have hsg : sign (cut l i (i + sign l i)) 0 = sign l i := by
      by_cases hp : i + 1 < l.length ∧ pair (l.getD i 0) (l.getD (i + 1) 0) = true
      · obtain ⟨hp1, hp2⟩ := hp
        have hs2 := sign_two hp1 hp2
        have g1 : (cut l i (i + sign l i)).getD (0 + 1) 0 = l.getD (i + 1) 0 := by
          rw [hc, hs2, cut_cons (by omega) hp1, getD_at hp1]; rfl
        rw [sign_two (by omega) (by rw [g, g1]; exact hp2), hs2]
      · cases hsg : single (l.getD i 0) with
        | false => rw [sign_none hp hsg] at ho; omega
        | true =>
          have hs1 := sign_one hp hsg
          rw [sign_one (by rintro ⟨q1, _⟩; omega) (by rw [g]; exact hsg), hs1]
    rw [one_other (by rw [g]; exact h1) hb (by rw [g]; exact h3) (by rw [g]; exact h4') (by rw [g]; exact h5'), hsg]
    refine ⟨hne, ?_, ?_, rfl⟩
    · simp only [decide_eq_true_eq]; omega
    · simp only; omega

/-- the tokens of a text, each found somewhere, one behind the other -/
theorem toks_found (l : List UInt8) (i : Nat) : ∀ (k : Nat) (y : T × Nat), (toks l i).1[k]? = some y → ∃ j, i ≤ j ∧ j < l.length ∧ (one l j).2.2 = true ∧ y = ((one l j).1, (one l j).2.1) := by
  induction hn : l.length - i using Nat.strongRecOn generalizing i with
  | _ n ih =>
    intro k y hy
    have hge := skip_ge l i
    by_cases h : skip l i < l.length
    · cases ho : (one l (skip l i)).2.2 with
      | false => rw [toks_bad h ho] at hy; simp at hy
      | true =>
        have he := one_end l _ h ho
        rw [toks_step h ho] at hy
        cases k with
        | zero => simp at hy; exact ⟨skip l i, hge, h, ho, hy.symm⟩
        | succ k =>
          simp at hy
          obtain ⟨j, h1, h2, h3, h4⟩ := ih _ (by omega) _ rfl k y hy
          exact ⟨j, by omega, h2, h3, h4⟩
    · rw [toks_end (by omega)] at hy; simp at hy
theorem toks_places (l : List UInt8) (i : Nat) : ∀ (k : Nat) (y z : T × Nat), (toks l i).1[k]? = some y → (toks l i).1[k + 1]? = some z → y.1.at_ < z.1.at_ := by
  induction hn : l.length - i using Nat.strongRecOn generalizing i with
  | _ n ih =>
    intro k y z hy hz
    have hge := skip_ge l i
    by_cases h : skip l i < l.length
    · cases ho : (one l (skip l i)).2.2 with
      | false => rw [toks_bad h ho] at hy; simp at hy
      | true =>
        have he := one_end l _ h ho
        rw [toks_step h ho] at hy hz
        cases k with
        | zero =>
          simp at hy hz
          obtain ⟨j, h1, h2, h3, h4⟩ := toks_found l _ 0 z (by simpa using hz)
          rw [← hy, h4]
          simp only
          rw [(one_rtext h ho).2.2.2, (one_rtext h2 h3).2.2.2]
          omega
        | succ k =>
          simp at hy hz
          exact ih _ (by omega) _ rfl k y z hy hz
    · rw [toks_end (by omega)] at hy; simp at hy
theorem toks_ge {l : List UInt8} {i b : Nat} (h : (toks l i).2 = some b) : i ≤ b := by
  induction hn : l.length - i using Nat.strongRecOn generalizing i with
  | _ n ih =>
    have hge := skip_ge l i
    by_cases hs : skip l i < l.length
    · cases ho : (one l (skip l i)).2.2 with
      | false => rw [toks_bad hs ho] at h; cases h; exact hge
      | true =>
        have he := one_end l _ hs ho
        rw [toks_step hs ho] at h
        have := ih _ (by omega) h rfl
        omega
    · rw [toks_end (by omega)] at h; cases h

def toG (t : T) : G := ⟨t.kind, t.at_, t.text⟩
theorem wall_of {gs : List G} (h : ∀ g ∈ gs, ∃ x, written g.kind g.text = some x) : ∃ ws, wall gs = some ws := by
  induction gs with
  | nil => exact ⟨[], rfl⟩
  | cons g r ih =>
    obtain ⟨w, hw⟩ := h g (by simp)
    obtain ⟨ws, hws⟩ := ih (fun g hg => h g (by simp [hg]))
    exact ⟨w :: ws, wall_cons hw hws⟩
theorem toks_wall (l : List UInt8) (i : Nat) : ∃ ws, wall ((toks l i).1.map (fun y => toG y.1)) = some ws := by
  refine wall_of fun g hg => ?_
  obtain ⟨y, hy, rfl⟩ := List.mem_map.1 hg
  obtain ⟨k, hk, rfl⟩ := List.mem_iff_getElem.1 hy
  obtain ⟨j, _, h2, h3, h4⟩ := toks_found l i k _ (List.getElem?_eq_getElem hk)
  rw [h4]
  exact one_written h2 h3

/-- a remark ahead and a line's end behind -/
theorem between_ok (t : List UInt8) (gs : List G) (ws : List (List UInt8)) (hw : wall gs = some ws) :
    (toks ([32, 45, 45, 10] ++ Lib.join ws [32] ++ [10]) 0).2 = none ∧ (toks ([32, 45, 45, 10] ++ Lib.join ws [32] ++ [10]) 0).1.map (fun y => (y.1.kind, y.1.text)) = gs.map (fun g => (g.kind.toNat, g.text)) ∧ ∀ g ∈ gs, 0 ≤ g.kind := by
  obtain ⟨L, hL⟩ : ∃ L, [32, 45, 45, 10] ++ Lib.join ws [32] ++ [10] = L := ⟨_, rfl⟩
  have h0 : L.drop 0 = 32 :: 45 :: 45 :: 10 :: (Lib.join ws [32] ++ [10]) := by rw [← hL]; simp
  have h1 := (drop_lt h0).2.2
  have h4 : L.drop 4 = Lib.join ws [32] ++ [10] := by rw [← hL]; simp
  obtain ⟨i0, e0⟩ := drop_get h0
  obtain ⟨i1, e1⟩ := drop_get h1
  have hs : skip L 0 = skip L 4 := by
    rw [← skip_blank i0 (by rw [e0]; decide)]
    have hx : Lib.indexByte (L.drop (0 + 1)) 10 = 2 := by rw [h1]; simp [Lib.indexByte]
    rw [← skip_line i1 (by rw [e1]; decide) (by rw [h1]; simp [Lib.hasPrefix, List.isPrefixOf]) (by rw [hx]; decide), hx]
    rfl
  rw [hL, toks_skip hs]
  exact toks_row (.inr rfl) gs ws 4 hw h4

theorem indexByte_ext {a : List UInt8} {c : UInt8} (b : List UInt8) (h : 0 ≤ Lib.indexByte a c) : Lib.indexByte (a ++ b) c = Lib.indexByte a c := by
  induction a with
  | nil => simp [Lib.indexByte] at h
  | cons d a ih =>
    by_cases hd : d = c
    · simp [Lib.indexByte, hd]
    · simp only [List.cons_append, Lib.indexByte, beq_iff_eq, hd, if_false] at h ⊢
      by_cases h1 : Lib.indexByte a c = -1
      · simp [h1] at h
      · have := indexByte_ge' a c
        rw [ih (by omega)]

section
variable {s x : List UInt8}
theorem ext_get {i : Nat} (h : i < s.length) : (s ++ x).getD i 0 = s.getD i 0 := by
  rw [List.getD_eq_getElem?_getD, List.getD_eq_getElem?_getD, List.getElem?_append_left h]
theorem ext_at {i : Nat} (h : i < s.length) : ∃ h' : i < (s ++ x).length, (s ++ x)[i] = s[i] := ⟨by simp; omega, List.getElem_append_left h⟩
theorem ext_drop {i : Nat} (h : i ≤ s.length) : (s ++ x).drop i = s.drop i ++ x := List.drop_append_of_le_length h
theorem ext_nl (hx : x.head? = some 10) : (s ++ x).getD s.length 0 = 10 ∧ s.length < (s ++ x).length := by
  cases x with
  | nil => cases hx
  | cons c x =>
    have : c = 10 := by simpa using hx
    subst this
    refine ⟨?_, by simp⟩
    rw [List.getD_eq_getElem?_getD, List.getElem?_append_right (Nat.le_refl _)]
    simp
theorem ext_cut {i e : Nat} (h : e ≤ s.length) : cut (s ++ x) i e = cut s i e := by
  rcases Nat.le_total e i with hi | hi
  · rw [cut_nil hi, cut_nil hi]
  · rw [cut, cut, ext_drop (by omega), List.take_append_of_le_length (by simp; omega)]

theorem skip_ext (hx : x.head? = some 10) {i : Nat} (h : skip s i < s.length) : skip (s ++ x) i = skip s i := by
  induction hn : s.length - i using Nat.strongRecOn generalizing i with
  | _ n ih =>
    by_cases hi : i < s.length
    · obtain ⟨hi', e⟩ := ext_at (x := x) hi
      cases hb : blank s[i] with
      | true =>
        rw [← skip_blank hi hb] at h ⊢
        rw [← skip_blank hi' (by rw [e]; exact hb)]
        exact ih _ (by omega) h rfl
      | false =>
        have hb' : blank (s ++ x)[i] = false := by rw [e]; exact hb
        cases hp : Lib.hasPrefix (s.drop i) [45, 45] with
        | true =>
          have hp' : Lib.hasPrefix ((s ++ x).drop i) [45, 45] = true := by
            rw [dash hi] at hp
            rw [dash hi']
            have hp := of_decide_eq_true hp
            exact decide_eq_true ⟨by rw [e]; exact hp.1, by simp; omega, by rw [ext_get hp.2.1]; exact hp.2.2⟩
          by_cases hl : Lib.indexByte (s.drop i) 10 < 0
          · rw [skip_none hi hb hp hl] at h; omega
          · have hj := indexByte_lt (s.drop i) 10
            have hx' : Lib.indexByte ((s ++ x).drop i) 10 = Lib.indexByte (s.drop i) 10 := by rw [ext_drop (by omega)]; exact indexByte_ext x (by omega)
            rw [← skip_line hi hb hp (by omega)] at h ⊢
            rw [← skip_line hi' hb' hp' (by omega), hx']
            exact ih _ (by omega) h rfl
        | false =>
          rw [skip_here hi hb hp]
          refine skip_here hi' hb' ?_
          rw [dash hi] at hp
          rw [dash hi']
          have hp := of_decide_eq_false hp
          refine decide_eq_false ?_
          rintro ⟨d1, d2, d3⟩
          rw [e] at d1
          by_cases h1 : i + 1 < s.length
          · rw [ext_get h1] at d3; exact hp ⟨d1, h1, d3⟩
          · have h2 : i + 1 = s.length := by omega
            rw [h2, (ext_nl hx).1] at d3
            revert d3; decide
    · rw [skip_end (by omega)] at h; omega

theorem skip_idem (l : List UInt8) (i : Nat) : skip l (skip l i) = skip l i := by
  induction hn : l.length - i using Nat.strongRecOn generalizing i with
  | _ n ih =>
    by_cases hi : i < l.length
    · cases hb : blank l[i] with
      | true => rw [← skip_blank hi hb]; exact ih _ (by omega) _ rfl
      | false =>
        cases hp : Lib.hasPrefix (l.drop i) [45, 45] with
        | true =>
          by_cases hl : Lib.indexByte (l.drop i) 10 < 0
          · rw [skip_none hi hb hp hl, skip_end (Nat.le_refl _)]
          · rw [← skip_line hi hb hp (by omega)]; exact ih _ (by omega) _ rfl
        | false => rw [skip_here hi hb hp, skip_here hi hb hp]
    · have e := skip_end (l := l) (i := i) (by omega)
      rw [e, e]

theorem runEnd_ext {p : UInt8 → Bool} {i : Nat} (h : runEnd p s i < s.length) : runEnd p (s ++ x) i = runEnd p s i := by
  induction hn : s.length - i using Nat.strongRecOn generalizing i with
  | _ n ih =>
    by_cases hi : i < s.length
    · obtain ⟨hi', e⟩ := ext_at (x := x) hi
      cases hp : p s[i] with
      | false => rw [runEnd_stop hi hp, runEnd_stop hi' (by rw [e]; exact hp)]
      | true =>
        rw [← runEnd_step hi hp] at h ⊢
        rw [← runEnd_step hi' (by rw [e]; exact hp)]
        exact ih _ (by omega) h rfl
    · rw [runEnd_end (by omega)] at h; omega

theorem quoted_ext {i : Nat} (acc : List UInt8) (ho : (quoted s i acc).2.2 = true) (h : (quoted s i acc).2.1 < s.length) : quoted (s ++ x) i acc = quoted s i acc := by
  induction hn : s.length - i using Nat.strongRecOn generalizing i acc with
  | _ n ih =>
    by_cases hi : i < s.length
    · obtain ⟨hi', e⟩ := ext_at (x := x) hi
      by_cases hc : s[i].toNat = 39
      · by_cases h1 : i + 1 < s.length
        · obtain ⟨h1', e1⟩ := ext_at (x := x) h1
          by_cases hd : s[i + 1].toNat = 39
          · rw [← quoted_pair h1 hc hd] at ho h ⊢
            rw [← quoted_pair h1' (by rw [e]; exact hc) (by rw [e1]; exact hd), e1]
            exact ih _ (by omega) _ ho h rfl
          · rw [quoted_close h1 hc hd, quoted_close h1' (by rw [e]; exact hc) (by rw [e1]; exact hd)]
        · rw [quoted_last hi hc h1] at h; simp at h; omega
      · rw [← quoted_byte hi hc] at ho h ⊢
        rw [← quoted_byte hi' (by rw [e]; exact hc), e]
        exact ih _ (by omega) _ ho h rfl
    · rw [quoted_open (by omega)] at ho; simp at ho

theorem pairs_ext {i e : Nat} (acc : List UInt8) (he : e ≤ s.length) (hev : (e - i) % 2 = 0) : pairs (s ++ x) i e acc = pairs s i e acc := by
  induction hn : e - i using Nat.strongRecOn generalizing i acc with
  | _ n ih =>
    by_cases hi : i < e
    · have g0 := ext_get (x := x) (show i < s.length by omega)
      have g1 := ext_get (x := x) (show i + 1 < s.length by omega)
      by_cases hb : hex (s.getD i 0) < 0 ∨ hex (s.getD (i + 1) 0) < 0
      · rw [pairs_bad hi hb, pairs_bad hi (by rw [g0, g1]; exact hb)]
      · rw [← pairs_step (l := s ++ x) hi (by rw [g0]; omega) (by rw [g1]; omega), ← pairs_step (l := s) hi (by omega) (by omega), g0, g1]
        exact ih _ (by omega) _ (by omega) rfl
    · rw [pairs_end (by omega), pairs_end (by omega)]

theorem blob_ext {i : Nat} (hi : i + 1 ≤ s.length) (ho : (blob s i).2.2 = true) : blob (s ++ x) i = blob s i := by
  have hj := indexByte_lt (s.drop (i + 1)) 39
  rw [List.length_drop] at hj
  by_cases hb : Lib.indexByte (s.drop (i + 1)) 39 < 0 ∨ Lib.indexByte (s.drop (i + 1)) 39 % 2 = 1
  · rw [blob_none hb] at ho; simp at ho
  · have hx' : Lib.indexByte ((s ++ x).drop (i + 1)) 39 = Lib.indexByte (s.drop (i + 1)) 39 := by rw [ext_drop hi]; exact indexByte_ext x (by omega)
    have hp := pairs_ext (s := s) (x := x) (i := i + 1) (e := i + 1 + (Lib.indexByte (s.drop (i + 1)) 39).toNat) [] (by omega) (by omega)
    cases hq : pairs s (i + 1) (i + 1 + (Lib.indexByte (s.drop (i + 1)) 39).toNat) [] with
    | none => rw [blob_bad hb hq] at ho; simp at ho
    | some b => rw [blob_some hb hq, blob_some (by rw [hx']; exact hb) (by rw [hx', hp, hq]), hx']

theorem isBlob_ext (hx : x.head? = some 10) {i : Nat} (hi : i < s.length) : isBlob (s ++ x) i ↔ isBlob s i := by
  unfold isBlob
  rw [ext_get hi]
  by_cases h1 : i + 1 < s.length
  · rw [ext_get h1]
    have : i + 1 < (s ++ x).length := by simp; omega
    exact ⟨fun h => ⟨h.1, h1, h.2.2⟩, fun h => ⟨h.1, this, h.2.2⟩⟩
  · have h2 : i + 1 = s.length := by omega
    rw [h2, (ext_nl hx).1]
    constructor
    · rintro ⟨_, _, h⟩; exact absurd h (by decide)
    · rintro ⟨_, h, _⟩; omega

theorem one_ext (hx : x.head? = some 10) {i : Nat} (hi : i < s.length) (ho : (one s i).2.2 = true) (he : (one s i).2.1 < s.length) : one (s ++ x) i = one s i := by
  have g := ext_get (x := x) hi
  by_cases h1 : (s.getD i 0).toNat = 39
  · rw [one, if_pos h1] at ho he
    simp only at ho he
    rw [one, if_pos (by rw [g]; exact h1), one, if_pos h1, quoted_ext _ ho he]
  by_cases h2 : isBlob s i
  · rw [one, if_neg h1, if_pos h2] at ho he
    simp only at ho he
    rw [one, if_neg (by rw [g]; exact h1), if_pos ((isBlob_ext hx hi).2 h2), one, if_neg h1, if_pos h2, blob_ext (by have := h2.2.1; omega) ho]
  by_cases h3 : (s.getD i 0).toNat = 63
  · rw [one, if_neg h1, if_neg h2, if_pos h3] at he
    simp only at he
    rw [one, if_neg (by rw [g]; exact h1), if_neg (fun h => h2 ((isBlob_ext hx hi).1 h)), if_pos (by rw [g]; exact h3), one, if_neg h1, if_neg h2, if_pos h3, runEnd_ext he, ext_cut (by omega)]
  by_cases h4 : letter (s.getD i 0) = true
  · rw [one, if_neg h1, if_neg h2, if_neg h3, if_pos h4] at he
    simp only at he
    rw [one, if_neg (by rw [g]; exact h1), if_neg (fun h => h2 ((isBlob_ext hx hi).1 h)), if_neg (by rw [g]; exact h3), if_pos (by rw [g]; exact h4), one, if_neg h1, if_neg h2, if_neg h3, if_pos h4, runEnd_ext he, ext_cut (by omega)]
  by_cases h5 : digit (s.getD i 0) = true
  · rw [one, if_neg h1, if_neg h2, if_neg h3, if_neg h4, if_pos h5] at he
    simp only at he
    rw [one, if_neg (by rw [g]; exact h1), if_neg (fun h => h2 ((isBlob_ext hx hi).1 h)), if_neg (by rw [g]; exact h3), if_neg (by rw [g]; exact h4), if_pos (by rw [g]; exact h5), one, if_neg h1, if_neg h2, if_neg h3, if_neg h4, if_pos h5, runEnd_ext he, ext_cut (by omega)]
  · rw [one, if_neg h1, if_neg h2, if_neg h3, if_neg h4, if_neg h5] at ho he
    simp only [decide_eq_true_eq] at ho he
    have h1' : i + 1 < s.length := by omega
    have hs : sign (s ++ x) i = sign s i := by
      unfold sign
      rw [g, ext_get h1']
      have : i + 1 < (s ++ x).length := by simp; omega
      by_cases hp : pair (s.getD i 0) (s.getD (i + 1) 0) = true
      · rw [if_pos ⟨this, hp⟩, if_pos ⟨h1', hp⟩]
      · have n1 : ¬ (i + 1 < (s ++ x).length ∧ pair (s.getD i 0) (s.getD (i + 1) 0) = true) := fun h => hp h.2
        have n2 : ¬ (i + 1 < s.length ∧ pair (s.getD i 0) (s.getD (i + 1) 0) = true) := fun h => hp h.2
        rw [if_neg n1, if_neg n2]
    rw [one, if_neg (by rw [g]; exact h1), if_neg (fun h => h2 ((isBlob_ext hx hi).1 h)), if_neg (by rw [g]; exact h3), if_neg (by rw [g]; exact h4), if_neg (by rw [g]; exact h5), one, if_neg h1, if_neg h2, if_neg h3, if_neg h4, if_neg h5, hs, ext_cut (by omega)]

/-- does a text or a blob begin there -/
def opens (s : List UInt8) (i : Nat) : Prop := (s.getD i 0).toNat = 39 ∨ (s.getD i 0).toNat = 120 ∨ (s.getD i 0).toNat = 88

theorem one_fail (hx : x.head? = some 10) {i : Nat} (hi : i < s.length) (ho : (one s i).2.2 = false) (hn : ¬ opens s i) : (one (s ++ x) i).2.2 = false := by
  have g := ext_get (x := x) hi
  have h1 : (s.getD i 0).toNat ≠ 39 := fun h => hn (.inl h)
  have h2 : ¬ isBlob s i := fun h => hn (.inr h.1)
  have h3 : (s.getD i 0).toNat ≠ 63 := by
    intro h; rw [one, if_neg h1, if_neg h2, if_pos h] at ho; simp at ho
  have ha := getD_at hi
  have h4 : letter (s.getD i 0) = false := by
    cases h : letter (s.getD i 0) with
    | false => rfl
    | true =>
      rw [one, if_neg h1, if_neg h2, if_neg h3, if_pos h] at ho
      have hw : word s[i] = true := by rw [← ha, word, h]; rfl
      have := runEnd_le word s (i + 1) hi
      rw [runEnd_step hi hw] at this
      simp at ho; omega
  have h5 : digit (s.getD i 0) = false := by
    cases h : digit (s.getD i 0) with
    | false => rfl
    | true =>
      rw [one, if_neg h1, if_neg h2, if_neg h3, if_neg (by rw [h4]; decide), if_pos h] at ho
      have := runEnd_le digit s (i + 1) hi
      rw [runEnd_step hi (by rw [← ha]; exact h)] at this
      simp at ho; omega
  rw [one_other h1 h2 h3 h4 h5] at ho
  simp only [decide_eq_false_iff_not] at ho
  have hs0 : sign s i = 0 := by omega
  have hs : sign (s ++ x) i = 0 := by
    unfold sign at hs0 ⊢
    rw [g]
    by_cases h1' : i + 1 < s.length
    · rw [ext_get h1']
      have : i + 1 < (s ++ x).length := by simp; omega
      by_cases hp : pair (s.getD i 0) (s.getD (i + 1) 0) = true
      · rw [if_pos ⟨h1', hp⟩] at hs0; omega
      · rw [if_neg (fun h => hp h.2)] at hs0
        rw [if_neg (fun h => hp h.2)]; exact hs0
    · have h2 : i + 1 = s.length := by omega
      rw [if_neg (by omega)] at hs0
      rw [if_neg]
      · exact hs0
      · rintro ⟨_, hp⟩
        rw [h2, (ext_nl hx).1] at hp
        simp only [pair, decide_eq_true_eq, List.mem_cons, List.cons.injEq, and_true, List.not_mem_nil, or_false] at hp
        rcases hp with p | p | p | p | p | p <;> (have q := p.2; revert q; decide)
  rw [one_other (by rw [g]; exact h1) (fun h => h2 ((isBlob_ext hx hi).1 h)) (by rw [g]; exact h3) (by rw [g]; exact h4) (by rw [g]; exact h5), hs]
  simp

theorem toks_ext (hx : x.head? = some 10) {i b : Nat} (h : (toks s i).2 = some b) : b < s.length ∧ (one s b).2.2 = false ∧ skip s b = b ∧ (toks (s ++ x) i).2 = (toks (s ++ x) b).2 := by
  induction hn : s.length - i using Nat.strongRecOn generalizing i with
  | _ n ih =>
    have hge := skip_ge s i
    by_cases hs : skip s i < s.length
    · have hsk := skip_ext hx hs
      cases ho : (one s (skip s i)).2.2 with
      | false =>
        rw [toks_bad hs ho] at h
        cases h
        refine ⟨hs, ho, skip_idem s i, ?_⟩
        rw [toks_skip (l := s ++ x) (i := i) (j := skip s i)]
        rw [hsk, skip_ext hx (by rw [skip_idem]; exact hs), skip_idem]
      | true =>
        have he := one_end s _ hs ho
        rw [toks_step hs ho] at h
        simp only at h
        have hb := ih _ (by omega) h rfl
        have hle := toks_ge h
        have hone := one_ext hx hs ho (by omega)
        refine ⟨hb.1, hb.2.1, hb.2.2.1, ?_⟩
        rw [toks_step (by rw [hsk]; simp; omega) (by rw [hsk, hone]; exact ho), hsk, hone]
        exact hb.2.2.2
    · rw [toks_end (by omega)] at h; cases h

/-- a fault stays where it is whatever follows -/
theorem between_bad (hx : x.head? = some 10) {b : Nat} (h : (toks s 0).2 = some b) :
    b < s.length ∧ ((∃ p, (toks (s ++ x) 0).2 = some p ∧ (p = b ∨ b < p ∧ opens s b)) ∨ ((toks (s ++ x) 0).2 = none ∧ opens s b)) := by
  obtain ⟨h1, h2, h3, h4⟩ := toks_ext hx h
  refine ⟨h1, ?_⟩
  have hs : skip (s ++ x) b = b := by rw [skip_ext hx (by rw [h3]; exact h1), h3]
  have hb : b < (s ++ x).length := by simp; omega
  rw [h4]
  cases ho : (one (s ++ x) b).2.2 with
  | false => rw [toks_bad (by rw [hs]; exact hb) (by rw [hs]; exact ho), hs]; exact .inl ⟨b, rfl, .inl rfl⟩
  | true =>
    have hop : opens s b := by
      refine Classical.byContradiction fun hn => ?_
      rw [one_fail hx h1 h2 hn] at ho; cases ho
    have he := one_end _ _ hb ho
    rw [toks_step (by rw [hs]; exact hb) (by rw [hs]; exact ho), hs]
    simp only
    cases ht : (toks (s ++ x) (one (s ++ x) b).2.1).2 with
    | none => exact .inr ⟨rfl, hop⟩
    | some p =>
      have := toks_ge ht
      exact .inl ⟨p, rfl, .inr ⟨by omega, hop⟩⟩
end

end Go.Proofs.YtaeplgakpacobaaDoor.Tok
