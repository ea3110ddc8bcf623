/- The marks of rows tell rows apart: in plain Lean. -/
import Derived.Test.YtdapnemcdgjeeaaGreatDoorQuo
import Derived.Test.YtdapnemcdgjeeaaGreatDoorBase
set_option maxRecDepth 100000
set_option linter.unusedVariables false
set_option linter.unusedSimpArgs false
namespace Go.Proofs.YtdapnemcdgjeeaaGreatDoor.Quo
open Go.Lib

theorem itoa_no32 (n : Int) : ∀ c ∈ Lib.itoa n, c ≠ 32 := by
  intro c hc e
  subst e
  unfold Lib.itoa at hc
  split at hc
  · obtain ⟨⟨_, p2, _⟩, _⟩ := Val.dec_plain n.natAbs
    rcases List.mem_cons.1 hc with h | h
    · exact absurd h (by decide)
    · exact absurd (p2 32 h) (by decide)
  · obtain ⟨⟨_, p2, _⟩, _⟩ := Val.dec_plain n.toNat
    exact absurd (p2 32 hc) (by decide)
theorem split32 : ∀ {a b X Y : List Int}, (∀ c ∈ a, c ≠ 32) → (∀ c ∈ b, c ≠ 32) → a ++ 32 :: X = b ++ 32 :: Y → a = b ∧ X = Y := by
  intro a
  induction a with
  | nil =>
    intro b X Y _ hb h
    cases b with
    | nil => simp at h; exact ⟨rfl, h⟩
    | cons c b =>
      simp only [List.nil_append, List.cons_append, List.cons.injEq] at h
      exact absurd h.1.symm (hb c List.mem_cons_self)
  | cons c a ih =>
    intro b X Y ha hb h
    cases b with
    | nil =>
      simp only [List.nil_append, List.cons_append, List.cons.injEq] at h
      exact absurd h.1 (ha c List.mem_cons_self)
    | cons d b =>
      simp only [List.cons_append, List.cons.injEq] at h
      obtain ⟨e1, e2⟩ := ih (fun x hx => ha x (List.mem_cons_of_mem _ hx)) (fun x hx => hb x (List.mem_cons_of_mem _ hx)) h.2
      exact ⟨by rw [h.1, e1], e2⟩
theorem ints_no32 (n : Int) : ∀ c ∈ ints (Lib.itoa n), c ≠ 32 := by
  intro c hc e
  unfold ints at hc
  obtain ⟨b, hb, rfl⟩ := List.mem_map.1 hc
  exact itoa_no32 n b hb (UInt8.toNat_inj.1 (by have h32 : (32 : UInt8).toNat = 32 := rfl; omega))
theorem itoa_inj {n m : Int} (hn : Val.inr n) (hm : Val.inr m) (h : Lib.itoa n = Lib.itoa m) : n = m := by
  have h1 := Val.number_itoa n hn.1 hn.2
  rw [h, Val.number_itoa m hm.1 hm.2] at h1
  injection h1 with h1
  exact h1.symm
/-- the mark of a row, as numbers -/
def markZ (T : PrintTabs) : List Val.V → List Int
  | [] => []
  | v :: l => ints (Lib.itoa v.kind) ++ 32 :: (ints (Lib.itoa v.int) ++ 32 :: (quoteZ T (bs v.text) ++ markZ T l))
theorem markZ_snoc (T : PrintTabs) (l : List Val.V) (v : Val.V) : markZ T (l ++ [v]) = markZ T l ++ (ints (Lib.itoa v.kind) ++ 32 :: (ints (Lib.itoa v.int) ++ 32 :: quoteZ T (bs v.text))) := by
  induction l with
  | nil => simp [markZ]
  | cons u l ih => simp [markZ, ih]
theorem ints_ne (n : Int) (X : List Int) : ints (Lib.itoa n) ++ 32 :: X ≠ [] := by simp
theorem markZ_inj (T : PrintTabs) : ∀ {a b : List Val.V}, (∀ v ∈ a, Val.inr v.kind ∧ Val.inr v.int) → (∀ v ∈ b, Val.inr v.kind ∧ Val.inr v.int) → markZ T a = markZ T b → a = b := by
  intro a
  induction a with
  | nil =>
    intro b _ _ h
    cases b with
    | nil => rfl
    | cons u b => exact absurd h.symm (ints_ne _ _)
  | cons v a ih =>
    intro b ha hb h
    cases b with
    | nil => exact absurd h (ints_ne _ _)
    | cons u b =>
      obtain ⟨e1, h⟩ := split32 (ints_no32 _) (ints_no32 _) h
      obtain ⟨e2, h⟩ := split32 (ints_no32 _) (ints_no32 _) h
      obtain ⟨e3, h⟩ := quote_inj T h
      have k := itoa_inj (ha v List.mem_cons_self).1 (hb u List.mem_cons_self).1 (ints_inj e1)
      have n := itoa_inj (ha v List.mem_cons_self).2 (hb u List.mem_cons_self).2 (ints_inj e2)
      have r := ih (fun x hx => ha x (List.mem_cons_of_mem _ hx)) (fun x hx => hb x (List.mem_cons_of_mem _ hx)) h
      obtain ⟨vk, vn, vt⟩ := v
      obtain ⟨uk, un, ut⟩ := u
      simp only at k n e3
      rw [bs_data, bs_data] at e3
      rw [k, n, e3, r]
theorem hexDigit_u8 (x : Nat) (h : x < 16) : 0 ≤ Lib.hexDigit x ∧ Lib.hexDigit x ≤ 255 := by unfold Lib.hexDigit; split <;> omega
theorem esc_u8 (T : PrintTabs) {r : Int} (h : okR r) : ∀ x ∈ escRune T r, 0 ≤ x ∧ x ≤ 255 := by
  intro x hx
  have h' := h
  unfold okR at h'
  unfold escRune at hx
  by_cases c0 : r = 34 ∨ r = 92
  · rw [if_pos c0] at hx
    simp only [List.mem_cons, List.not_mem_nil, or_false] at hx
    omega
  rw [if_neg c0] at hx
  by_cases c1 : isPrintR T r = true
  · rw [if_pos c1] at hx
    have := encodeRuneZ_byte r x hx
    omega
  rw [if_neg c1] at hx
  by_cases d7 : r = 7
  · rw [if_pos d7] at hx
    simp only [List.mem_cons, List.not_mem_nil, or_false] at hx
    omega
  rw [if_neg d7] at hx
  by_cases d8 : r = 8
  · rw [if_pos d8] at hx
    simp only [List.mem_cons, List.not_mem_nil, or_false] at hx
    omega
  rw [if_neg d8] at hx
  by_cases d12 : r = 12
  · rw [if_pos d12] at hx
    simp only [List.mem_cons, List.not_mem_nil, or_false] at hx
    omega
  rw [if_neg d12] at hx
  by_cases d10 : r = 10
  · rw [if_pos d10] at hx
    simp only [List.mem_cons, List.not_mem_nil, or_false] at hx
    omega
  rw [if_neg d10] at hx
  by_cases d13 : r = 13
  · rw [if_pos d13] at hx
    simp only [List.mem_cons, List.not_mem_nil, or_false] at hx
    omega
  rw [if_neg d13] at hx
  by_cases d9 : r = 9
  · rw [if_pos d9] at hx
    simp only [List.mem_cons, List.not_mem_nil, or_false] at hx
    omega
  rw [if_neg d9] at hx
  by_cases d11 : r = 11
  · rw [if_pos d11] at hx
    simp only [List.mem_cons, List.not_mem_nil, or_false] at hx
    omega
  rw [if_neg d11] at hx
  by_cases c9 : r < 32 ∨ r = 127
  · rw [if_pos c9] at hx
    have h1 := hexDigit_u8 (r.toNat / 16) (by omega)
    have h2 := hexDigit_u8 (r.toNat % 16) (by omega)
    simp only [List.mem_cons, List.not_mem_nil, or_false] at hx
    omega
  have hv : Lib.validRune r = true := by simp only [Lib.validRune, decide_eq_true_eq]; omega
  rw [if_neg c9, if_neg (by rw [hv]; simp)] at hx
  by_cases c10 : r < 65536
  · rw [if_pos c10, hex4] at hx
    simp only [List.mem_cons, List.not_mem_nil, or_false] at hx
    rcases hx with rfl | rfl | rfl | rfl | rfl | rfl
    · omega
    · omega
    all_goals exact hexDigit_u8 _ (by omega)
  · rw [if_neg c10, hex8] at hx
    simp only [List.mem_cons, List.not_mem_nil, or_false] at hx
    rcases hx with rfl | rfl | rfl | rfl | rfl | rfl | rfl | rfl | rfl | rfl
    · omega
    · omega
    all_goals exact hexDigit_u8 _ (by omega)
theorem step_u8 (T : PrintTabs) (s : ByteArray) (h : 0 < s.size) : ∀ x ∈ quoteStep T s, 0 ≤ x ∧ x ≤ 255 := by
  have hsn : s.data.toList ≠ [] := fun e => by have : s.data.toList.length = s.size := rfl; rw [e] at this; simp at this; omega
  rw [qstep_of]
  unfold qstep
  rcases dec_cases _ hsn with ⟨a1, a2, a3⟩ | ⟨a1, a2, a3, a4, a5⟩
  · rw [if_pos ⟨a2, a1⟩]
    intro x hx
    have hb := (s.data.toList.getD 0 0).toNat_lt
    have h1 := hexDigit_u8 ((s.data.toList.getD 0 0).toNat / 16) (by omega)
    have h2 := hexDigit_u8 ((s.data.toList.getD 0 0).toNat % 16) (by omega)
    simp only [List.mem_cons, List.not_mem_nil, or_false] at hx
    omega
  · rw [if_neg a3]
    exact esc_u8 T a1
theorem from_u8 (T : PrintTabs) : ∀ (n : Nat) (s : ByteArray) (f : Nat), s.size ≤ n → s.size ≤ f → ∀ x ∈ quoteFrom T f s, 0 ≤ x ∧ x ≤ 255 := by
  intro n
  induction n with
  | zero =>
    intro s f hs hf x hx
    rw [quoteFrom_end T f s (by omega)] at hx
    cases hx
  | succ n ih =>
    intro s f hs hf x hx
    by_cases h0 : 0 < s.size
    · rw [quoteFrom_step T f s h0 hf] at hx
      rcases List.mem_append.1 hx with hx | hx
      · exact step_u8 T s h0 x hx
      · have hsn : s.data.toList ≠ [] := fun e => by have : s.data.toList.length = s.size := rfl; rw [e] at this; simp at this; omega
        have p := dec_pos _ hsn
        rw [← dec_of] at p
        exact ih _ _ (by rw [size_rest]; omega) (by rw [size_rest]; omega) x hx
    · rw [quoteFrom_end T f s h0] at hx
      cases hx
theorem quote_u8 (T : PrintTabs) (s : ByteArray) : ∀ x ∈ quoteZ T s, 0 ≤ x ∧ x ≤ 255 := by
  intro x hx
  unfold quoteZ at hx
  rcases List.mem_cons.1 hx with rfl | hx
  · omega
  · rcases List.mem_append.1 hx with hx | hx
    · exact from_u8 T s.size s s.size (Nat.le_refl _) (Nat.le_refl _) x hx
    · rw [List.mem_singleton.1 hx]; omega
theorem ints_u8 (l : List UInt8) : ∀ x ∈ ints l, 0 ≤ x ∧ x ≤ 255 := by
  intro x hx
  obtain ⟨b, _, rfl⟩ := List.mem_map.1 hx
  have := b.toNat_lt
  omega
theorem mark_u8 (T : PrintTabs) : ∀ (l : List Val.V), ∀ x ∈ markZ T l, 0 ≤ x ∧ x ≤ 255 := by
  intro l
  induction l with
  | nil => intro x hx; cases hx
  | cons v l ih =>
    intro x hx
    unfold markZ at hx
    rcases List.mem_append.1 hx with hx | hx
    · exact ints_u8 _ x hx
    · rcases List.mem_cons.1 hx with rfl | hx
      · omega
      · rcases List.mem_append.1 hx with hx | hx
        · exact ints_u8 _ x hx
        · rcases List.mem_cons.1 hx with rfl | hx
          · omega
          · rcases List.mem_append.1 hx with hx | hx
            · exact quote_u8 T _ x hx
            · exact ih x hx
/-- the mark as bytes -/
def markB (T : PrintTabs) (l : List Val.V) : List UInt8 := (markZ T l).map fun x => x.toNat.toUInt8
theorem bytes_inj : ∀ {a b : List Int}, (∀ x ∈ a, 0 ≤ x ∧ x ≤ 255) → (∀ x ∈ b, 0 ≤ x ∧ x ≤ 255) → (a.map fun x => x.toNat.toUInt8) = (b.map fun x => x.toNat.toUInt8) → a = b := by
  intro a
  induction a with
  | nil => intro b _ _ h; cases b with
    | nil => rfl
    | cons c b => cases h
  | cons c a ih =>
    intro b ha hb h
    cases b with
    | nil => cases h
    | cons d b =>
      simp only [List.map_cons, List.cons.injEq] at h
      have h1 := ha c List.mem_cons_self
      have h2 := hb d List.mem_cons_self
      have e := congrArg UInt8.toNat h.1
      simp only [Nat.toUInt8, UInt8.toNat_ofNat'] at e
      rw [ih (fun x hx => ha x (List.mem_cons_of_mem _ hx)) (fun x hx => hb x (List.mem_cons_of_mem _ hx)) h.2, show c = d by omega]
theorem mark_inj (T : PrintTabs) {a b : List Val.V} (ha : ∀ v ∈ a, Val.inr v.kind ∧ Val.inr v.int) (hb : ∀ v ∈ b, Val.inr v.kind ∧ Val.inr v.int) : markB T a = markB T b ↔ a = b :=
  ⟨fun h => markZ_inj T ha hb (bytes_inj (mark_u8 T a) (mark_u8 T b) h), fun h => by rw [h]⟩

end Go.Proofs.YtdapnemcdgjeeaaGreatDoor.Quo
