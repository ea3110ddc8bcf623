/- Aggregates by their names: counts, kind, New, Has of both sides. -/
import Derived.Test.YtdapnemcdgjeeaaGreatDoorKind
set_option maxRecDepth 100000
set_option linter.unusedVariables false
set_option linter.unusedSimpArgs false
namespace Go.Proofs.YtdapnemcdgjeeaaGreatDoor
open Go.RowKit

/-- a gatherer that has just been made -/
def GNew (W : World) (B k : Nat) (c : Int) (g : Value) : Prop :=
  ∃ b, B ≤ b ∧ match k with
    | 0 => g = .iface 124 (.pointer (some ⟨b, 0, none⟩)) ∧ Blk W b 126 #[.int .i64 0]
    | 1 => g = .iface 127 (.pointer (some ⟨b, 0, none⟩)) ∧ Blk W b 130 #[.int .u64 0, .int .u64 0, .bool false]
    | 2 => g = .iface 131 (.pointer (some ⟨b, 0, none⟩)) ∧ Blk W b 133 #[.int .i64 (-1), .int .i64 c, .int .i64 0, .int .i64 0, .string ⟨#[]⟩]
    | 3 => g = .iface 131 (.pointer (some ⟨b, 0, none⟩)) ∧ Blk W b 133 #[.int .i64 1, .int .i64 c, .int .i64 0, .int .i64 0, .string ⟨#[]⟩]
    | _ => g = .iface 134 (.pointer (some ⟨b, 0, none⟩)) ∧ Blk W b 136 #[.slice none 0 0]
def KindP (o : Option Nat) (c : Int) (w : World) (e : Ending) (w' : World) : Prop :=
  ∃ g, e = .returned g ∧ Below w.heap.size w w' ∧ match o with
    | none => g = .nilIface
    | some k => GNew w' w.heap.size k c g
theorem kind_is (s : ByteArray) (c : Int) (w : World) (hs : s.size ≤ 1048576) (hT : Lib.Utf8Tabs 1 2 w) (t : ByteArray) (ht : Hid (bs (Lib.mapD Quo.lowerR s.data.toList) = t)) :
    Calls Tryz.prog 44 #[.string s, .int .i64 c] w (KindP (kindN t.toList) c w) := by
  have hl := lower_is s w hs hT t ht
  clear ht
  obtain ⟨o, ho⟩ : ∃ o, kindN t.toList = o := ⟨_, rfl⟩
  rw [ho]
  rcases kindN_cases t.toList with ⟨h, hk⟩ | ⟨h, hk⟩ | ⟨h, hk⟩ | ⟨h, hk⟩ | ⟨h, hk⟩ | ⟨h0, h1, h2, h3, h4, hk⟩
  all_goals rw [hk] at ho
  all_goals subst ho
  all_goals (try unfold nm0 at *)
  all_goals (try unfold nm1 at *)
  all_goals (try unfold nm2 at *)
  all_goals (try unfold nm3 at *)
  all_goals (try unfold nm4 at *)
  all_goals clear hk
  case inr.inr.inr.inr.inr =>
    have g0 : (t.toList == [99, 111, 117, 110, 116]) = false := by simpa using h0
    have g1 : (t.toList == [115, 117, 109]) = false := by simpa using h1
    have g2 : (t.toList == [109, 105, 110]) = false := by simpa using h2
    have g3 : (t.toList == [109, 97, 120]) = false := by simpa using h3
    have g4 : (t.toList == [103, 114, 111, 117, 112, 95, 99, 111, 110, 99, 97, 116]) = false := by simpa using h4
    clear h0 h1 h2 h3 h4
    go_enter Tryz.func44, Tryz.ntmps44
    go_wp2_with (go_at_call 75; refine hl.mono ?_; rintro e w1 ⟨rfl, hb1⟩)
    go_ret
    exact ⟨_, rfl, hb1, rfl⟩
  all_goals (
    go_enter Tryz.func44, Tryz.ntmps44
    go_wp2_with (go_at_call 75; refine hl.mono ?_; rintro e w1 ⟨rfl, hb1⟩)
    go_ret
    exact ⟨_, rfl, hb1.alloc hb1.size _, w1.heap.size, hb1.size, rfl, Blk.new _ _ _⟩)
/-- of a name: the one in small letters, rune by rune, tells the same as byte by byte -/
theorem kindN_map (l : List UInt8) : kindN (Lib.mapD Quo.lowerR l) = kindN (l.map Txt.lower) := by
  have h : ∀ t : List UInt8, (∀ c ∈ t, c.toNat < 128) → (Lib.mapD Quo.lowerR l = t ↔ l.map Txt.lower = t) := fun t ht => Quo.lower_mapD l t ht
  have a0 := h nm0 (by decide)
  have a1 := h nm1 (by decide)
  have a2 := h nm2 (by decide)
  have a3 := h nm3 (by decide)
  have a4 := h nm4 (by decide)
  unfold kindN
  by_cases h0 : l.map Txt.lower = nm0
  · rw [if_pos h0, if_pos (a0.2 h0)]
  · rw [if_neg h0, if_neg (fun x => h0 (a0.1 x))]
    by_cases h1 : l.map Txt.lower = nm1
    · rw [if_pos h1, if_pos (a1.2 h1)]
    · rw [if_neg h1, if_neg (fun x => h1 (a1.1 x))]
      by_cases h2 : l.map Txt.lower = nm2
      · rw [if_pos h2, if_pos (a2.2 h2)]
      · rw [if_neg h2, if_neg (fun x => h2 (a2.1 x))]
        by_cases h3 : l.map Txt.lower = nm3
        · rw [if_pos h3, if_pos (a3.2 h3)]
        · rw [if_neg h3, if_neg (fun x => h3 (a3.1 x))]
          by_cases h4 : l.map Txt.lower = nm4
          · rw [if_pos h4, if_pos (a4.2 h4)]
          · rw [if_neg h4, if_neg (fun x => h4 (a4.1 x))]
theorem texts_count (s : List UInt8) : (Val.texts s nm0 1 == 0) = decide (s.map Txt.lower = nm0) := by
  unfold Val.texts
  have e1 : Txt.fold s 1 = s.map Txt.lower := by unfold Txt.fold; rw [if_neg (by decide), if_pos rfl]
  have e2 : Txt.fold nm0 1 = nm0 := by decide
  rw [e1, e2, Bool.eq_iff_iff, beq_iff_eq, decide_eq_true_iff]
  exact Val.cb_zero _ _
theorem counts_is (s : ByteArray) (w : World) (hs : s.size ≤ 1048576) (b : Bool) (hb : Hid (decide (s.data.toList.map Txt.lower = nm0) = b)) :
    Calls Tryz.prog 45 #[.string s] w fun e w' => e = .returned (.bool b) ∧ Below w.heap.size w w' := by
  have hq : Hid ((Val.texts s.data.toList (⟨#[99, 111, 117, 110, 116]⟩ : ByteArray).data.toList 1 == 0) = b) := Lib.hid ((texts_count s.data.toList).trans hb.out)
  have hc := vequal_is s ⟨#[99, 111, 117, 110, 116]⟩ 1 w hs (by decide) b hq
  go_enter Tryz.func45, Tryz.ntmps45
  go_wp2_with (go_at_call 76; refine hc.mono ?_; rintro e w1 ⟨rfl, hb1⟩)
  go_ret
  exact ⟨rfl, hb1⟩
theorem kindN_count (l : List UInt8) : kindN l = some 0 ↔ l = nm0 := by
  rcases kindN_cases l with ⟨h, hk⟩ | ⟨h, hk⟩ | ⟨h, hk⟩ | ⟨h, hk⟩ | ⟨h, hk⟩ | ⟨h0, h1, h2, h3, h4, hk⟩
  · simp [h, hk]; rfl
  all_goals rw [hk]
  · rw [h]; decide
  · rw [h]; decide
  · rw [h]; decide
  · rw [h]; decide
  · simp [h0]
/-- New's error, by the name in small letters -/
def newE (k : Option Nat) (distinct star : Bool) : Int := if k = none then 4 else if star = true ∧ (distinct = true ∨ k ≠ some 0) then 4 else 0
theorem rnew_is (s : ByteArray) (d st : Bool) (w : World) (hs : s.size ≤ 1048576) (E : Int) (hE : Hid (newE (kindN (s.data.toList.map Txt.lower)) d st = E)) :
    Calls Tryz.prog 19 #[.string s, .bool d, .bool st] w fun e w' => e = .returned (.int .i64 E) ∧ Below w.heap.size w w' := by
  have hE := hE.out
  obtain ⟨t, ht⟩ : ∃ t, bs (s.data.toList.map Txt.lower) = t := ⟨_, rfl⟩
  have hl := rlower19_is s w hs t (Lib.hid ht)
  have htl : t.toList = s.data.toList.map Txt.lower := by rw [← ht, Lib.toList_data]; rfl
  rw [← htl] at hE
  have hk := fun W => known_is t W _ (Lib.hid rfl)
  obtain ⟨o, ho⟩ : ∃ o, kindN t.toList = o := ⟨_, rfl⟩
  have hc0 : (t.toList == [99, 111, 117, 110, 116]) = decide (o = some 0) := by
    rw [← ho, Bool.eq_iff_iff, beq_iff_eq, decide_eq_true_iff, kindN_count]; rfl
  simp only [ho] at hE hk
  clear ht htl ho
  cases o with
  | none =>
    obtain rfl : E = 4 := by rw [← hE]; rfl
    clear hE hc0
    go_enter Tryz.func19, Tryz.ntmps19
    go_wp2_with (first
      | (go_at_call 46; refine hl.mono ?_; rintro e w1 ⟨rfl, hb1⟩)
      | (go_at_call 47; refine (hk _).mono ?_; rintro e w2 ⟨rfl, rfl⟩))
    go_ret
    exact ⟨rfl, hb1⟩
  | some k =>
    cases hz : decide (k = 0)
    · have hc : (t.toList == [99, 111, 117, 110, 116]) = false := by rw [hc0]; simpa using hz
      have hE2 : E = if st = true then 4 else 0 := by
        rw [← hE]
        unfold newE
        have : k ≠ 0 := by simpa using hz
        cases st <;> simp [this]
      clear hE hc0 hz
      subst hE2
      cases st <;> cases d
      all_goals (
        go_enter Tryz.func19, Tryz.ntmps19
        go_wp2_with (first
          | (go_at_call 46; refine hl.mono ?_; rintro e w1 ⟨rfl, hb1⟩)
          | (go_at_call 47; refine (hk _).mono ?_; rintro e w2 ⟨rfl, rfl⟩))
        go_ret
        exact ⟨rfl, hb1⟩)
    · have hc : (t.toList == [99, 111, 117, 110, 116]) = true := by rw [hc0]; simpa using hz
      have hE2 : E = if st = true ∧ d = true then 4 else 0 := by
        rw [← hE]
        unfold newE
        have : k = 0 := by simpa using hz
        cases st <;> cases d <;> simp [this]
      clear hE hc0 hz
      subst hE2
      cases st <;> cases d
      all_goals (
        go_enter Tryz.func19, Tryz.ntmps19
        go_wp2_with (first
          | (go_at_call 46; refine hl.mono ?_; rintro e w1 ⟨rfl, hb1⟩)
          | (go_at_call 47; refine (hk _).mono ?_; rintro e w2 ⟨rfl, rfl⟩))
        go_ret
        exact ⟨rfl, hb1⟩)
end Go.Proofs.YtdapnemcdgjeeaaGreatDoor
