/- Aggregates: New and Has of package agg, Has of the reference. -/
import Derived.Test.YtdapnemcdgjeeaaGreatDoorNew
set_option maxRecDepth 100000
set_option linter.unusedVariables false
set_option linter.unusedSimpArgs false
namespace Go.Proofs.YtdapnemcdgjeeaaGreatDoor
open Go.RowKit

/-- what New answers -/
def NewP (o : Option Nat) (d st : Bool) (c : Int) (w : World) (e : Ending) (w' : World) : Prop :=
  ∃ sp, e = .returned (.tuple #[.pointer sp, .int .i64 (newE o d st)]) ∧ Below w.heap.size w w' ∧ (newE o d st ≠ 0 → sp = none) ∧
    (newE o d st = 0 → ∃ s, sp = some ⟨s, 0, none⟩ ∧ w.heap.size ≤ s ∧ ∃ g, Blk w' s 91 #[.bool st, g] ∧ (d = false → ∃ k, o = some k ∧ GNew w' w.heap.size k c g))
theorem newP_no {o : Option Nat} {d st : Bool} {c : Int} {w w' : World} (hE : newE o d st = 4) (hb : Below w.heap.size w w') : NewP o d st c w (.returned (.tuple #[.pointer none, .int .i64 4])) w' :=
  ⟨none, by rw [hE], hb, fun _ => rfl, fun h => by rw [hE] at h; cases h⟩
theorem newP_yes {o : Option Nat} {d st : Bool} {c : Int} {w w' : World} {s : Nat} {g : Value} (hE : newE o d st = 0) (hb : Below w.heap.size w w') (hs : w.heap.size ≤ s) (hB : Blk w' s 91 #[.bool st, g]) (hg : d = false → ∃ k, o = some k ∧ GNew w' w.heap.size k c g) : NewP o d st c w (.returned (.tuple #[.pointer (some ⟨s, 0, none⟩), .int .i64 0])) w' :=
  ⟨_, by rw [hE], hb, fun h => absurd hE h, fun _ => ⟨s, rfl, hs, g, hB, hg⟩⟩
theorem new_none (s : ByteArray) (d st : Bool) (c : Int) (w : World) (hs : s.size ≤ 1048576) (hK : Calls Tryz.prog 44 #[.string s, .int .i64 c] w (KindP none c w)) :
    Calls Tryz.prog 18 #[.string s, .bool d, .bool st, .int .i64 c] w (NewP none d st c w) := by
  go_enter Tryz.func18, Tryz.ntmps18
  go_wp2_with (go_at_call 44; refine hK.mono ?_; rintro e w1 ⟨g, rfl, hb1, hg⟩; obtain rfl : g = .nilIface := hg)
  go_ret2
  exact newP_no rfl hb1
theorem GNew.iface {W : World} {B k : Nat} {c : Int} {g : Value} (h : GNew W B k c g) : ∃ T p, g = .iface T p := by
  obtain ⟨b, _, h⟩ := h
  match k, h with
  | 0, h => exact ⟨_, _, h.1⟩
  | 1, h => exact ⟨_, _, h.1⟩
  | 2, h => exact ⟨_, _, h.1⟩
  | 3, h => exact ⟨_, _, h.1⟩
  | _ + 4, h => exact ⟨_, _, h.1⟩
theorem GNew.on {W W' : World} {B k : Nat} {c : Int} {g : Value} (h : GNew W B k c g) (hb : Below W.heap.size W W') : GNew W' B k c g := by
  obtain ⟨b, hB, h⟩ := h
  refine ⟨b, hB, ?_⟩
  match k, h with
  | 0, h => exact ⟨h.1, h.2.on hb⟩
  | 1, h => exact ⟨h.1, h.2.on hb⟩
  | 2, h => exact ⟨h.1, h.2.on hb⟩
  | 3, h => exact ⟨h.1, h.2.on hb⟩
  | _ + 4, h => exact ⟨h.1, h.2.on hb⟩
theorem new_some (s : ByteArray) (d st : Bool) (c : Int) (k : Nat) (w : World) (hK : Calls Tryz.prog 44 #[.string s, .int .i64 c] w (KindP (some k) c w))
    (hC : ∀ W : World, Calls Tryz.prog 45 #[.string s] W fun e w' => e = .returned (.bool (decide (k = 0))) ∧ Below W.heap.size W w') :
    Calls Tryz.prog 18 #[.string s, .bool d, .bool st, .int .i64 c] w (NewP (some k) d st c w) := by
  obtain ⟨r, hr⟩ : ∃ r, decide (k = 0) = r := ⟨_, rfl⟩
  rw [hr] at hC
  have hE : newE (some k) d st = if st = true ∧ (d = true ∨ r = false) then 4 else 0 := by
    unfold newE
    rw [if_neg (by simp), ← hr]
    cases st <;> cases d <;> simp
  clear hr
  have hmm := @run_makeMap Tryz.prog
  cases st <;> cases d <;> cases r
  all_goals (
    replace hE := Lib.hid hE
    go_enter Tryz.func18, Tryz.ntmps18
    go_wp2_with (first
      | (go_at_call 44; refine hK.mono ?_; rintro e w1 ⟨g, rfl, hb1, hg⟩; obtain ⟨T, p, rfl⟩ := GNew.iface hg; have hbz := hb1; have hgz := hg)
      | (go_at_call 45; refine (hC _).mono ?_; rintro e w2 ⟨rfl, hb2⟩; have hbz := stepB hb1 hb2; have hgz := hg.on hb2))
    go_ret2
    first
      | exact newP_no (by rw [hE.out]; simp) hbz
      | exact newP_yes (by rw [hE.out]; simp) (hbz.alloc hbz.size _) hbz.size (Blk.new _ _ _) (fun _ => ⟨k, rfl, hgz.on (newB _ _)⟩)
      | (have hB := Blk.new ((w1.alloc (.map #[] 0)).alloc (.cells #[.iface T p, .map (some w1.heap.size)] 89)) 91 #[.bool false, .iface 86 (.pointer (some ⟨w1.heap.size + 1, 0, none⟩))]
         have hsz : ((w1.alloc (.map #[] 0)).alloc (.cells #[.iface T p, .map (some w1.heap.size)] 89)).heap.size = w1.heap.size + 1 + 1 := by simp
         rw [hsz] at hB
         exact newP_yes (by rw [hE.out]; simp) (stepB (stepB (stepB hbz (newB _ _)) (newB _ _)) (newB _ _)) (by have := hbz.size; omega) hB (fun h => by cases h)))
/-- Has, by the name in small letters -/
def hasV (k : Option Nat) (args : Int) (star : Bool) : Bool := if star = true then decide (args = 0) && decide (k = some 0) else decide (args = 1) && k.isSome
theorem has_star (s : ByteArray) (args : Int) (w : World) (b : Bool) (hC : ∀ W : World, Calls Tryz.prog 45 #[.string s] W fun e w' => e = .returned (.bool b) ∧ Below W.heap.size W w') (r : Bool) (hr : Hid ((decide (args = 0) && b) = r)) :
    Calls Tryz.prog 20 #[.string s, .int .i64 args, .bool true] w fun e w' => e = .returned (.bool r) ∧ Below w.heap.size w w' := by
  have hr := hr.out
  by_cases h : args = 0
  · have g0 : (args == 0) = true := by simpa using h
    obtain rfl : b = r := by rw [← hr]; simp [h]
    replace h := Lib.hid h
    clear hr
    go_enter Tryz.func20, Tryz.ntmps20
    go_wp2_with (go_at_call 45; refine (hC _).mono ?_; rintro e w2 ⟨rfl, hb2⟩)
    go_ret
    exact ⟨rfl, hb2⟩
  · have g0 : (args == 0) = false := by simpa using h
    obtain rfl : false = r := by rw [← hr]; simp [h]
    clear hr
    go_enter Tryz.func20, Tryz.ntmps20
    go_wp2_with fail
    go_ret
    exact ⟨rfl, Below.refl _ _⟩
theorem has_none (s : ByteArray) (args : Int) (w : World) (o : Option Nat) (hK : Calls Tryz.prog 44 #[.string s, .int .i64 0] w (KindP o 0 w)) (r : Bool) (hr : Hid ((decide (args = 1) && o.isSome) = r)) :
    Calls Tryz.prog 20 #[.string s, .int .i64 args, .bool false] w fun e w' => e = .returned (.bool r) ∧ Below w.heap.size w w' := by
  have hr := hr.out
  by_cases h : args = 1
  · have g0 : (args == 1) = true := by simpa using h
    obtain rfl : o.isSome = r := by rw [← hr]; simp [h]
    replace h := Lib.hid h
    clear hr
    cases o with
    | none =>
      go_enter Tryz.func20, Tryz.ntmps20
      go_wp2_with (go_at_call 44; refine hK.mono ?_; rintro e w1 ⟨g, rfl, hb1, hg⟩; obtain rfl : g = .nilIface := hg)
      go_ret
      exact ⟨rfl, hb1⟩
    | some k =>
      go_enter Tryz.func20, Tryz.ntmps20
      go_wp2_with (go_at_call 44; refine hK.mono ?_; rintro e w1 ⟨g, rfl, hb1, hg⟩; obtain ⟨T, p, rfl⟩ := GNew.iface hg)
      go_ret
      exact ⟨rfl, hb1⟩
  · have g0 : (args == 1) = false := by simpa using h
    obtain rfl : false = r := by rw [← hr]; simp [h]
    clear hr
    go_enter Tryz.func20, Tryz.ntmps20
    go_wp2_with fail
    go_ret
    exact ⟨rfl, Below.refl _ _⟩
theorem rhas_is (s : ByteArray) (args : Int) (st : Bool) (w : World) (hs : s.size ≤ 1048576) (r : Bool) (hr : Hid (hasV (kindN (s.data.toList.map Txt.lower)) args st = r)) :
    Calls Tryz.prog 21 #[.string s, .int .i64 args, .bool st] w fun e w' => e = .returned (.bool r) ∧ Below w.heap.size w w' := by
  have hr := hr.out
  obtain ⟨t, ht⟩ : ∃ t, bs (s.data.toList.map Txt.lower) = t := ⟨_, rfl⟩
  have hl := rlower19_is s w hs t (Lib.hid ht)
  have htl : t.toList = s.data.toList.map Txt.lower := by rw [← ht, Lib.toList_data]; rfl
  rw [← htl] at hr
  have hk := fun W => known_is t W _ (Lib.hid rfl)
  obtain ⟨o, ho⟩ : ∃ o, kindN t.toList = o := ⟨_, rfl⟩
  obtain ⟨c0, hc⟩ : ∃ c0, (t.toList == [99, 111, 117, 110, 116]) = c0 := ⟨_, rfl⟩
  have hc0 : c0 = decide (o = some 0) := by
    rw [← hc, ← ho, Bool.eq_iff_iff, beq_iff_eq, decide_eq_true_iff, kindN_count]; rfl
  simp only [ho] at hr hk
  clear ht htl ho
  cases st with
  | true =>
    unfold hasV at hr
    rw [if_pos rfl, ← hc0] at hr
    by_cases h : args = 0
    · have g0 : (args == 0) = true := by simpa using h
      obtain rfl : c0 = r := by rw [← hr]; simp [h]
      replace h := Lib.hid h
      replace hc0 := Lib.hid hc0
      clear hr
      go_enter Tryz.func21, Tryz.ntmps21
      go_wp2_with (go_at_call 46; refine hl.mono ?_; rintro e w1 ⟨rfl, hb1⟩)
      go_ret
      exact ⟨by first | rfl | exact ret_bool hc, hb1⟩
    · have g0 : (args == 0) = false := by simpa using h
      obtain rfl : false = r := by rw [← hr]; simp [h]
      clear hr hc hc0
      go_enter Tryz.func21, Tryz.ntmps21
      go_wp2_with (go_at_call 46; refine hl.mono ?_; rintro e w1 ⟨rfl, hb1⟩)
      go_ret
      exact ⟨rfl, hb1⟩
  | false =>
    unfold hasV at hr
    rw [if_neg (by decide)] at hr
    clear hc hc0
    by_cases h : args = 1
    · have g0 : (args == 1) = true := by simpa using h
      obtain rfl : o.isSome = r := by rw [← hr]; simp [h]
      replace h := Lib.hid h
      clear hr
      go_enter Tryz.func21, Tryz.ntmps21
      go_wp2_with (first
        | (go_at_call 46; refine hl.mono ?_; rintro e w1 ⟨rfl, hb1⟩)
        | (go_at_call 47; refine (hk _).mono ?_; rintro e w2 ⟨rfl, rfl⟩))
      go_ret
      exact ⟨rfl, hb1⟩
    · have g0 : (args == 1) = false := by simpa using h
      obtain rfl : false = r := by rw [← hr]; simp [h]
      clear hr
      go_enter Tryz.func21, Tryz.ntmps21
      go_wp2_with (go_at_call 46; refine hl.mono ?_; rintro e w1 ⟨rfl, hb1⟩)
      go_ret
      exact ⟨rfl, hb1⟩
end Go.Proofs.YtdapnemcdgjeeaaGreatDoor
