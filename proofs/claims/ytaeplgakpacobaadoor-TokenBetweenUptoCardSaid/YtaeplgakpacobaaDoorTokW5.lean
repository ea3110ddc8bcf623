/- Walks: sign. -/
import Derived.Test.YtaeplgakpacobaaDoorTokW4
set_option maxRecDepth 100000
set_option linter.unusedVariables false
set_option linter.unusedSimpArgs false
namespace Go.Proofs.YtaeplgakpacobaaDoor
open Go.RowKit

def signs : List ByteArray := [⟨#[124, 124]⟩, ⟨#[61, 61]⟩, ⟨#[60, 62]⟩, ⟨#[33, 61]⟩, ⟨#[60, 61]⟩, ⟨#[62, 61]⟩]
theorem signs_cells (w : World) : ∀ j, j < signs.length → (w.alloc (.cells #[.string ⟨#[124, 124]⟩, .string ⟨#[61, 61]⟩, .string ⟨#[60, 62]⟩, .string ⟨#[33, 61]⟩, .string ⟨#[60, 61]⟩, .string ⟨#[62, 61]⟩] 9)).cell? ⟨w.heap.size, 0 + j, none⟩ = some (.string (signs.getD j ByteArray.empty)) := by
  intro j hj
  have h6 : j < 6 := hj
  rw [Nat.zero_add, World.cell?_alloc_at _ _ _ _ rfl]
  have : j = 0 ∨ j = 1 ∨ j = 2 ∨ j = 3 ∨ j = 4 ∨ j = 5 := by omega
  rcases this with rfl | rfl | rfl | rfl | rfl | rfl <;> rfl

theorem signs_two (s : ByteArray) (k : Nat) (h : k + 1 < s.size) : Lib.containsS (signs.take 6) (s.extract k (k + 2)) = Tok.pair (s.data.toList.getD k 0) (s.data.toList.getD (k + 1) 0) := by
  have hx : s.extract k (k + 2) = ⟨[s.data.toList.getD k 0, s.data.toList.getD (k + 1) 0].toArray⟩ := by
    apply ByteArray.ext
    apply Array.toList_inj.1
    rw [Lib.extract_data]
    have hl : k + 1 < s.data.toList.length := h
    rw [show k + 2 - k = 2 from by omega, List.drop_eq_getElem_cons (by omega), List.drop_eq_getElem_cons (by omega)]
    simp only [List.take_succ_cons, List.take_zero, List.getD_eq_getElem?_getD, List.getElem?_eq_getElem (show k < s.data.toList.length by omega), List.getElem?_eq_getElem hl, Option.getD_some]
  rw [hx, Bool.eq_iff_iff, Lib.containsS_iff, Tok.pair, decide_eq_true_eq]
  generalize s.data.toList.getD k 0 = a
  generalize s.data.toList.getD (k + 1) 0 = b
  simp [signs]

theorem sign_any (s : ByteArray) (a : Int) (w : World) (hs : s.size ≤ 4294967296) (h0 : 0 ≤ a) (h1 : a < s.size) :
    Calls Tryd.prog 65 #[.string s, .int .i64 a] w fun e w' => e = .returned (.int .i64 (Tok.sign s.data.toList a.toNat : Int)) ∧ Below w.heap.size w w' := by
  obtain ⟨k, rfl⟩ := Int.eq_ofNat_of_zero_le h0
  rw [Int.toNat_natCast]
  have ga := getD_byte s k (by omega)
  replace ga := Lib.hid ga
  by_cases h2 : k + 1 < s.size
  · have hst := signs_two s k h2
    replace hst := Lib.hid hst
    go_enter Tryd.func65, Tryd.ntmps65
    go_wp2_with (first
      | (go_at_call 84; go_must (refine (Tryd.slices_Contains_string _ 0 6 6 signs _ _ (by decide) (by decide) (signs_cells _)).mono ?_; rintro e w' ⟨rfl, hw⟩; obtain rfl := hw.symm))
      | (go_at_call 61; go_must (refine (index_any _ _ _).mono ?_; rintro e w' ⟨rfl, rfl⟩)))
    · have hp : Lib.containsS (List.take 6 signs) (s.extract k (k + 2)) = true := by assumption
      go_ret
      exact ⟨ret_int (by rw [Tok.sign_two (by simpa using h2) (by rw [← hst.out]; exact hp)]; rfl), (Below.refl _ _).alloc (Nat.le_refl _) _⟩
    · have hp : Lib.containsS (List.take 6 signs) (s.extract k (k + 2)) = false := by assumption
      have hx : 0 ≤ Lib.indexByte [40, 41, 44, 59, 46, 42, 43, 45, 47, 37, 61, 60, 62] s[k] := by assumption
      go_ret
      exact ⟨ret_int (by rw [Tok.sign_one (by rw [← hst.out, hp]; simp) (by rw [ga.out, Tok.single]; simpa using hx)]; rfl), (Below.refl _ _).alloc (Nat.le_refl _) _⟩
    · have hp : Lib.containsS (List.take 6 signs) (s.extract k (k + 2)) = false := by assumption
      have hx : Lib.indexByte [40, 41, 44, 59, 46, 42, 43, 45, 47, 37, 61, 60, 62] s[k] < 0 := by assumption
      go_ret
      exact ⟨ret_int (by rw [Tok.sign_none (by rw [← hst.out, hp]; simp) (by rw [ga.out, Tok.single]; simpa using hx)]; rfl), (Below.refl _ _).alloc (Nat.le_refl _) _⟩
  · have hno : ¬ (k + 1 < s.data.toList.length ∧ Tok.pair (s.data.toList.getD k 0) (s.data.toList.getD (k + 1) 0) = true) := fun h => h2 (by simpa using h.1)
    replace hno := Lib.hid hno
    go_enter Tryd.func65, Tryd.ntmps65
    go_wp2_with (go_at_call 61; go_must (refine (index_any _ _ _).mono ?_; rintro e w' ⟨rfl, rfl⟩))
    · have hx : 0 ≤ Lib.indexByte [40, 41, 44, 59, 46, 42, 43, 45, 47, 37, 61, 60, 62] s[k] := by assumption
      go_ret
      exact ⟨ret_int (by rw [Tok.sign_one hno.out (by rw [ga.out, Tok.single]; simpa using hx)]; rfl), Below.refl _ _⟩
    · have hx : Lib.indexByte [40, 41, 44, 59, 46, 42, 43, 45, 47, 37, 61, 60, 62] s[k] < 0 := by assumption
      go_ret
      exact ⟨ret_int (by rw [Tok.sign_none hno.out (by rw [ga.out, Tok.single]; simpa using hx)]; rfl), Below.refl _ _⟩

theorem sign_is {n : Nat} (s : ByteArray) (k : Nat) (w : World) (he : Hid (n = Tok.sign s.data.toList k)) (hs : s.size ≤ 4294967296) (h1 : k < s.size) :
    Calls Tryd.prog 65 #[.string s, .int .i64 (k : Int)] w fun e w' => e = .returned (.int .i64 (n : Int)) ∧ Below w.heap.size w w' :=
  (sign_any s k w hs (by omega) (by omega)).mono fun _ _ ⟨h, h'⟩ => ⟨by rw [h, Int.toNat_natCast, ← he.out], h'⟩

end Go.Proofs.YtaeplgakpacobaaDoor
