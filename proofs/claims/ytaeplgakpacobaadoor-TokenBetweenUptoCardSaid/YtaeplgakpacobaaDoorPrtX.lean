/- Walks: written of package token at a blob, and whatever the kind. -/
import Derived.Test.YtaeplgakpacobaaDoorPrtW
import Derived.Test.YtaeplgakpacobaaDoorBuild
set_option maxRecDepth 100000
set_option linter.unusedVariables false
set_option linter.unusedSimpArgs false
namespace Go.Proofs.YtaeplgakpacobaaDoor
open Go.RowKit

theorem take_one (t : ByteArray) (k : Nat) (h : k < t.size) : t.data.toList.take (k + 1) = t.data.toList.take k ++ [t[k]] := by
  have h' : k < t.data.toList.length := h
  rw [List.take_add_one, List.getElem?_eq_getElem h']
  rfl

theorem lit_dig (n : Nat) (h : n < (⟨#[48, 49, 50, 51, 52, 53, 54, 55, 56, 57, 97, 98, 99, 100, 101, 102]⟩ : ByteArray).size) : (⟨#[48, 49, 50, 51, 52, 53, 54, 55, 56, 57, 97, 98, 99, 100, 101, 102]⟩ : ByteArray)[n] = Tok.dig n := by
  have all : ∀ m : Fin 16, (⟨#[48, 49, 50, 51, 52, 53, 54, 55, 56, 57, 97, 98, 99, 100, 101, 102]⟩ : ByteArray)[m.val] = Tok.dig m.val := by decide
  exact all ⟨n, h⟩

set_option maxHeartbeats 1000000 in
theorem written_blob (a : Int) (t : ByteArray) (w : World) (hs : t.size ≤ 1048576) :
    Calls Tryd.prog 22 #[.agg #[.int .i64 4, .int .i64 a, .string t]] w (WrittenP 4 t w) := by
  have hw := Tok.written_blob t.data.toList
  have hl : (Tok.hexs t.data.toList).length = 2 * t.size := Tok.hexs_len _
  replace hw := Lib.hid hw
  go_enter Tryd.func22, Tryd.ntmps22
  go_wp2
  obtain ⟨W0, hW0⟩ : ∃ W0, W0 = w.alloc (.cells #[.int .i64 4, .int .i64 a, .string t] 32) := ⟨_, rfl⟩
  have hz0 : W0.heap.size = w.heap.size + 1 := by rw [hW0]; simp
  have hcell : W0.heap[w.heap.size]? = some (.cells #[.int .i64 4, .int .i64 a, .string t] 32 (0, 0)) := by rw [hW0]; exact heap_new _ _
  have hB0 : Below w.heap.size w W0 := by rw [hW0]; exact (Below.refl _ w).alloc (Nat.le_refl _) _
  have hbld := Lib.fresh_isBuilder 66 5 W0
  rw [hz0] at hbld
  have hW1 : Below (w.heap.size + 1) W0 (W0.alloc (.cells #[.pointer none, .slice none 0 0] 66)) := (Below.refl _ W0).alloc (by omega) _
  rw [← hW0]
  clear hW0
  go_loopw [23] (fun iv wr => ∃ k : Nat, iv = .int .i64 (k : Int) ∧ k ≤ t.size ∧ Lib.IsBuilder 66 5 (w.heap.size + 1) (w.heap.size + 1) (Lib.byteCells (Tok.hexs (t.data.toList.take k))) wr ∧ Below (w.heap.size + 1) W0 wr) (fun iv _ => t.size - (intOf iv).toNat)
  case atStart => exact ⟨0, by go_num, by omega, hbld, hW1⟩
  case round =>
    obtain ⟨k, rfl, hk, hbk, hB⟩ := hrel
    obtain ⟨c0, c1, c2, f0, f1, f2⟩ := cells3 hB (by omega) hcell
    by_cases hlt : k < t.size
    · have hlB : decide ((k : Int) < (t.size : Int)) = true := by simp; omega
      have hc := t[k].toNat_lt
      have i1 : (0 : Int) ≤ (t[k].toNat : Int) / 16 := by omega
      have i2 : (t[k].toNat : Int) / 16 < 16 := by omega
      have i3 : (0 : Int) ≤ (t[k].toNat : Int) % 16 := by omega
      have i4 : (t[k].toNat : Int) % 16 < 16 := by omega
      have hlen : (Lib.byteCells (Tok.hexs (t.data.toList.take k))).length + 2 ≤ 140737488355328 := by
        have h1 := Tok.hexs_len (t.data.toList.take k)
        have h2 := List.length_take_le k t.data.toList
        rw [Lib.byteCells_length]; omega
      have hb1 : w.heap.size + 1 ≤ wr.heap.size := by have := hB.size; omega
      go_wp2_with (go_at_call 37; refine (writebyte_any _ _ _ _ _ hbk (by omega) hb1).mono ?_)
      rintro e w1 ⟨rfl, hbk1, hB1⟩
      have hbb := hB.trans hB1
      obtain ⟨d0, d1, d2, g0, g1, g2⟩ := cells3 hbb (by omega) hcell
      have hb2 : w.heap.size + 1 ≤ w1.heap.size := Nat.le_trans hb1 hB1.size
      go_wp2_with (go_at_call 37; refine (writebyte_any _ _ _ _ _ hbk1 (by simp; omega) hb2).mono ?_; rintro e w2 ⟨rfl, hbk2, hB2⟩)
      go_roundw
      case rel =>
        refine ⟨k + 1, by go_num, by omega, ?_, hbb.trans hB2⟩
        rw [take_one t k hlt, byteC_hexs, ← lit_dig, ← lit_dig]
        exact hbk2
      case measure => simp [intOf]; omega
    · have hkt : t.data.toList.take k = t.data.toList := List.take_of_length_le (Nat.le_of_not_lt hlt)
      rw [hkt] at hbk
      have hlB : decide ((k : Int) < (t.size : Int)) = false := by simp; omega
      have hb1 : w.heap.size + 1 ≤ wr.heap.size := by have := hB.size; omega
      have z1 : ¬ 9223372036854775807 < 2 + (bs (Tok.hexs t.data.toList)).size := by rw [bs_size]; omega
      have z2 : ¬ 9223372036854775807 < 2 + (bs (Tok.hexs t.data.toList)).size + 1 := by rw [bs_size]; omega
      go_wp2_with (go_at_call 38; refine (bstring_any _ _ _ _ hbk hb1).mono ?_; rintro e w1 ⟨rfl, hB1⟩)
      go_ret2
      refine ⟨_, true, rfl, fun x hx => ⟨?_, rfl⟩, fun hx => ?_, ?_⟩
      · rw [hw.out] at hx
        cases hx
        rw [bs_two, bs_one, bs_app, bs_app]; rfl
      · rw [hw.out] at hx; cases hx
      · exact hB0.trans ((hB.trans hB1).mono (by omega))

theorem written_any (k a : Int) (t : ByteArray) (w : World) (hM : MaxL w) (hs : t.size ≤ 1048576) :
    Calls Tryd.prog 22 #[.agg #[.int .i64 k, .int .i64 a, .string t]] w (WrittenP k t w) := by
  by_cases h3 : k = 3
  · subst h3; exact written_text a t w hM hs
  by_cases h4 : k = 4
  · subst h4; exact written_blob a t w hs
  by_cases h5 : k = 5
  · subst h5; exact written_param a t w hs
  by_cases h1 : k = 1
  · subst h1; exact written_as1 a t w hs
  by_cases h2 : k = 2
  · subst h2; exact written_as2 a t w hs
  by_cases h6 : k = 6
  · subst h6; exact written_as6 a t w hs
  exact written_none k a t w (by omega)

end Go.Proofs.YtaeplgakpacobaaDoor
