/- Walks: the law ValueReads. -/
import Derived.Test.YtiiaamkmnbegdaaDoorReadW
import Derived.Test.YtiiaamkmnbegdaaDoorValRnd
namespace Go.Proofs.YtiiaamkmnbegdaaDoor
set_option maxRecDepth 100000
set_option linter.unusedVariables false
set_option linter.unusedSimpArgs false
open Go.RowKit

theorem vread_is {k n : Int} {t : List UInt8} {E : Nat} (s : ByteArray) (w : World) (h : Hid (Val.read s.data.toList = (⟨k, n, t⟩, E))) (hL : Lits w) :
    Calls Tryd.prog 25 #[.string s] w fun e w' => e = .returned (.tuple #[.agg #[.int .i64 k, .int .i64 n, .string (bs t)], .int .i64 (E : Int)]) ∧ Below w.heap.size w w' :=
  (read_any s w hL).mono fun _ _ ⟨h1, h2⟩ => ⟨by rw [h1, h.out], h2⟩
theorem rread_is {k n : Int} {t : List UInt8} {E : Nat} (s : ByteArray) (w : World) (h : Hid (Val.read s.data.toList = (⟨k, n, t⟩, E))) :
    Calls Tryd.prog 26 #[.string s] w fun e w' => e = .returned (.tuple #[.agg #[.int .i64 k, .int .i64 n, .string (bs t)], .int .i64 (E : Int)]) ∧ Below w.heap.size w w' := by
  have e := h.out
  rw [Val.read_eq] at e
  refine (rread_any s w).mono fun e' w' ⟨he, hb⟩ => ⟨?_, hb⟩
  rw [he, e]
theorem reads_below {w w1 w2 w3 : World} {o o' : Obj} (h5 : Below w.heap.size w w1) (h6 : Below (w1.alloc o).heap.size (w1.alloc o) w2) (h7 : Below (w2.alloc o').heap.size (w2.alloc o') w3) : Below w.heap.size w w3 :=
  have a6 := h5.trans ((((Below.refl _ w1).alloc (Nat.le_refl _) o).trans (h6.mono (by simp))).mono h5.size)
  a6.trans ((((Below.refl _ w2).alloc (Nat.le_refl _) o').trans (h7.mono (by simp))).mono a6.size)

set_option maxHeartbeats 1000000 in
theorem value_reads (s : ByteArray) (w : World) (hL : Lits w) :
    Calls Tryd.prog 8 #[.string s] w fun e w' => e = .returned (.bool true) ∧ Below w.heap.size w w' := by
  obtain ⟨⟨⟨k, n, t⟩, E⟩, hr⟩ : ∃ q, Val.read s.data.toList = q := ⟨_, rfl⟩
  obtain ⟨T, hT⟩ : ∃ T, bs t = T := ⟨_, rfl⟩
  have k1 := fun W (h : Lits W) => vread_is s W (Lib.hid hr) h
  have k2 := fun W => rread_is s W (Lib.hid hr)
  rw [hT] at k1 k2
  clear hr hT
  go_enter Tryd.func8, Tryd.ntmps8
  go_wp2_with (first
    | (go_at_call 25; refine (k1 _ hL).mono ?_; rintro e w1 ⟨rfl, hb1⟩)
    | (go_at_call 26; refine (k2 _).mono ?_; rintro e w2 ⟨rfl, hb2⟩)
    | (go_at_call 24; refine (head2_any _ ((((hL.below hb1).alloc _).below hb2).alloc _)).mono ?_; rintro e w3 ⟨rfl, hb3⟩; have hb23 := hb2.trans ((((Below.refl _ w2).alloc (Nat.le_refl _) _).trans (hb3.mono (by simp))).mono hb2.size); obtain ⟨c0, c1, c2, _, _, _⟩ := cells3 hb23 (by simp) (heap_new _ _); obtain ⟨d0, d1, d2, _, _, _⟩ := cells3 hb3 (by simp) (heap_new _ _)))
  go_ret
  exact ⟨rfl, reads_below hb1 hb2 hb3⟩

end Go.Proofs.YtiiaamkmnbegdaaDoor
