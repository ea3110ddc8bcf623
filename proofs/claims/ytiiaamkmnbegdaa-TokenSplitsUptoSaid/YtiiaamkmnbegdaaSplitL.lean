/- Walks: the law TokenSplits. -/
import Derived.Test.YtiiaamkmnbegdaaSplitS
import Derived.Test.YtiiaamkmnbegdaaTokW9
namespace Go.Proofs.Ytiiaamkmnbegdaa
open Go.RowKit

theorem rsplit_any (s : ByteArray) (w : World) (hs : s.size ≤ 1048576) : Calls Try.prog 9 #[.string s] w (RSplitP s w) := by
  cases hY : (Tok.toks s.data.toList 0).2 with
  | none => exact rsplit_ok s w hs (Tok.toks s.data.toList 0).1 (by rw [← hY])
  | some b => exact rsplit_bad s w hs (Tok.toks s.data.toList 0).1 b (by rw [← hY])

theorem rsplit_is {L : List (List UInt8)} {E N : Nat} (s : ByteArray) (w : World) (h : Hid (Tok.split s.data.toList = (L, E) ∧ L.length = N)) (hs : s.size ≤ 1048576) :
    Calls Try.prog 9 #[.string s] w fun e w' => ∃ p c, e = .returned (.tuple #[.slice p N c, .int .i64 (E : Int)]) ∧ w'.ownsRow w.heap.size 9 1 (.slice p N c) N (strC L) ∧ Below w.heap.size w w' :=
  (rsplit_any s w hs).mono fun _ _ ⟨p, c, he, h1, hb⟩ => by
    rw [h.out.1] at he h1
    simp only [h.out.2] at he h1
    exact ⟨p, c, he, h1, hb⟩
theorem split_is {L : List (List UInt8)} {E N : Nat} (s : ByteArray) (w : World) (h : Hid (Tok.split s.data.toList = (L, E) ∧ L.length = N)) (hs : s.size ≤ 1048576) :
    Calls Try.prog 8 #[.string s] w fun e w' => ∃ p c, e = .returned (.tuple #[.slice p N c, .int .i64 (E : Int)]) ∧ w'.ownsRow w.heap.size 9 1 (.slice p N c) N (strC L) ∧ Below w.heap.size w w' :=
  (split_any s w hs).mono fun _ _ ⟨p, c, he, h1, hb⟩ => by
    rw [h.out.1] at he h1
    simp only [h.out.2] at he h1
    exact ⟨p, c, he, h1, hb⟩

theorem split_small (s : ByteArray) : (Tok.split s.data.toList).1.length ≤ s.size + 1 := by
  have h4 : s.data.toList.length = s.size := rfl
  cases hY : (Tok.toks s.data.toList 0).2 with
  | none =>
    have h3 := Tok.toks_len s.data.toList 0
    rw [Tok.split_ok (ys := (Tok.toks s.data.toList 0).1) (by rw [← hY])]
    have h1 := Tok.stOf_out s.data.toList (Tok.toks s.data.toList 0).1
    simp only [Tok.put]
    split
    · simp; omega
    · omega
  | some b => rw [Tok.split_bad (ys := (Tok.toks s.data.toList 0).1) (b := b) (by rw [← hY])]; simp

set_option maxHeartbeats 400000 in
theorem token_splits (s : ByteArray) (w : World) (hs : s.size ≤ 1048575) :
    Calls Try.prog 4 #[.string s] w fun e w' => e = .returned (.bool true) ∧ Below w.heap.size w w' := by
  have hsm := split_small s
  obtain ⟨⟨L, E⟩, hLE⟩ : ∃ q, Tok.split s.data.toList = q := ⟨_, rfl⟩
  obtain ⟨N, hN⟩ : ∃ N, L.length = N := ⟨_, rfl⟩
  rw [hLE] at hsm
  simp only [hN] at hsm
  have hq : Tok.split s.data.toList = (L, E) ∧ L.length = N := ⟨hLE, hN⟩
  clear hLE
  replace hq := Lib.hid hq
  replace hN := Lib.hid hN
  have hs1 : s.size ≤ 1048576 := by omega
  have hN1 : N ≤ 1048576 := by omega
  go_enter Try.func4, Try.ntmps4
  go_wp2_with (first
    | (go_at_call 8; refine (split_is s _ hq hs1).mono ?_; rintro e w1 ⟨p, c, rfl, ra, hb1⟩)
    | (go_at_call 9; refine (rsplit_is s _ hq hs1).mono ?_; rintro e w2 ⟨p2, c2, rfl, rb, hb2⟩; have ra2 := ra.kept (below_grown hb2) (Classical.em _))
    | (go_at_call 5; refine (head_any _).mono ?_; rintro e w3 ⟨rfl, hb3⟩; have ra3 := ra2.kept (below_grown hb3) (Classical.em _); have rb3 := rb.kept (below_grown hb3) (Classical.em _))
    | (go_at_call 10; refine (same_any _ _ p p2 N c c2 L _ hN1 hN ra3 rb3).mono ?_; rintro e w4 ⟨rfl, hb4⟩))
  go_ret
  refine ⟨rfl, ?_⟩
  have h1 := hb1.size
  have h2 := hb2.size
  have h3 := hb3.size
  exact ((hb1.trans (hb2.mono h1)).trans (hb3.mono (Nat.le_trans h1 h2))).trans (hb4.mono (Nat.le_trans (Nat.le_trans h1 h2) h3))

end Go.Proofs.Ytiiaamkmnbegdaa
