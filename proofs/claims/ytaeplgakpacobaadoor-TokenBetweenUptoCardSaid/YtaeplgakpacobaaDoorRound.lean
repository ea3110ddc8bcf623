/- Walks: the law TokenRound. -/
import Derived.Test.YtaeplgakpacobaaDoorPrtP
import Derived.Test.YtaeplgakpacobaaDoorRnd
set_option maxRecDepth 100000
set_option linter.unusedVariables false
set_option linter.unusedSimpArgs false
namespace Go.Proofs.YtaeplgakpacobaaDoor
open Go.RowKit

theorem drewN_two (w : World) (m n : Nat) : (w.drewN m).drewN n = w.drewN (m + n) := by simp [World.drewN, Nat.add_assoc]
theorem tokC_at (L : List Tok.T) (k : Nat) (t : Tok.T) (h : L[k]? = some t) : (tokC L)[k * 3]? = some (.int .i64 (t.kind : Int)) ∧ (tokC L)[k * 3 + 1]? = some (.int .i64 (t.at_ : Int)) ∧ (tokC L)[k * 3 + 2]? = some (.string (bs t.text)) := by
  induction L generalizing k with
  | nil => simp at h
  | cons a L ih =>
    cases k with
    | zero => simp at h; subst h; exact ⟨rfl, rfl, rfl⟩
    | succ k =>
      simp at h
      have := ih k h
      have e : tokC (a :: L) = [Value.int .i64 (a.kind : Int), .int .i64 (a.at_ : Int), .string (bs a.text)] ++ tokC L := rfl
      rw [e]
      have e0 : (k + 1) * 3 = 3 + k * 3 := by omega
      have e1 : (k + 1) * 3 + 1 = 3 + (k * 3 + 1) := by omega
      have e2 : (k + 1) * 3 + 2 = 3 + (k * 3 + 2) := by omega
      rw [e0, List.getElem?_append_right (by simp), List.getElem?_append_right (by simp; omega), List.getElem?_append_right (by simp; omega)]
      refine ⟨?_, ?_, ?_⟩
      · simpa using this.1
      · rw [show 3 + k * 3 + 1 - [Value.int .i64 (a.kind : Int), .int .i64 (a.at_ : Int), .string (bs a.text)].length = k * 3 + 1 by simp; omega]; exact this.2.1
      · rw [show 3 + k * 3 + 2 - [Value.int .i64 (a.kind : Int), .int .i64 (a.at_ : Int), .string (bs a.text)].length = k * 3 + 2 by simp; omega]; exact this.2.2

theorem print_is {x : List UInt8} {E : Nat} (p : Option Addr) (N c : Nat) (gs : List Tok.G) (w : World) (h : Hid (Tok.print gs = (x, E))) (hM : MaxL w) (hA : ToksAt w p N gs) (hN : N ≤ 1048576) (hT : Hid (∀ g ∈ gs, g.text.length ≤ 1048576)) :
    Calls Tryd.prog 10 #[.slice p N c] w fun e w' => e = .returned (.tuple #[.string (bs x), .int .i64 (E : Int)]) ∧ Below w.heap.size w w' :=
  (print_any p N c gs w hM hA hN hT.out).mono fun _ _ ⟨h1, h2⟩ => ⟨by rw [h1, h.out], h2⟩
theorem scan_is {L : List Tok.T} {A E N : Nat} (s : ByteArray) (w : World) (h : Hid (Tok.scan s.data.toList = (L, A, E) ∧ L.length = N)) (hs : s.size ≤ 4294967296) :
    Calls Tryd.prog 7 #[.string s] w fun e w' => ∃ p c, e = .returned (.tuple #[.slice p N c, .int .i64 (A : Int), .int .i64 (E : Int)]) ∧ w'.ownsRow w.heap.size 32 3 (.slice p N c) N (tokC L) ∧ Below w.heap.size w w' :=
  (scan_any s w hs).mono fun _ _ ⟨v, h1, h2, h3⟩ => by
    rw [h.out.1] at h1 h2
    simp only [h.out.2] at h1 h2
    rcases h2.2 with ⟨rfl, h0⟩ | ⟨g, cap, cur, rfl, _⟩
    · subst h0; exact ⟨_, _, h1, h2, h3⟩
    · exact ⟨_, _, h1, h2, h3⟩


end Go.Proofs.YtaeplgakpacobaaDoor
