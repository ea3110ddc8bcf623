/- Words for the walk of the law TokenAll. -/
import Derived.Test.YtiiaamkmnbegdaaTokA
import Derived.Test.YtiiaamkmnbegdaaTokW9
import Derived.Test.YtiiaamkmnbegdaaRef15E
namespace Go.Proofs.Ytiiaamkmnbegdaa
open Go.RowKit
attribute [local go_sem] Oper.semAt_some

theorem ownsRow_shape {w : World} {base : Nat} {e : TypeId} {size : Nat} {v : Value} {n : Nat} {xs : List Value} (h : w.ownsRow base e size v n xs) : ∃ p c, v = .slice p n c := by
  rcases h.2 with ⟨rfl, rfl⟩ | ⟨g, cap, cur, rfl, _⟩
  · exact ⟨_, _, rfl⟩
  · exact ⟨_, _, rfl⟩

theorem rtokens_is {X : List Tok.T} {N : Nat} {b : Int} (s : ByteArray) (w : World) (h : Hid ((Tok.toks s.data.toList 0).1.map (·.1) = X ∧ X.length = N ∧ badV (Tok.toks s.data.toList 0).2 = b)) (hs : s.size ≤ 1099511627) :
    Calls Try.prog 6 #[.string s] w fun e w' => ∃ p c v2, e = .returned (.tuple #[.slice p N c, v2, .int .i64 b]) ∧ w'.ownsRow w.heap.size 32 3 (.slice p N c) N (tokC X) ∧ Below w.heap.size w w' :=
  (rtokens_any s w hs).mono fun _ _ ⟨v, v2, he, h1, _, hb⟩ => by
    have hN : (Tok.toks s.data.toList 0).1.length = N := by rw [← h.out.2.1, ← h.out.1]; simp
    rw [hN, h.out.1] at h1
    obtain ⟨p, c, rfl⟩ := ownsRow_shape h1
    exact ⟨p, c, v2, by rw [he, h.out.2.2], h1, hb⟩

theorem calls_round {k m : Nat} {P : Program} {f : FuncId} {args : Array Value} {w : World} {R : Ending → World → Prop} (h : Calls P f args w R) : CallsIn (WF.inRound k) m P f args w R :=
  ⟨trivial, fun cs _ => ((callsIn_wide (n := m)).2 h).2 cs (room_wide _)⟩
theorem Keeps.drew {Kp : Nat → Prop} {W W' : World} (h : Keeps Kp W W') : Keeps Kp W W'.drew := ⟨h.size, h.same⟩

theorem row_from {β : Type} (b : Nat) (e : TypeId) (size : Nat) (v : Value) (n : Nat) (xs : List Value) (X : Nat) : OwnFrom X (fun (_ : β) W => W.ownsRow b e size v n xs) := fun _ A C row hs hg hr => by
  refine hs.kept hg ?_
  rcases hs.2 with ⟨rfl, _⟩ | ⟨g, cap, cur, rfl, _, hgb, _⟩
  · exact .inl rfl
  · refine .inr fun e => ?_
    obtain ⟨_, o, ho, hc⟩ := hr g (by rw [← e]; rfl)
    rw [hgb] at ho; cases ho; cases hc

theorem tokC_at (X : List Tok.T) (i : Nat) (t : Tok.T) (h : X[i]? = some t) : (tokC X)[i * 3]? = some (.int .i64 (t.kind : Int)) ∧ (tokC X)[i * 3 + 1]? = some (.int .i64 (t.at_ : Int)) ∧ (tokC X)[i * 3 + 2]? = some (.string (bs t.text)) := by
  induction X generalizing i with
  | nil => simp at h
  | cons y X ih =>
    cases i with
    | zero => simp at h; subst h; exact ⟨rfl, rfl, rfl⟩
    | succ i =>
      have := ih i (by simpa using h)
      have e (m : Nat) : (tokC (y :: X))[m + 3]? = (tokC X)[m]? := rfl
      rw [show (i + 1) * 3 = i * 3 + 3 by omega, show i * 3 + 3 + 1 = i * 3 + 1 + 3 by omega, show i * 3 + 3 + 2 = i * 3 + 2 + 3 by omega, e, e, e]
      exact this

theorem prefix_at {α : Type} {pre X : List α} {x : α} (h : pre ++ [x] <+: X) : X[pre.length]? = some x := by
  obtain ⟨t, rfl⟩ := h
  simp

end Go.Proofs.Ytiiaamkmnbegdaa
