/- Walks: Sort (package sorter). -/
import Derived.Test.YtdapnemcdgjeeaaDoorSor1
import Derived.Test.YtdapnemcdgjeeaaDoorSrt5
set_option maxRecDepth 100000
set_option linter.unusedVariables false
set_option linter.unusedSimpArgs false
namespace Go.Proofs.YtdapnemcdgjeeaaDoor
open Go.RowKit
open Go.Proofs.YtdapnemcdgjeeaaDoor.Ord (atV firstV standV mayRow MRow ltR ltR_swo)
open Go.Proofs.YtdapnemcdgjeeaaDoor.Stb (SWO isort ins seg)

theorem swo_map {α β : Type} {lt : β → β → Bool} (h : SWO lt) (m : α → β) : SWO (fun x y => lt (m x) (m y)) := ⟨fun a => h.irr _, fun a b c => h.trans _ _ _, fun a b c => h.ntrans _ _ _⟩
theorem ins_map {α β : Type} {lt : α → α → Bool} {lt' : β → β → Bool} (m : α → β) (h : ∀ x y, lt x y = lt' (m x) (m y)) (x : α) : ∀ l : List α, (ins lt x l).map m = ins lt' (m x) (l.map m) := by
  intro l
  induction l with
  | nil => rfl
  | cons y l ih =>
    show (ins lt x (y :: l)).map m = ins lt' (m x) (m y :: l.map m)
    unfold ins
    rw [h y x]
    split
    · rw [List.map_cons, ih]
    · rfl
theorem isort_map {α β : Type} {lt : α → α → Bool} {lt' : β → β → Bool} (m : α → β) (h : ∀ x y, lt x y = lt' (m x) (m y)) : ∀ l : List α, (isort lt l).map m = isort lt' (l.map m) := by
  intro l
  induction l with
  | nil => rfl
  | cons x l ih =>
    show (ins lt x (isort lt l)).map m = ins lt' (m x) (isort lt' (l.map m))
    rw [ins_map m h, ih]
/-- rows in order -/
def ltV (ks : List Ord.Key) (width : Int) (a b : List Val.V) : Bool := decide (standV ks width a b < 0)
def sortV (ks : List Ord.Key) (width : Int) (rows : List (List Val.V)) : List (List Val.V) := isort (ltV ks width) rows

/-- a row that is sorted: the value, what it reads as -/
structure El (W0 : World) (B : Nat) where
  u : Value
  row : List Val.V
  el : ElAt W0 (some B) u row
  may : mayRow row
  len : row.length ≤ 1048576
  txt : ∀ v ∈ row, v.text.length ≤ 1048576

theorem cmp_ok {W0 : World} {B : Nat} (sk : Option Addr) (KN kc : Nat) (ks : List Ord.Key) (width : Int) (g1 g2 : Nat) (hK : KeysAt W0 sk KN ks) (hKB : ks = [] ∨ ∀ b off, sk = some ⟨b, off, none⟩ → b ≠ B) (hKN : KN ≤ 1048576)
    (h1 : W0.cell? ⟨g1, 0, none⟩ = some (.slice sk KN kc)) (h2 : W0.cell? ⟨g2, 0, none⟩ = some (.int .i64 width)) (l1 : g1 < W0.heap.size) (l2 : g2 < W0.heap.size) (n1 : g1 ≠ B) (n2 : g2 ≠ B) :
    Srt.CmpOk (fun x : El W0 B => x.u) (fun x y => ltV ks width x.row y.row) W0 B (.pointer (some ⟨g1, 0, none⟩)) (.pointer (some ⟨g2, 0, none⟩)) := by
  intro W hW x y
  obtain ⟨q, c, hu, hs, hv, hne⟩ := x.el
  obtain ⟨q', c', hu', hs', hv', hne'⟩ := y.el
  have far : ∀ {b off : Nat}, b < W0.heap.size → b ≠ B → W.cell? ⟨b, off, none⟩ = W0.cell? ⟨b, off, none⟩ := fun hl hb => hW.cell_far ⟨_, _, none⟩ hl (fun e => hb (by injection e))
  have hKW : KeysAt W sk KN ks := by
    refine ⟨hK.1, ?_⟩
    rcases hK.2 with h0 | ⟨b, off, rfl, hl, hc⟩
    · exact .inl h0
    · rcases hKB with h0 | hKB
      · exact .inl h0
      · have hb := hKB b off rfl
        refine .inr ⟨b, off, rfl, Nat.lt_of_lt_of_le hl hW.size, fun i k hk => ?_⟩
        obtain ⟨c0, c1, c2⟩ := hc i k hk
        exact ⟨(far hl hb).trans c0, (far hl hb).trans c1, (far hl hb).trans c2⟩
  have hvW := vals_kept hv hW hne
  have hvW' := vals_kept hv' hW hne'
  simp only [hu, hu']
  refine (order_is q x.row.length c q' y.row.length c' x.row y.row sk KN kc ks width g1 g2 W hvW hvW' hKW ((far l1 n1).trans h1) ((far l2 n2).trans h2) (Nat.lt_of_lt_of_le l2 hW.size) x.len y.len hKN hs.1 hs'.1 x.txt y.txt _ (Lib.hid rfl)).mono ?_
  rintro e w' ⟨rfl, hb⟩
  exact ⟨_, rfl, by unfold ltV; simp, hb⟩

theorem insertion_nil (c : Nat) (fv : Value) (w : World) : Calls Tryd.prog 50 #[.slice none 0 c, .int .i64 0, .int .i64 0, fv] w fun e w' => e = .returned (.tuple #[]) ∧ w' = w := by
  go_enter Tryd.func50, Tryd.ntmps50
  go_wp2
  refine wp_loop_rounds 1 ?_
  rw [rounds_succ]
  go_wp2
  go_end0
  exact ⟨rfl, rfl⟩
theorem stable_nil (c : Nat) (fv : Value) (w : World) : Calls Tryd.prog 40 #[.slice none 0 c, .int .i64 0, fv] w fun e w' => e = .returned (.tuple #[]) ∧ w' = w := by
  go_enter Tryd.func40, Tryd.ntmps40
  go_wp2
  refine wp_loop_rounds 1 ?_
  rw [rounds_succ]
  go_wp2_with (go_at_call 50; refine (insertion_nil c fv _).mono ?_; rintro e w1 ⟨rfl, rfl⟩)
  refine wp_loop_rounds 1 ?_
  rw [rounds_succ]
  go_wp2
  go_end0
  exact ⟨rfl, rfl⟩
theorem sortStable_nil (c : Nat) (fv : Value) (w : World) : Calls Tryd.prog 33 #[.slice none 0 c, fv] w fun e w' => e = .returned (.tuple #[]) ∧ w' = w := by
  go_enter Tryd.func33, Tryd.ntmps33
  go_wp2_with (go_at_call 40; refine (stable_nil c fv _).mono ?_; rintro e w1 ⟨rfl, rfl⟩)
  go_end0
  exact ⟨rfl, rfl⟩
end Go.Proofs.YtdapnemcdgjeeaaDoor
