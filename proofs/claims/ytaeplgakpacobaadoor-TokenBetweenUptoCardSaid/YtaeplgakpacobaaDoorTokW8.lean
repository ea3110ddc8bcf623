/- Walks: Scan. -/
import Derived.Test.YtaeplgakpacobaaDoorTokW7
set_option maxRecDepth 100000
set_option linter.unusedVariables false
set_option linter.unusedSimpArgs false
namespace Go.Proofs.YtaeplgakpacobaaDoor
open Go.RowKit
attribute [local go_sem] Oper.semAt_some

theorem tok_info : (Tryd.prog.info? 32).map (fun i => (i.zero, i.size, i.bytes)) = some (some (.agg #[.int .i64 0, .int .i64 0, .string ⟨#[]⟩]), 3, 32) := by kernel_rfl
theorem one_tok (k a : Int) (t : ByteArray) : ∀ u ∈ (#[Value.int .i64 k, Value.int .i64 a, .string t] : Array Value).toList, u.oneCell' = true := by
  intro u hu
  simp at hu
  rcases hu with rfl | rfl | rfl <;> rfl

/-- the cells of tokens -/
def tokC (l : List Tok.T) : List Value := l.flatMap fun t => [.int .i64 (t.kind : Int), .int .i64 (t.at_ : Int), .string (bs t.text)]
theorem tokC_snoc (l : List Tok.T) (t : Tok.T) : tokC (l ++ [t]) = tokC l ++ [.int .i64 (t.kind : Int), .int .i64 (t.at_ : Int), .string (bs t.text)] := by simp [tokC]

/-- what Scan answers -/
def ScanP (s : ByteArray) (w : World) (e : Ending) (w' : World) : Prop :=
  ∃ v, e = .returned (.tuple #[v, .int .i64 ((Tok.scan s.data.toList).2.1 : Int), .int .i64 ((Tok.scan s.data.toList).2.2 : Int)]) ∧ w'.ownsRow w.heap.size 32 3 v (Tok.scan s.data.toList).1.length (tokC (Tok.scan s.data.toList).1) ∧ Below w.heap.size w w'

theorem bad_any (b : Int) (p : Nat) (w : World) (u : Value) (hc : w.cell? ⟨p, 0, none⟩ = some u) (hf : w.frozen? ⟨p, 0, none⟩ = false) :
    Calls Tryd.prog 21 #[.int .i64 b, .pointer (some ⟨p, 0, none⟩)] w fun e w' => e = .returned (.tuple #[]) ∧ w' = w.setCell ⟨p, 0, none⟩ (.int .i64 b) := by
  go_enter Tryd.func21, Tryd.ntmps21
  go_wp2
  go_end0
  exact ⟨rfl, rfl⟩

theorem scan_big (s : ByteArray) (w : World) (hs : s.size ≤ 4294967296) (hb : 2000 < s.size) : Calls Tryd.prog 7 #[.string s] w (ScanP s w) := by
  go_enter Tryd.func7, Tryd.ntmps7
  go_wp2
  go_ret3
  refine ⟨.slice none 0 0, ?_, ?_, Below.refl _ _⟩
  · rw [Tok.scan_long hb]; rfl
  · rw [Tok.scan_long hb]; exact World.ownsRow_nil _ _ _ _

set_option maxRecDepth 100000 in
set_option maxHeartbeats 2000000 in
theorem scan_small (s : ByteArray) (w : World) (hs : s.size ≤ 2000) : Calls Tryd.prog 7 #[.string s] w (ScanP s w) := by
  refine (callsIn_wide (n := 9)).1 ?_
  obtain ⟨n, hn⟩ : ∃ n, n = 9 := ⟨_, rfl⟩
  rw [← hn]
  have h1 : 1 ≤ n := by omega
  have h2 : 1 ≤ n - 1 := by omega
  have h3 : 1 ≤ n - 1 - 1 := by omega
  have hF : ∀ f, WF.fn f := fun _ => trivial
  have htl : (Tok.toks s.data.toList 0).1.length ≤ 2000 := Nat.le_trans (Tok.toks_len _ _) (by simpa using hs)
  clear hn
  have hsn : ¬ 2000 < s.data.toList.length := by simpa using hs
  replace hsn := Lib.hid hsn
  refine callsIn_of_wp_marks Tryd.func7 rfl trivial ?_ rfl
  simp only [Tryd.ntmps7, List.size_toArray, List.length_cons, List.length_nil, Nat.reduceAdd, Nat.reduceSub, Array.replicate_succ, Array.replicate_zero, List.push_toArray, List.append_toArray, List.nil_append, List.cons_append]
  have hmf : ∀ (fn : Fn) (first cap : Array Value) (w : World), (Instr.makeFunc fn first cap).run Tryd.prog w = .ok (.func fn first cap) w := fun _ _ _ _ => rfl
  gi_wp2_with (gi_at_call 20; refine (callsIn_wide.2 (tokens_any _ _ _ _ _)).mono ?_; rintro e w' ⟨rfl, rfl⟩)
  obtain ⟨W0, hW0⟩ : ∃ W0, W0 = (((w.alloc (.cells #[.int .i64 (-1)] 3)).alloc (.cells #[.slice none 0 0] 22)).alloc (.cells #[.string s] 9)).alloc (.cells #[.func (.func 21) #[] #[.pointer (some ⟨w.heap.size, 0, none⟩)]] 51) := ⟨_, rfl⟩
  have bB : Boxed W0 w.heap.size 3 (.int .i64 (-1)) := by rw [hW0]; exact (((Boxed.new w _ _).alloc _).alloc _).alloc _
  have bO : Boxed W0 (w.heap.size + 1) 22 (.slice none 0 0) := by
    rw [hW0]; have := Boxed.new (w.alloc (.cells #[.int .i64 (-1)] 3)) 22 (.slice none 0 0); rw [World.size_alloc] at this; exact (this.alloc _).alloc _
  have bS : Boxed W0 (w.heap.size + 1 + 1) 9 (.string s) := by
    rw [hW0]; have := Boxed.new ((w.alloc (.cells #[.int .i64 (-1)] 3)).alloc (.cells #[.slice none 0 0] 22)) 9 (.string s); rw [World.size_alloc, World.size_alloc] at this; exact this.alloc _
  have bW : Boxed W0 (w.heap.size + 1 + 1 + 1) 51 (.func (.func 21) #[] #[.pointer (some ⟨w.heap.size, 0, none⟩)]) := by
    rw [hW0]; have := Boxed.new (((w.alloc (.cells #[.int .i64 (-1)] 3)).alloc (.cells #[.slice none 0 0] 22)).alloc (.cells #[.string s] 9)) 51 (.func (.func 21) #[] #[.pointer (some ⟨w.heap.size, 0, none⟩)]); rw [World.size_alloc, World.size_alloc, World.size_alloc] at this; exact this
  have hB0 : Below w.heap.size w W0 := by rw [hW0]; exact ((((Below.refl _ w).alloc (Nat.le_refl _) _).alloc (by simp) _).alloc (by simp; omega) _).alloc (by simp; omega) _
  have hz0 : W0.heap.size = w.heap.size + 4 := by rw [hW0]; simp
  rw [← hW0]
  clear hW0
  refine range_law (β := Nat) (gf := 45) (lb := #[.pointer (some ⟨w.heap.size + 1 + 1, 0, none⟩), .pointer (some ⟨w.heap.size + 1 + 1 + 1, 0, none⟩)]) rfl (enters_of Tryd.func45 (by kernel_rfl) rfl)
    (Kp := fun k => k = w.heap.size + 1 + 1 ∨ k = w.heap.size + 1 + 1 + 1) (by rintro k (rfl | rfl) <;> omega)
    (tokens_seq (n - 1) _ _ _ _ s (by omega) W0 h2 (by omega) (by omega) bS.cell bW.cell (enters_of Tryd.func21 (by kernel_rfl) rfl)) (fun _ => rfl)
    (fun pre W => (∃ v, Boxed W (w.heap.size + 1) 22 v ∧ W.ownsRow w.heap.size 32 3 v pre.length (tokC (pre.map (·.1)))) ∧ Boxed W w.heap.size 3 (.int .i64 (-1)) ∧ Boxed W (w.heap.size + 1 + 1) 9 (.string s) ∧ Boxed W (w.heap.size + 1 + 1 + 1) 51 (.func (.func 21) #[] #[.pointer (some ⟨w.heap.size, 0, none⟩)]) ∧ Below w.heap.size w W)
    (fun _ _ _ => False)
    (fun b _ W => Boxed W w.heap.size 3 (.int .i64 (b : Int)) ∧ Below w.heap.size w W) ?hI ?hIx ?hIb ?h0
    (fun x a' W => ∃ Bx, W0.heap.size ≤ Bx ∧ W.heap[Bx]? = some (.cells #[.int .i64 (x.1.kind : Int), .int .i64 (x.1.at_ : Int), .string (bs x.1.text)] 32 (0, 0)) ∧ a' = { tmps := #[.string s, undef, .slice none 0 0, .int .i64 0, .int .i64 0, .pointer (some ⟨w.heap.size, 0, none⟩), .pointer (some ⟨w.heap.size + 1, 0, none⟩), undef, .pointer (some ⟨Bx, 0, none⟩), .string s, .int .i64 (s.size : Int), .bool (decide (2000 < (s.size : Int))), .string s, .func (.func 21) #[] #[.pointer (some ⟨w.heap.size, 0, none⟩)], .func (.func 45) #[] #[.pointer (some ⟨w.heap.size + 1 + 1, 0, none⟩), .pointer (some ⟨w.heap.size + 1 + 1 + 1, 0, none⟩)], .int .i64 (x.2 : Int), .agg #[.int .i64 (x.1.kind : Int), .int .i64 (x.1.at_ : Int), .string (bs x.1.text)], undef, undef, undef, undef, undef, undef, undef, undef], defers := [] }) ?hAx ?assign ?body ?bad ?done ?wrong ?stop
  case hI =>
    exact OwnFrom.and (holds_row w.heap.size (w.heap.size + 1) 22 32 3 (fun pre : List (Tok.T × Nat) => pre.length) (fun pre => tokC (pre.map (·.1))) _)
      (OwnFrom.and (boxed_from _ _ (fun _ => .int .i64 (-1)) _) (OwnFrom.and (boxed_from _ _ (fun _ => .string s) _) (OwnFrom.and (boxed_from _ _ (fun _ => .func (.func 21) #[] #[.pointer (some ⟨w.heap.size, 0, none⟩)]) _) (ownFrom_below (Nat.le_refl _) (by omega)))))
  case hIx => exact fun _ _ _ _ _ h _ _ => h
  case hIb => exact fun b => OwnFrom.and (Own.from (boxed_own _ _ (fun _ => .int .i64 (b : Int))) _) (ownFrom_below (Nat.le_refl _) (by omega))
  case h0 => exact ⟨⟨_, bO, World.ownsRow_nil _ _ _ _⟩, bB, bS, bW, hB0⟩
  case hAx =>
    rintro x a' u A C row ⟨Bx, hBx, hx, he⟩ hg hr
    exact ⟨Bx, hBx, block_from (β := Unit) Bx 32 (fun _ => #[.int .i64 (x.1.kind : Int), .int .i64 (x.1.at_ : Int), .string (bs x.1.text)]) (0, 0) _ () A C row hx hg hr, he⟩
  case assign =>
    intro l pre x W K hi hK
    have hz : w.heap.size + 1 + 1 + 1 < W.heap.size := hi.2.2.2.1.lt
    simp only [pairV]
    gi_wp2
    obtain ⟨⟨v, hv, hrow⟩, hbB, hbS, hbW, hB⟩ := hi
    exact hK _ _ ((KeepsOthers.alloc _ _).from _) (Keeps.alloc _ _ (by rintro k (rfl | rfl) <;> omega)) ⟨⟨v, hv.alloc _, hrow.alloc _⟩, hbB.alloc _, hbS.alloc _, hbW.alloc _, hB.alloc hB.size _⟩ ⟨W.heap.size, by omega, heap_new _ _, rfl⟩
  case body =>
    rintro l pre x a' W ⟨⟨v, hv, hrow⟩, hbB, hbS, hbW, hB⟩ ⟨Bx, hBx, hx, rfl⟩ hlt _
    have cO := hv.cell
    have fO := hv.frozen
    have c0 := cell_of_row W Bx 0 _ _ _ hx
    have c1 := cell_of_row W Bx 1 _ _ _ hx
    have c2 := cell_of_row W Bx 2 _ _ _ hx
    have hz : w.heap.size + 1 + 1 + 1 < W.heap.size := hbW.lt
    gi_wp2_with (gi_at_builtin; go_must (refine wpListIn_push rfl _ _ 22 rfl w.heap.size 32 Tryd.underlying22 tok_info rfl (by decide) _ _ _ rfl hrow _ rfl rfl (one_tok _ _ _) (by omega) (by decide) hB.size ?_); intro v' w1 hown' hb' hv' hg'; have P := box_push hv (by decide) hrow hB.size (by omega) hown' hg'; have cO1 := P.still.cell; have fO1 := P.still.frozen; obtain ⟨g', cap', rfl⟩ := hv')
    have hnotS : ∀ k, (k = w.heap.size + 1 + 1 ∨ k = w.heap.size + 1 + 1 + 1) → some k ≠ v.ownBlock := by
      rintro k (rfl | rfl)
      · exact hbS.not_row (by decide) hrow
      · exact hbW.not_row (by decide) hrow
    refine ⟨P.others.from _, P.keeps _ (by rintro k (rfl | rfl) <;> omega) hnotS (by omega), ⟨⟨_, P.box, ?_⟩, P.boxes _ _ _ (by omega) (by decide) hbB, P.boxes _ _ _ (by omega) (by decide) hbS, P.boxes _ _ _ (by omega) (by decide) hbW, hB.trans P.below⟩⟩
    rw [List.length_append, List.map_append]
    simp only [List.length_cons, List.length_nil, List.map_cons, List.map_nil, tokC_snoc]
    exact P.row
  case bad =>
    rintro pre b W ⟨⟨v, hv, hrow⟩, hbB, hbS, hbW, hB⟩
    refine (callsIn_wide.2 (bad_any b _ W _ hbB.cell hbB.frozen)).mono ?_
    rintro e W' ⟨rfl, rfl⟩
    exact ⟨rfl, (KeepsOthers.setCell _ _ _).from _, hbB.set _, hB.setCell (p := ⟨w.heap.size, 0, none⟩) (Nat.le_refl _) _⟩
  case done =>
    rintro D ys W hD hS ⟨⟨v, hv, hrow⟩, hbB, hbS, hbW, hB⟩ hK
    have cB := hbB.cell
    have cO := hv.cell
    gi_wp2
    refine ⟨by simp, .inl ⟨_, _, rfl, run_takeDeferred hK, ?_⟩⟩
    refine ⟨_, results_tmp3 rfl _ _ _, v, ?_, ?_, ?_⟩
    · rw [Tok.scan_ok hsn.out hS]; rfl
    · rw [Tok.scan_ok hsn.out hS]; simpa using ownsRow_putObj hrow _ hK rfl
    · exact hB.trans (belowK_b (w := w) (Nat.le_refl _) W D _ _ (by omega) hK rfl rfl)
  case wrong =>
    rintro D b ys W hD hS ⟨hbB, hB⟩ hK
    have cB := hbB.cell
    gi_wp2
    gi_region
    all_goals (try gi_wp2)
    all_goals
      refine ⟨by simp, .inl ⟨_, _, rfl, run_takeDeferred (w := W.drew) hK, ?_⟩⟩
      refine ⟨_, results_tmp3 rfl _ _ _, .slice none 0 0, ?_, ?_, ?_⟩
      · rw [Tok.scan_bad hsn.out hS]; rfl
      · rw [Tok.scan_bad hsn.out hS]; exact World.ownsRow_nil _ _ _ _
      · exact (hB.drew).trans (belowK_b (w := w) (Nat.le_refl _) W.drew D _ _ (by omega) hK rfl rfl)
  case stop => rintro D c pre W _ _ h _; exact h.elim

theorem scan_any (s : ByteArray) (w : World) (hs : s.size ≤ 4294967296) : Calls Tryd.prog 7 #[.string s] w (ScanP s w) := by
  by_cases h : 2000 < s.size
  · exact scan_big s w hs h
  · exact scan_small s w (by omega)

end Go.Proofs.YtaeplgakpacobaaDoor
