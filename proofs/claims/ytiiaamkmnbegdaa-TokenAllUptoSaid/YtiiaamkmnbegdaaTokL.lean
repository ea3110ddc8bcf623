/- Walks: the law TokenAll at a short text. -/
import Derived.Test.YtiiaamkmnbegdaaTokL1
namespace Go.Proofs.Ytiiaamkmnbegdaa
open Go.RowKit
attribute [local go_sem] Oper.semAt_some

set_option maxRecDepth 100000 in
set_option maxHeartbeats 2000000 in
theorem token_all_small (s : ByteArray) (leave : Int) (w : World) (hs : s.size ≤ 2000) :
    Calls Try.prog 3 #[.string s, .int .i64 leave] w fun e w' => e = .returned (.bool true) ∧ Below w.heap.size w w' := by
  refine (callsIn_wide (n := 9)).1 ?_
  obtain ⟨n, hn⟩ : ∃ n, n = 9 := ⟨_, rfl⟩
  rw [← hn]
  have h1 : 1 ≤ n := by omega
  have h2 : 1 ≤ n - 1 := by omega
  have h3 : 1 ≤ n - 1 - 1 := by omega
  have h4 : 1 ≤ n - 1 - 1 - 1 := by omega
  have h5 : 1 ≤ n - 1 - 1 - 1 - 1 := by omega
  have hF : ∀ f, WF.fn f := fun _ => trivial
  clear hn
  have hs2 : s.size ≤ 1099511627 := by omega
  have htl : (Tok.toks s.data.toList 0).1.length ≤ s.size := Nat.le_trans (Tok.toks_len _ _) (by simp)
  obtain ⟨X, hX⟩ : ∃ X, (Tok.toks s.data.toList 0).1.map (·.1) = X := ⟨_, rfl⟩
  obtain ⟨N, hN⟩ : ∃ N, X.length = N := ⟨_, rfl⟩
  obtain ⟨b, hb⟩ : ∃ b, badV (Tok.toks s.data.toList 0).2 = b := ⟨_, rfl⟩
  have hall : allOf s.data.toList = X := (allOf_short (by simpa using hs)).trans hX
  have htok : (Tok.toks s.data.toList 0).1.map (·.1) = X ∧ X.length = N ∧ badV (Tok.toks s.data.toList 0).2 = b := ⟨hX, hN, hb⟩
  have hNs : N ≤ 1048576 := by rw [← hN, ← hX, List.length_map]; omega
  clear hX hb htl
  replace hall := Lib.hid hall
  replace htok := Lib.hid htok
  replace hN := Lib.hid hN
  refine callsIn_of_wp_marks Try.func3 rfl trivial ?_ rfl
  simp only [Try.ntmps3, List.size_toArray, List.length_cons, List.length_nil, Nat.reduceAdd, Nat.reduceSub, Array.replicate_succ, Array.replicate_zero, List.push_toArray, List.append_toArray, List.nil_append, List.cons_append]
  have hmf : ∀ (fn : Fn) (first cap : Array Value) (w : World), (Instr.makeFunc fn first cap).run Try.prog w = .ok (.func fn first cap) w := fun _ _ _ _ => rfl
  gi_wp2_with (first
    | (gi_at_call 5; refine (callsIn_wide.2 (head_any _)).mono ?_; rintro e wh ⟨rfl, hbh⟩)
    | (gi_at_call 6; refine (callsIn_wide.2 (rtokens_is s _ htok hs2)).mono ?_; rintro e wt ⟨p, c, v2, rfl, hrow, hbt⟩)
    | (gi_at_call 7; refine (callsIn_wide.2 (all_any _ _)).mono ?_; rintro e w' ⟨rfl, rfl⟩))
  have bL : Boxed wt w.heap.size 3 (.int .i64 leave) := (hbt.block _ (by have := hbh.size; simp at this; omega)).trans ((hbh.block _ (by simp; omega)).trans ((Boxed.new w _ _).alloc _))
  have bR : Boxed wt (w.heap.size + 1) 4 (.bool false) := (hbt.block _ (by have := hbh.size; simp at this; omega)).trans ((hbh.block _ (by simp)).trans (by have := Boxed.new (w.alloc (.cells #[.int .i64 leave] 3)) 4 (.bool false); rw [World.size_alloc] at this; exact this))
  have hzh : w.heap.size + 2 ≤ wh.heap.size := by have := hbh.size; simp at this; omega
  have hzt : wh.heap.size ≤ wt.heap.size := hbt.size
  have hBt : Below w.heap.size w wt := ((((Below.refl _ w).alloc (Nat.le_refl _) _).alloc (by simp) _).trans (hbh.mono (by simp; omega))).trans (hbt.mono (by omega))
  obtain ⟨W0, hW0⟩ : ∃ W0, W0 = ((wt.alloc (.cells #[.slice p N c] 23)).alloc (.cells #[.int .i64 0] 3)).alloc (.cells #[.string s] 9) := ⟨_, rfl⟩
  have bW : Boxed W0 wt.heap.size 23 (.slice p N c) := by rw [hW0]; exact ((Boxed.new wt _ _).alloc _).alloc _
  have bK : Boxed W0 (wt.heap.size + 1) 3 (.int .i64 0) := by rw [hW0]; have := Boxed.new (wt.alloc (.cells #[.slice p N c] 23)) 3 (.int .i64 0); rw [World.size_alloc] at this; exact this.alloc _
  have bS : Boxed W0 (wt.heap.size + 1 + 1) 9 (.string s) := by rw [hW0]; have := Boxed.new ((wt.alloc (.cells #[.slice p N c] 23)).alloc (.cells #[.int .i64 0] 3)) 9 (.string s); rw [World.size_alloc, World.size_alloc] at this; exact this
  have hz0 : W0.heap.size = wt.heap.size + 3 := by rw [hW0]; simp
  have bL0 : Boxed W0 w.heap.size 3 (.int .i64 leave) := by rw [hW0]; exact ((bL.alloc _).alloc _).alloc _
  have bR0 : Boxed W0 (w.heap.size + 1) 4 (.bool false) := by rw [hW0]; exact ((bR.alloc _).alloc _).alloc _
  have hrow0 : W0.ownsRow wh.heap.size 32 3 (.slice p N c) N (tokC X) := by rw [hW0]; exact ((hrow.alloc _).alloc _).alloc _
  have hB0 : Below w.heap.size w W0 := by rw [hW0]; exact ((hBt.alloc hBt.size _).alloc (by simp; omega) _).alloc (by simp; omega) _
  rw [← hW0]
  clear hW0 bL bR hrow hBt hbh hbt
  refine range_law_high (gf := 15) (lb := #[.pointer (some ⟨wt.heap.size + 1 + 1, 0, none⟩)]) rfl (enters_of Try.func15 (by kernel_rfl) rfl)
    (Kp := fun k => k = wt.heap.size + 1 + 1) (by rintro k rfl; omega)
    (all1_seq (n - 1) _ s (by omega) W0 h2 h3 h4 h5 (by omega) bS.cell) (fun _ => rfl)
    (fun pre V => Boxed V (wt.heap.size + 1) 3 (.int .i64 (pre.length : Int)) ∧ Boxed V wt.heap.size 23 (.slice p N c) ∧ V.ownsRow wh.heap.size 32 3 (.slice p N c) N (tokC X) ∧ Boxed V w.heap.size 3 (.int .i64 leave) ∧ Boxed V (w.heap.size + 1) 4 (.bool false) ∧ Boxed V (wt.heap.size + 1 + 1) 9 (.string s) ∧ Below w.heap.size w V)
    (fun cd _ V => cd = .ret ∧ Boxed V (w.heap.size + 1) 4 (.bool true) ∧ Below w.heap.size w V) ?hI ?hIx ?h0
    (fun x a' V => ∃ Bx, W0.heap.size ≤ Bx ∧ V.heap[Bx]? = some (.cells #[.int .i64 (x.kind : Int), .int .i64 (x.at_ : Int), .string (bs x.text)] 32 (0, 0)) ∧ a' = { tmps := #[.string s, .int .i64 leave, undef, .pointer (some ⟨w.heap.size, 0, none⟩), .pointer (some ⟨w.heap.size + 1, 0, none⟩), .pointer (some ⟨wt.heap.size, 0, none⟩), v2, .int .i64 b, .pointer (some ⟨wt.heap.size + 1, 0, none⟩), .pointer (some ⟨Bx, 0, none⟩), .bool true, .bool false, .tuple #[.slice p N c, v2, .int .i64 b], .string s, .tuple #[.slice p N c, v2, .int .i64 b], .slice p N c, v2, .int .i64 b, .string s, .int .i64 (s.size : Int), .bool (decide (2000 < (s.size : Int))), .string s, .func (.func 15) #[] #[.pointer (some ⟨wt.heap.size + 1 + 1, 0, none⟩)], .agg #[.int .i64 (x.kind : Int), .int .i64 (x.at_ : Int), .string (bs x.text)], undef, undef, undef, undef, undef, undef, undef, undef, undef, undef, undef, undef, undef, undef, undef, undef, undef, undef, undef, undef, undef, undef, undef, undef, undef], defers := [] }) ?hAx ?assign ?body ?done ?stop
  case hI =>
    exact OwnFrom.and (boxed_from _ _ (fun pre : List Tok.T => .int .i64 (pre.length : Int)) _) (OwnFrom.and (boxed_from _ _ (fun _ => .slice p N c) _) (OwnFrom.and (row_from _ _ _ _ _ _ _) (OwnFrom.and (boxed_from _ _ (fun _ => .int .i64 leave) _) (OwnFrom.and (boxed_from _ _ (fun _ => .bool false) _) (OwnFrom.and (boxed_from _ _ (fun _ => .string s) _) (ownFrom_below (Nat.le_refl _) (by omega)))))))
  case hIx => exact fun cd => OwnFrom.and (fun _ _ _ _ h _ _ => h) (OwnFrom.and (boxed_from _ _ (fun _ => .bool true) _) (ownFrom_below (Nat.le_refl _) (by omega)))
  case h0 => exact ⟨bK, bW, hrow0, bL0, bR0, bS, hB0⟩
  case hAx =>
    rintro x a' u A C row ⟨Bx, hBx, hx, he⟩ hg hr
    exact ⟨Bx, hBx, block_from (β := Unit) Bx 32 (fun _ => #[.int .i64 (x.kind : Int), .int .i64 (x.at_ : Int), .string (bs x.text)]) (0, 0) _ () A C row hx hg hr, he⟩
  case assign =>
    intro l2 pre x V K hi hK
    have hz : wt.heap.size + 1 + 1 < V.heap.size := hi.2.2.2.2.2.1.lt
    simp only [encA]
    gi_wp2
    obtain ⟨hbK, hbW, hr, hbL, hbR, hbS, hB⟩ := hi
    exact hK _ _ (High.alloc _ _ _) (Keeps.alloc _ _ (by rintro k rfl; omega)) ⟨hbK.alloc _, hbW.alloc _, hr.alloc _, hbL.alloc _, hbR.alloc _, hbS.alloc _, hB.alloc hB.size _⟩ ⟨V.heap.size, by omega, heap_new _ _, rfl⟩
  case body =>
    rintro l2 pre x a' V ⟨hbK, hbW, hr, hbL, hbR, hbS, hB⟩ ⟨Bx, hBx, hx, rfl⟩ hlt hsp
    rw [hall.out] at hlt hsp
    rw [hN.out] at hlt
    obtain ⟨g, cap, hform, _, hg⟩ := hr.form (by omega)
    simp only [Value.slice.injEq, true_and] at hform
    obtain ⟨rfl, rfl⟩ := hform
    obtain ⟨t0, t1, t2⟩ := tokC_at X _ x (prefix_at hsp)
    have r0 := (hr.cellAt (pre.length * 3) (by omega)).trans t0
    have r1 := (hr.cellAt (pre.length * 3 + 1) (by omega)).trans t1
    have r2 := (hr.cellAt (pre.length * 3 + 2) (by omega)).trans t2
    have c0 := cell_of_row V Bx 0 _ _ _ hx
    have c1 := cell_of_row V Bx 1 _ _ _ hx
    have c2 := cell_of_row V Bx 2 _ _ _ hx
    have cK := hbK.cell
    have cW := hbW.cell
    have cL := hbL.cell
    have fK := hbK.frozen
    have fR := hbR.frozen
    have cR := hbR.cell
    have i0 : (0 : Int) ≤ (pre.length : Int) := by omega
    have i1 : (pre.length : Int) < (N : Int) := by omega
    have i2 : decide ((pre.length : Int) ≥ (N : Int)) = false := by simp; omega
    have i3 : decide ((N : Int) ≤ (pre.length : Int)) = false := by simp; omega
    clear t0 t1 t2
    have hlp : (pre ++ [x]).length = pre.length + 1 := by simp
    replace hlp := Lib.hid hlp
    have hne : v2 = v2 := rfl
    clear hne hx
    have hzV : wt.heap.size + 1 + 1 < V.heap.size := hbS.lt
    by_cases hL : (pre.length : Int) + 1 = leave
    · have hLB : (((pre.length : Int) + 1) == leave) = true := by simpa using hL
      have hLH := Lib.hid hL
      clear hL
      gi_wp2
      gi_region
      all_goals gi_wp2_with (gi_at_call 5; refine (calls_round (head_any _)).mono ?_; rintro e V2 ⟨rfl, hb2⟩; have b2R : Boxed V2 (w.heap.size + 1) 4 (.bool false) := (hb2.block _ (by simp; omega)).trans (Boxed.other hbR (by omega) _); have c2R := b2R.cell; have f2R := b2R.frozen)
      all_goals
        refine ⟨(((High.setCell W0.heap.size V ⟨wt.heap.size + 1, 0, none⟩ _ (by simp; omega)).drew).trans (High.of_below hb2)).trans (High.setCell _ V2 _ _ (by simp; omega)), rfl, b2R.set _, ?_⟩
        exact ((((hB.setCell (p := ⟨wt.heap.size + 1, 0, none⟩) (by simp; omega) _).drew).trans (hb2.mono (by simp; omega)))).setCell (by simp) _
    · have hLB : (((pre.length : Int) + 1) == leave) = false := by simpa using hL
      have hLH := Lib.hid hL
      clear hL
      gi_wp2
      gi_region
      all_goals (try gi_wp2)
      all_goals
        refine ⟨(High.setCell W0.heap.size V ⟨wt.heap.size + 1, 0, none⟩ _ (by simp; omega)).drew, (Keeps.setCell V ⟨wt.heap.size + 1, 0, none⟩ _ (by simp)).drew, ?_, Boxed.other hbW (by omega) _, World.ownsRow.drew (hr.kept (grownBy_setCell' V (wt.heap.size + 1) _) (.inr (hbK.not_row (by decide) hr).symm)), Boxed.other hbL (by omega) _, Boxed.other hbR (by omega) _, Boxed.other hbS (by omega) _, (hB.setCell (p := ⟨wt.heap.size + 1, 0, none⟩) (by simp; omega) _).drew⟩
        rw [hlp.out]
        exact hbK.set _
  case done =>
    rintro D xs V hD hS ⟨hbK, hbW, hr, hbL, hbR, hbS, hB⟩ hK
    have hlen : xs.length = N := by rw [hS, hall.out, hN.out]
    rw [hlen] at hbK
    clear hlen hS
    have hzV : wt.heap.size + 1 + 1 < V.heap.size := hbS.lt
    have hDV := (Array.getElem?_eq_some_iff.1 hK).1
    gi_wp2_with (gi_at_call 5; refine (callsIn_wide.2 (head_any _)).mono ?_; rintro e V2 ⟨rfl, hb2⟩; have b2K : Boxed V2 _ _ _ := (hb2.block _ hbK.lt).trans hbK; have b2W : Boxed V2 _ _ _ := (hb2.block _ hbW.lt).trans hbW; have b2R : Boxed V2 _ _ _ := (hb2.block _ hbR.lt).trans hbR; have c2K := b2K.cell; have c2W := b2W.cell; have c2R := b2R.cell; have f2R := b2R.frozen)
    have hKU : (V2.setCell ⟨w.heap.size + 1, 0, none⟩ (.bool true)).heap[D]? = some (.deferred (some [])) := (Below.heap_setCell V2 _ _ D (show D ≠ w.heap.size + 1 by omega)).trans ((hb2.block D hDV).trans hK)
    have cF : ((V2.setCell ⟨w.heap.size + 1, 0, none⟩ (.bool true)).putObj D (.deferred none)).cell? ⟨w.heap.size + 1, 0, none⟩ = some (.bool true) := (World.cell?_of_block (World.putObj_heap_other (by dsimp only; omega))).trans (b2R.set _).cell
    have hBU : Below w.heap.size w (V2.setCell ⟨w.heap.size + 1, 0, none⟩ (.bool true)) := (hB.trans (hb2.mono hB.size)).setCell (by simp) _
    refine ⟨by simp, .inl ⟨_, _, rfl, run_takeDeferred hKU, ?_⟩⟩
    refine ⟨.bool true, by simp only [results, Try.results3]; go_simp, rfl, hBU.trans (belowK_b (w := w) (Nat.le_refl _) _ D _ _ (by omega) hKU rfl rfl)⟩
  case stop =>
    rintro D cd pre V hD hSp ⟨rfl, hbR, hB⟩ hK
    gi_wp2
    have hKU : V.heap[D]? = some (.deferred (some [])) := hK
    have cF : (V.putObj D (.deferred none)).cell? ⟨w.heap.size + 1, 0, none⟩ = some (.bool true) := (World.cell?_of_block (World.putObj_heap_other (by dsimp only; omega))).trans (hbR).cell
    have hBU : Below w.heap.size w V := hB
    refine ⟨by simp, .inl ⟨_, _, rfl, run_takeDeferred hKU, ?_⟩⟩
    refine ⟨.bool true, by simp only [results, Try.results3]; go_simp, rfl, hBU.trans (belowK_b (w := w) (Nat.le_refl _) _ D _ _ (by omega) hKU rfl rfl)⟩

end Go.Proofs.Ytiiaamkmnbegdaa
