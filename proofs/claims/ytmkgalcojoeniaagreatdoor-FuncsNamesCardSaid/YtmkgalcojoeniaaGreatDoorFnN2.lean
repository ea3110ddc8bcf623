/- Walks: the law FuncsNames. -/
import Derived.Test.YtmkgalcojoeniaaGreatDoorFnN1
set_option maxRecDepth 100000
set_option linter.unusedVariables false
set_option linter.unusedSimpArgs false
namespace Go.Proofs.YtmkgalcojoeniaaGreatDoor
open Go.RowKit
attribute [local go_sem] Oper.semAt_some

theorem row_shape18 {w : World} {base : Nat} {e : TypeId} {size : Nat} {v : Value} {n : Nat} {xs : List Value} (h : w.ownsRow base e size v n xs) : ∃ p c, v = .slice p n c := by
  rcases h.2 with ⟨rfl, rfl⟩ | ⟨g, cap, cur, rfl, _⟩
  · exact ⟨_, _, rfl⟩
  · exact ⟨_, _, rfl⟩
theorem calls_round18 {k m : Nat} {P : Program} {f : FuncId} {args : Array Value} {w : World} {R : Ending → World → Prop} (h : Calls P f args w R) : CallsIn (WF.inRound k) m P f args w R :=
  ⟨trivial, fun cs _ => ((callsIn_wide (n := m)).2 h).2 cs (room_wide _)⟩
theorem row_from18 {β : Type} (b : Nat) (e : TypeId) (size : Nat) (v : Value) (n : Nat) (xs : List Value) (X : Nat) : OwnFrom X (fun (_ : β) W => W.ownsRow b e size v n xs) := fun _ A C row hs hg hr => by
  refine hs.kept hg ?_
  rcases hs.2 with ⟨rfl, _⟩ | ⟨g, cap, cur, rfl, _, hgb, _⟩
  · exact .inl rfl
  · refine .inr fun e => ?_
    obtain ⟨_, o, ho, hc⟩ := hr g (by rw [← e]; rfl)
    rw [hgb] at ho; cases ho; cases hc
theorem prefix_at18 {α : Type} {pre X : List α} {x : α} (h : pre ++ [x] <+: X) : X[pre.length]? = some x := by
  obtain ⟨t, rfl⟩ := h
  simp

theorem rnames18_any (w : World) : Calls Tryz.prog 16 #[] w fun e w' => ∃ p c, e = .returned (.slice p 20 c) ∧ w'.ownsRow w.heap.size 9 1 (.slice p 20 c) 20 (strC fnames) ∧ Below w.heap.size w w' := by
  go_enter Tryz.func16, Tryz.ntmps16
  go_wp2_with fail
  refine (rwords_any _ fnames _ (by decide) (Lib.hid (by decide +kernel))).mono ?_
  rintro e w1 ⟨v, rfl, hrow, hb⟩
  have h20 : fnames.length = 20 := rfl
  rw [h20] at hrow
  obtain ⟨p, c, rfl⟩ := row_shape18 hrow
  go_wp2
  go_ret
  exact ⟨p, c, rfl, hrow, hb⟩
theorem names18_any (w : World) : Calls Tryz.prog 17 #[] w fun e w' => e = .returned (.func (.func 40) #[] #[]) ∧ w' = w := by
  go_enter Tryz.func17, Tryz.ntmps17
  go_wp2
  go_ret
  exact ⟨rfl, rfl⟩

set_option maxRecDepth 100000 in
set_option maxHeartbeats 2000000 in
theorem funcs_names (leave : Int) (w : World) (hL : Lits w) :
    Calls Tryz.prog 4 #[.int .i64 leave] w fun e w' => e = .returned (.bool true) ∧ Below w.heap.size w w' := by
  refine (callsIn_wide (n := 9)).1 ?_
  obtain ⟨n, hn⟩ : ∃ n, n = 9 := ⟨_, rfl⟩
  rw [← hn]
  have h1 : 1 ≤ n := by omega
  have h2 : 1 ≤ n - 1 := by omega
  have h3 : 1 ≤ n - 1 - 1 := by omega
  have hF : ∀ f, WF.fn f := fun _ => trivial
  clear hn
  refine callsIn_of_wp_marks Tryz.func4 rfl trivial ?_ rfl
  simp only [Tryz.ntmps4, List.size_toArray, List.length_cons, List.length_nil, Nat.reduceAdd, Nat.reduceSub, Array.replicate_succ, Array.replicate_zero, List.push_toArray, List.append_toArray, List.nil_append, List.cons_append]
  gi_wp2_with (first
    | (gi_at_call 12; refine (callsIn_wide.2 (head18_any _ ((hL.alloc _).alloc _))).mono ?_; rintro e wh ⟨rfl, hbh⟩)
    | (gi_at_call 16; refine (callsIn_wide.2 (rnames18_any _)).mono ?_; rintro e wt ⟨p, c, rfl, hrow, hbt⟩)
    | (gi_at_call 17; refine (callsIn_wide.2 (names18_any _)).mono ?_; rintro e w' ⟨rfl, rfl⟩))
  have bL : Boxed wt w.heap.size 3 (.int .i64 leave) := (hbt.block _ (by have := hbh.size; simp at this; omega)).trans ((hbh.block _ (by simp; omega)).trans ((Boxed.new w _ _).alloc _))
  have bR : Boxed wt (w.heap.size + 1) 4 (.bool false) := (hbt.block _ (by have := hbh.size; simp at this; omega)).trans ((hbh.block _ (by simp)).trans (by have := Boxed.new (w.alloc (.cells #[.int .i64 leave] 3)) 4 (.bool false); rw [World.size_alloc] at this; exact this))
  have hzh : w.heap.size + 2 ≤ wh.heap.size := by have := hbh.size; simp at this; omega
  have hzt : wh.heap.size ≤ wt.heap.size := hbt.size
  have hBt : Below w.heap.size w wt := ((((Below.refl _ w).alloc (Nat.le_refl _) _).alloc (by simp) _).trans (hbh.mono (by simp; omega))).trans (hbt.mono (by omega))
  obtain ⟨W0, hW0⟩ : ∃ W0, W0 = (wt.alloc (.cells #[.slice p 20 c] 37)).alloc (.cells #[.int .i64 0] 3) := ⟨_, rfl⟩
  have bW : Boxed W0 wt.heap.size 37 (.slice p 20 c) := by rw [hW0]; exact (Boxed.new wt _ _).alloc _
  have bK : Boxed W0 (wt.heap.size + 1) 3 (.int .i64 0) := by rw [hW0]; have := Boxed.new (wt.alloc (.cells #[.slice p 20 c] 37)) 3 (.int .i64 0); rw [World.size_alloc] at this; exact this
  have hz0 : W0.heap.size = wt.heap.size + 2 := by rw [hW0]; simp
  have bL0 : Boxed W0 w.heap.size 3 (.int .i64 leave) := by rw [hW0]; exact (bL.alloc _).alloc _
  have bR0 : Boxed W0 (w.heap.size + 1) 4 (.bool false) := by rw [hW0]; exact (bR.alloc _).alloc _
  have hrow0 : W0.ownsRow wh.heap.size 9 1 (.slice p 20 c) 20 (strC fnames) := by rw [hW0]; exact (hrow.alloc _).alloc _
  have hB0 : Below w.heap.size w W0 := by rw [hW0]; exact (hBt.alloc hBt.size _).alloc (by simp; omega) _
  rw [← hW0]
  clear hW0 bL bR hrow hBt hbh hbt
  refine range_law_high (gf := 40) (lb := #[]) rfl (enters_of Tryz.func40 (by kernel_rfl) rfl)
    (Kp := fun _ => False) (by rintro k h; cases h)
    (names1_seq (n - 1) W0 h2) (fun _ => rfl)
    (fun pre V => Boxed V (wt.heap.size + 1) 3 (.int .i64 (pre.length : Int)) ∧ Boxed V wt.heap.size 37 (.slice p 20 c) ∧ V.ownsRow wh.heap.size 9 1 (.slice p 20 c) 20 (strC fnames) ∧ Boxed V w.heap.size 3 (.int .i64 leave) ∧ Boxed V (w.heap.size + 1) 4 (.bool false) ∧ Below w.heap.size w V)
    (fun cd _ V => cd = .ret ∧ Boxed V (w.heap.size + 1) 4 (.bool true) ∧ Below w.heap.size w V) ?hI ?hIx ?h0
    (fun x a' V => a' = { tmps := #[.int .i64 leave, .pointer (some ⟨w.heap.size, 0, none⟩), .pointer (some ⟨w.heap.size + 1, 0, none⟩), .pointer (some ⟨wt.heap.size, 0, none⟩), .pointer (some ⟨wt.heap.size + 1, 0, none⟩), .string (bs x), .bool true, .bool false, .slice p 20 c, .func (.func 40) #[] #[], .string (bs x), undef, undef, undef, undef, undef, undef, undef, undef, undef, undef, undef, undef, undef, undef, undef, undef, undef, undef, undef, undef, undef, undef, undef, undef, undef], defers := [] }) ?hAx ?assign ?body ?done ?stop
  case hI =>
    exact OwnFrom.and (boxed_from _ _ (fun pre : List (List UInt8) => .int .i64 (pre.length : Int)) _) (OwnFrom.and (boxed_from _ _ (fun _ => .slice p 20 c) _) (OwnFrom.and (row_from18 _ _ _ _ _ _ _) (OwnFrom.and (boxed_from _ _ (fun _ => .int .i64 leave) _) (OwnFrom.and (boxed_from _ _ (fun _ => .bool false) _) (ownFrom_below (Nat.le_refl _) (by omega))))))
  case hIx => exact fun cd => OwnFrom.and (fun _ _ _ _ h _ _ => h) (OwnFrom.and (boxed_from _ _ (fun _ => .bool true) _) (ownFrom_below (Nat.le_refl _) (by omega)))
  case h0 => exact ⟨bK, bW, hrow0, bL0, bR0, hB0⟩
  case hAx =>
    rintro x a' u A C row he hg hr
    exact he
  case assign =>
    intro l2 pre x V K hi hK
    simp only [encN]
    gi_wp2
    exact hK _ _ (High.refl _ _) (Keeps.refl _ _) hi rfl
  case body =>
    rintro l2 pre x a' V ⟨hbK, hbW, hr, hbL, hbR, hB⟩ rfl hlt hsp
    obtain ⟨g, cap, hform, _, hg⟩ := hr.form (by omega)
    simp only [Value.slice.injEq, true_and] at hform
    obtain ⟨rfl, rfl⟩ := hform
    have r0 := (hr.cellAt pre.length (by omega)).trans (show (strC fnames)[pre.length]? = some (.string (bs x)) by rw [strC, List.getElem?_map, prefix_at18 hsp]; rfl)
    have cK := hbK.cell
    have cW := hbW.cell
    have cL := hbL.cell
    have fK := hbK.frozen
    have fR := hbR.frozen
    have cR := hbR.cell
    have i0 : (0 : Int) ≤ (pre.length : Int) := by omega
    have i1 : (pre.length : Int) < 20 := by omega
    have i2 : decide ((pre.length : Int) ≥ 20) = false := by simp; omega
    have i3 : decide (20 ≤ (pre.length : Int)) = false := by simp; omega
    have hlp : (pre ++ [x]).length = pre.length + 1 := by simp
    replace hlp := Lib.hid hlp
    have hLV := hL.below hB
    generalize bs x = sx at *
    by_cases hl : (pre.length : Int) + 1 = leave
    · have hLB : (((pre.length : Int) + 1) == leave) = true := by simpa using hl
      have hLH := Lib.hid hl
      clear hl
      have hB1 : Below w.heap.size w (V.setCell ⟨wt.heap.size + 1, 0, none⟩ (.int .i64 ((pre.length : Int) + 1))) := hB.setCell (p := ⟨wt.heap.size + 1, 0, none⟩) (by simp; omega) _
      have hLV1 := hL.below hB1
      gi_wp2_with (gi_at_call 12; refine (calls_round18 (head18_any _ hLV1)).mono ?_; rintro e V2 ⟨rfl, hb2⟩; have b2R : Boxed V2 (w.heap.size + 1) 4 (.bool false) := (hb2.block _ (by have := hbR.lt; simp; omega)).trans (Boxed.other hbR (by omega) _); have c2R := b2R.cell; have f2R := b2R.frozen)
      refine ⟨((High.setCell W0.heap.size V ⟨wt.heap.size + 1, 0, none⟩ _ (by simp; omega)).trans (High.of_below hb2)).trans (High.setCell _ V2 _ _ (by simp; omega)), rfl, b2R.set _, ?_⟩
      exact (hB1.trans (hb2.mono hB1.size)).setCell (by simp) _
    · have hLB : (((pre.length : Int) + 1) == leave) = false := by simpa using hl
      have hLH := Lib.hid hl
      clear hl
      gi_wp2
      refine ⟨High.setCell W0.heap.size V ⟨wt.heap.size + 1, 0, none⟩ _ (by simp; omega), ⟨by simp [World.setCell], fun k h => h.elim⟩, ?_, Boxed.other hbW (by omega) _, hr.kept (grownBy_setCell' V (wt.heap.size + 1) _) (.inr (hbK.not_row (by decide) hr).symm), Boxed.other hbL (by omega) _, Boxed.other hbR (by omega) _, hB.setCell (p := ⟨wt.heap.size + 1, 0, none⟩) (by simp; omega) _⟩
      rw [hlp.out]
      exact hbK.set _
  case done =>
    rintro D xs V hD hS ⟨hbK, hbW, hr, hbL, hbR, hB⟩ hK
    have hlen : xs.length = 20 := by rw [hS]; rfl
    rw [hlen] at hbK
    clear hlen hS
    have hLV := hL.below hB
    have hDV := (Array.getElem?_eq_some_iff.1 hK).1
    gi_wp2_with (gi_at_call 12; refine (callsIn_wide.2 (head18_any _ hLV)).mono ?_; rintro e V2 ⟨rfl, hb2⟩; have b2K : Boxed V2 _ _ _ := (hb2.block _ hbK.lt).trans hbK; have b2W : Boxed V2 _ _ _ := (hb2.block _ hbW.lt).trans hbW; have b2R : Boxed V2 _ _ _ := (hb2.block _ hbR.lt).trans hbR; have c2K := b2K.cell; have c2W := b2W.cell; have c2R := b2R.cell; have f2R := b2R.frozen)
    have hKU : (V2.setCell ⟨w.heap.size + 1, 0, none⟩ (.bool true)).heap[D]? = some (.deferred (some [])) := (Below.heap_setCell V2 _ _ D (show D ≠ w.heap.size + 1 by omega)).trans ((hb2.block D hDV).trans hK)
    have cF : ((V2.setCell ⟨w.heap.size + 1, 0, none⟩ (.bool true)).putObj D (.deferred none)).cell? ⟨w.heap.size + 1, 0, none⟩ = some (.bool true) := (World.cell?_of_block (World.putObj_heap_other (by dsimp only; omega))).trans (b2R.set _).cell
    have hBU : Below w.heap.size w (V2.setCell ⟨w.heap.size + 1, 0, none⟩ (.bool true)) := (hB.trans (hb2.mono hB.size)).setCell (by simp) _
    refine ⟨by simp, .inl ⟨_, _, rfl, run_takeDeferred hKU, ?_⟩⟩
    refine ⟨.bool true, by simp only [results, Tryz.results4]; go_simp, rfl, hBU.trans (belowK_b (w := w) (Nat.le_refl _) _ D _ _ (by omega) hKU rfl rfl)⟩
  case stop =>
    rintro D cd pre V hD hSp ⟨rfl, hbR, hB⟩ hK
    gi_wp2
    have hKU : V.heap[D]? = some (.deferred (some [])) := hK
    have cF : (V.putObj D (.deferred none)).cell? ⟨w.heap.size + 1, 0, none⟩ = some (.bool true) := (World.cell?_of_block (World.putObj_heap_other (by dsimp only; omega))).trans (hbR).cell
    have hBU : Below w.heap.size w V := hB
    refine ⟨by simp, .inl ⟨_, _, rfl, run_takeDeferred hKU, ?_⟩⟩
    refine ⟨.bool true, by simp only [results, Tryz.results4]; go_simp, rfl, hBU.trans (belowK_b (w := w) (Nat.le_refl _) _ D _ _ (by omega) hKU rfl rfl)⟩

end Go.Proofs.YtmkgalcojoeniaaGreatDoor
