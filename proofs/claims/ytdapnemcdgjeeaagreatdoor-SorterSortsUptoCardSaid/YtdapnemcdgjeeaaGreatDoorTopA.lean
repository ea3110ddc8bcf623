/- The heap of rows in memory; Len, Less, Swap, Push, Pop of it. The heap of rows in memory: Swap, Push, Pop. The heap of rows in memory: Push, Pop. The heap of rows: up. The heap of rows: down. The heap of rows: Push and Pop of package heap. The heap of rows: how two that are held stand. -/
import Derived.Test.YtdapnemcdgjeeaaGreatDoorBlkC
import Derived.Test.YtdapnemcdgjeeaaGreatDoorStbA
import Derived.Test.YtdapnemcdgjeeaaGreatDoorCmpA
set_option maxRecDepth 100000
set_option linter.unusedVariables false
set_option linter.unusedSimpArgs false
namespace Go.Proofs.YtdapnemcdgjeeaaGreatDoor
open Go.RowKit
open Go.Proofs.YtdapnemcdgjeeaaGreatDoor.Stb (swap seg)

/-- rows that are held, in memory that the call owns: place k holds the row that came as f k -/
def HAt (W : World) (B : Nat) (rv : Nat → Value) (lv : Value) (n : Nat) (f : Nat → Nat) : Prop :=
  ∃ xs, W.ownsRow B 77 2 lv n xs ∧ ∀ k, k < n → xs[k * 2]? = some (rv (f k)) ∧ xs[k * 2 + 1]? = some (.int .i64 (f k : Int))
/-- the heap: its block, what it holds -/
def WAt (W : World) (B : Nat) (rv : Nat → Value) (F : Value) (b n : Nat) (f : Nat → Nat) : Prop :=
  ∃ q c, Blk W b 74 #[.slice q n c, F] ∧ HAt W B rv (.slice q n c) n f ∧ (Value.slice q n c).ownBlock ≠ some b
theorem ownsRow_turned' {W W' : World} {base : Nat} {e : TypeId} {size : Nat} {v : Value} {n : Nat} {xs : List Value} {fp : Nat → Prop} (h : W.ownsRow base e size v n xs) (ht : Turned fp W W') (hf : ∀ b, v.ownBlock = some b → ¬ fp b) : W'.ownsRow base e size v n xs := by
  refine ⟨h.1, ?_⟩
  rcases h.2 with h | ⟨g, cap, cur, rfl, hb, hc, rest⟩
  · exact .inl h
  · exact .inr ⟨g, cap, cur, rfl, hb, (ht.block g (Array.getElem?_eq_some_iff.1 hc).1 (hf g rfl)).trans hc, rest⟩
theorem WAt.below {W W' : World} {B b n : Nat} {rv : Nat → Value} {F : Value} {f : Nat → Nat} (h : WAt W B rv F b n f) (hb : Below W.heap.size W W') : WAt W' B rv F b n f := by
  obtain ⟨q, c, h1, ⟨xs, h2, h3⟩, h4⟩ := h
  exact ⟨q, c, h1.on hb, ⟨xs, ownsRow_turned' h2 (Turned.of (fp := fun _ => False) hb) (fun _ _ x => x), h3⟩, h4⟩
/-- where there is a row, the slice has a block -/
theorem WAt.form {W : World} {B b n : Nat} {rv : Nat → Value} {F : Value} {f : Nat → Nat} (h : WAt W B rv F b n f) (hn : 0 < n) :
    ∃ g c, Blk W b 74 #[.slice (some ⟨g, 0, none⟩) n c, F] ∧ HAt W B rv (.slice (some ⟨g, 0, none⟩) n c) n f ∧ g ≠ b ∧ B ≤ g ∧ g < W.heap.size ∧ (∀ k, W.frozen? ⟨g, k, none⟩ = false) ∧ ∀ k, k < n → W.cell? ⟨g, k * 2, none⟩ = some (rv (f k)) ∧ W.cell? ⟨g, k * 2 + 1, none⟩ = some (.int .i64 (f k : Int)) := by
  obtain ⟨q, c, h1, ⟨xs, h2, h3⟩, h4⟩ := h
  obtain ⟨g, cap, hf, hB, hl⟩ := h2.form hn
  injection hf with e1 e2 e3
  subst e1 e3
  refine ⟨g, c, h1, ⟨xs, h2, h3⟩, fun e => h4 (by rw [e]; rfl), hB, hl, fun k => ?_, fun k hk => ?_⟩
  · rcases h2.2 with ⟨e, _⟩ | ⟨g', cap, cur, e, _, hc, _⟩
    · cases e
    · injection e with e1 _ _
      injection e1 with e1
      injection e1 with e1
      subst e1
      simp [World.frozen?, hc]
  · obtain ⟨x0, x1⟩ := h3 k hk
    have hx := h2.1
    exact ⟨(h2.cellAt (k * 2) (by omega)).trans x0, (h2.cellAt (k * 2 + 1) (by omega)).trans x1⟩
theorem own_set {W : World} {B g n c i : Nat} {T : TypeId} {size : Nat} {xs : List Value} (h : W.ownsRow B T size (.slice (some ⟨g, 0, none⟩) n c) n xs) (v : Value) (hi : i < n * size) : (W.setCell ⟨g, i, none⟩ v).ownsRow B T size (.slice (some ⟨g, 0, none⟩) n c) n (xs.set i v) := by
  rcases h.2 with ⟨e, _⟩ | ⟨g', cap, cur, e, hb, hc, hn, hm, hcs, htake⟩
  · cases e
  · injection e with e1 e2 e3
    injection e1 with e1
    injection e1 with e1
    subst e1 e3
    refine ⟨by simpa using h.1, .inr ⟨g, c, cur.setIfInBounds i v, rfl, hb, ?_, hn, hm, by simpa using hcs, ?_⟩⟩
    · show (W.heap.modify g _)[g]? = _
      rw [Array.getElem?_modify, if_pos rfl, hc]
      rfl
    · rw [Array.toList_setIfInBounds, List.take_set, htake]
theorem swap_cells {xs : List Value} {n i j : Nat} {rv : Nat → Value} {f : Nat → Nat} (hl : xs.length = n * 2) (hi : i < n) (hj : j < n) (h : ∀ k, k < n → xs[k * 2]? = some (rv (f k)) ∧ xs[k * 2 + 1]? = some (.int .i64 (f k : Int))) :
    ∀ k, k < n → ((((xs.set (i * 2) (rv (f j))).set (i * 2 + 1) (.int .i64 (f j : Int))).set (j * 2) (rv (f i))).set (j * 2 + 1) (.int .i64 (f i : Int)))[k * 2]? = some (rv (swap f i j k)) ∧ ((((xs.set (i * 2) (rv (f j))).set (i * 2 + 1) (.int .i64 (f j : Int))).set (j * 2) (rv (f i))).set (j * 2 + 1) (.int .i64 (f i : Int)))[k * 2 + 1]? = some (.int .i64 ((swap f i j k : Nat) : Int)) := by
  intro k hk
  obtain ⟨x0, x1⟩ := h k hk
  unfold swap
  by_cases e1 : k = j
  · subst e1
    constructor
    · rw [List.getElem?_set_ne (by omega), List.getElem?_set_self (by simp; omega)]
      by_cases e2 : k = i
      · subst e2; simp
      · simp [e2]
    · rw [List.getElem?_set_self (by simp; omega)]
      by_cases e2 : k = i
      · subst e2; simp
      · simp [e2]
  · by_cases e2 : k = i
    · subst e2
      constructor
      · rw [List.getElem?_set_ne (by omega), List.getElem?_set_ne (by omega), List.getElem?_set_ne (by omega), List.getElem?_set_self (by omega)]
        simp
      · rw [List.getElem?_set_ne (by omega), List.getElem?_set_ne (by omega), List.getElem?_set_self (by simp; omega)]
        simp
    · constructor
      · rw [List.getElem?_set_ne (by omega), List.getElem?_set_ne (by omega), List.getElem?_set_ne (by omega), List.getElem?_set_ne (by omega), x0]
        simp [e1, e2]
      · rw [List.getElem?_set_ne (by omega), List.getElem?_set_ne (by omega), List.getElem?_set_ne (by omega), List.getElem?_set_ne (by omega), x1]
        simp [e1, e2]
theorem len_is (b n : Nat) (W : World) (B : Nat) (rv : Nat → Value) (F : Value) (f : Nat → Nat) (h : WAt W B rv F b n f) :
    Calls Tryz.prog 39 #[.pointer (some ⟨b, 0, none⟩)] W fun e w' => e = .returned (.int .i64 (n : Int)) ∧ w' = W := by
  obtain ⟨q, c, h1, _, _⟩ := h
  have c0 := h1.cell 0
  simp only [List.getElem?_toArray, List.getElem?_cons_zero] at c0
  go_enter Tryz.func39, Tryz.ntmps39
  go_wp2
  go_ret
  exact ⟨rfl, rfl⟩
/-- what 'stand' answers of rows that are held -/
def HStandOk (w0 : World) (N b : Nat) (rv : Nat → Value) (F : Value) (cf : Nat → Nat → Int) : Prop :=
  ∀ (W : World) (k j : Nat), k < N → j < N → Below w0.heap.size w0 W → W.cell? ⟨b, 1, none⟩ = some F → b < W.heap.size →
    Calls Tryz.prog 42 #[.pointer (some ⟨b, 0, none⟩), .agg #[rv k, .int .i64 (k : Int)], .agg #[rv j, .int .i64 (j : Int)]] W fun e w' => e = .returned (.int .i64 (cf k j)) ∧ Below W.heap.size W w'
theorem keep5 {w W W' : World} {b g o1 o2 o3 o4 : Nat} {x0 x1 x2 x3 x4 : Value} (lb : b < w.heap.size) (lg : g < w.heap.size)
    (h : W.cell? ⟨b, 0, none⟩ = some x0 ∧ W.cell? ⟨g, o1, none⟩ = some x1 ∧ W.cell? ⟨g, o2, none⟩ = some x2 ∧ W.cell? ⟨g, o3, none⟩ = some x3 ∧ W.cell? ⟨g, o4, none⟩ = some x4 ∧ Below w.heap.size w W) (hb : Below W.heap.size W W') :
    W'.cell? ⟨b, 0, none⟩ = some x0 ∧ W'.cell? ⟨g, o1, none⟩ = some x1 ∧ W'.cell? ⟨g, o2, none⟩ = some x2 ∧ W'.cell? ⟨g, o3, none⟩ = some x3 ∧ W'.cell? ⟨g, o4, none⟩ = some x4 ∧ Below w.heap.size w W' := by
  obtain ⟨h0, h1, h2, h3, h4, hB⟩ := h
  have lb' := Nat.lt_of_lt_of_le lb hB.size
  have lg' := Nat.lt_of_lt_of_le lg hB.size
  exact ⟨(hb.cell (p := ⟨b, 0, none⟩) lb').trans h0, (hb.cell (p := ⟨g, o1, none⟩) lg').trans h1, (hb.cell (p := ⟨g, o2, none⟩) lg').trans h2, (hb.cell (p := ⟨g, o3, none⟩) lg').trans h3, (hb.cell (p := ⟨g, o4, none⟩) lg').trans h4, hB.trans (hb.mono hB.size)⟩
theorem keep50 {w W : World} {b g o1 o2 o3 o4 : Nat} {x0 x1 x2 x3 x4 : Value}
    (h : W.cell? ⟨b, 0, none⟩ = some x0 ∧ W.cell? ⟨g, o1, none⟩ = some x1 ∧ W.cell? ⟨g, o2, none⟩ = some x2 ∧ W.cell? ⟨g, o3, none⟩ = some x3 ∧ W.cell? ⟨g, o4, none⟩ = some x4 ∧ Below w.heap.size w W) :
    W.drew.cell? ⟨b, 0, none⟩ = some x0 ∧ W.drew.cell? ⟨g, o1, none⟩ = some x1 ∧ W.drew.cell? ⟨g, o2, none⟩ = some x2 ∧ W.drew.cell? ⟨g, o3, none⟩ = some x3 ∧ W.drew.cell? ⟨g, o4, none⟩ = some x4 ∧ Below w.heap.size w W.drew := ⟨h.1, h.2.1, h.2.2.1, h.2.2.2.1, h.2.2.2.2.1, h.2.2.2.2.2.drew⟩
set_option maxHeartbeats 1000000 in
theorem less_is (w0 : World) (N b n i j : Nat) (W : World) (B : Nat) (rv : Nat → Value) (F : Value) (f : Nat → Nat) (cf : Nat → Nat → Int) (hS : HStandOk w0 N b rv F cf) (h : WAt W B rv F b n f) (hW : Below w0.heap.size w0 W) (hi : i < n) (hj : j < n) (hn : n ≤ 4194304) (hf : ∀ k, k < n → f k < N) (r : Bool) (hr : Hid (decide (0 < cf (f i) (f j)) = r)) :
    Calls Tryz.prog 196 #[.pointer (some ⟨b, 0, none⟩), .int .i64 (i : Int), .int .i64 (j : Int)] W fun e w' => e = .returned (.bool r) ∧ Below W.heap.size W w' := by
  obtain ⟨g, c, h1, _, hne, hB, hg, _, hc⟩ := h.form (by omega)
  obtain ⟨a0, a1⟩ := hc i hi
  obtain ⟨b0, b1⟩ := hc j hj
  have lb := h1.lt
  have hfi := hf i hi
  have hfj := hf j hj
  have hrr := hr.out
  have hrg : decide (cf (f i) (f j) > 0) = r := hrr
  have i0 : (0 : Int) ≤ (i : Int) := by omega
  have i1 : (i : Int) < (n : Int) := by omega
  have j0 : (0 : Int) ≤ (j : Int) := by omega
  have j1 : (j : Int) < (n : Int) := by omega
  have hF := h1.cell 1
  have H0 : W.cell? ⟨b, 0, none⟩ = some (.slice (some ⟨g, 0, none⟩) n c) ∧ W.cell? ⟨g, i * 2, none⟩ = some (rv (f i)) ∧ W.cell? ⟨g, i * 2 + 1, none⟩ = some (.int .i64 (f i : Int)) ∧ W.cell? ⟨g, j * 2, none⟩ = some (rv (f j)) ∧ W.cell? ⟨g, j * 2 + 1, none⟩ = some (.int .i64 (f j : Int)) ∧ Below W.heap.size W W := ⟨h1.cell 0, a0, a1, b0, b1, Below.refl _ _⟩
  obtain ⟨fi, hfi'⟩ : ∃ fi, f i = fi := ⟨_, rfl⟩
  obtain ⟨fj, hfj'⟩ : ∃ fj, f j = fj := ⟨_, rfl⟩
  rw [hfi', hfj'] at H0 hrg
  rw [hfi'] at hfi
  rw [hfj'] at hfj
  simp only [List.getElem?_toArray, List.getElem?_cons_zero, List.getElem?_cons_succ] at hF
  clear h a0 a1 b0 b1 hc hr hrr hfi' hfj' hf
  go_enter Tryz.func196, Tryz.ntmps196
  go_wp2_with fail
  go_region_held3 (fun W' => W'.cell? ⟨b, 0, none⟩ = some (.slice (some ⟨g, 0, none⟩) n c) ∧ W'.cell? ⟨g, i * 2, none⟩ = some (rv fi) ∧ W'.cell? ⟨g, i * 2 + 1, none⟩ = some (.int .i64 (fi : Int)) ∧ W'.cell? ⟨g, j * 2, none⟩ = some (rv fj) ∧ W'.cell? ⟨g, j * 2 + 1, none⟩ = some (.int .i64 (fj : Int)) ∧ Below W.heap.size W W') (first | assumption | exact keep5 lb hg (by assumption) (by assumption) | exact keep50 (by assumption)) (first
    | (go_at_call 42; have hSS := (by assumption : _ ∧ _ ∧ _ ∧ _ ∧ _ ∧ Below W.heap.size W _); refine (hS _ fi fj hfi hfj (hW.trans (hSS.2.2.2.2.2.mono hW.size)) ((hSS.2.2.2.2.2.cell (p := ⟨b, 1, none⟩) lb).trans hF) (Nat.lt_of_lt_of_le lb hSS.2.2.2.2.2.size)).mono ?_; rintro e w5 ⟨rfl, hb5⟩; clear hSS))
  rename_i hS9
  have hb9 := hS9.2.2.2.2.2
  clear hS9
  go_wp2
  go_ret
  exact ⟨by first | rfl | exact ret_bool hrg, hb9⟩
end Go.Proofs.YtdapnemcdgjeeaaGreatDoor

namespace Go.Proofs.YtdapnemcdgjeeaaGreatDoor
open Go.RowKit
open Go.Proofs.YtdapnemcdgjeeaaGreatDoor.Stb (swap seg)

set_option maxHeartbeats 2000000 in
theorem swap_is (b n i j : Nat) (W : World) (B : Nat) (rv : Nat → Value) (F : Value) (f : Nat → Nat) (h : WAt W B rv F b n f) (hBb : B ≤ b) (hi : i < n) (hj : j < n) (hij : i ≠ j) (hn : n ≤ 4194304) (hsl : ∀ k, ∃ q m c, rv k = .slice q m c) :
    Calls Tryz.prog 199 #[.pointer (some ⟨b, 0, none⟩), .int .i64 (i : Int), .int .i64 (j : Int)] W fun e w' => e = .returned (.tuple #[]) ∧ WAt w' B rv F b n (swap f i j) ∧ Below B W w' := by
  obtain ⟨g, c, h1, hh, hne, hB, hg, hfr, hc⟩ := h.form (by omega)
  obtain ⟨a0, a1⟩ := hc i hi
  obtain ⟨b0, b1⟩ := hc j hj
  have lb := h1.lt
  have i0 : (0 : Int) ≤ (i : Int) := by omega
  have i1 : (i : Int) < (n : Int) := by omega
  have j0 : (0 : Int) ≤ (j : Int) := by omega
  have j1 : (j : Int) < (n : Int) := by omega
  have c0 := h1.cell 0
  simp only [List.getElem?_toArray, List.getElem?_cons_zero] at c0
  have f0 := hfr (i * 2)
  have f1 := hfr (i * 2 + 1)
  have f2 := hfr (j * 2)
  have f3 := hfr (j * 2 + 1)
  obtain ⟨qi, ni, ci, hxi⟩ := hsl (f i)
  obtain ⟨qj, nj, cj, hxj⟩ := hsl (f j)
  obtain ⟨fi, hfi⟩ : ∃ x, (f i : Int) = x := ⟨_, rfl⟩
  obtain ⟨fj, hfj⟩ : ∃ x, (f j : Int) = x := ⟨_, rfl⟩
  rw [hxi] at a0
  rw [hxj] at b0
  rw [hfi] at a1
  rw [hfj] at b1
  replace hxi := Lib.hid hxi
  replace hxj := Lib.hid hxj
  replace hfi := Lib.hid hfi
  replace hfj := Lib.hid hfj
  have n1 : ¬ j * 2 = i * 2 := by omega
  have n2 : ¬ j * 2 = i * 2 + 1 := by omega
  have n3 : ¬ j * 2 + 1 = i * 2 := by omega
  have n4 : ¬ j * 2 + 1 = i * 2 + 1 := by omega
  have n5 : ¬ j = i := by omega
  have n6 : ¬ i * 2 = j * 2 := by omega
  have n7 : ¬ i * 2 + 1 = j * 2 := by omega
  have n8 : ¬ i * 2 = j * 2 + 1 := by omega
  have n9 : ¬ i * 2 + 1 = j * 2 + 1 := by omega
  clear h hc hfr hsl
  go_enter Tryz.func199, Tryz.ntmps199
  go_wp2_with fail
  go_region
  all_goals (
    obtain ⟨xs, hO, hx⟩ := hh
    have hl := hO.1
    have hO4 := own_set (own_set (own_set (own_set hO (.slice qj nj cj) (by omega : i * 2 < n * 2)) (.int .i64 fj) (by omega : i * 2 + 1 < n * 2)) (.slice qi ni ci) (by omega : j * 2 < n * 2)) (.int .i64 fi) (by omega : j * 2 + 1 < n * 2)
    have hsw := swap_cells (rv := rv) (f := f) hl hi hj hx
    rw [hxi.out, hxj.out, hfi.out, hfj.out] at hsw
    go_end0
    refine ⟨rfl, ⟨some ⟨g, 0, none⟩, c, ?_, ⟨_, hO4.drew, hsw⟩, fun e => hne (by injection e)⟩, ?_⟩
    · exact ((((h1.other (Ne.symm hne) _ _).other (Ne.symm hne) _ _).other (Ne.symm hne) _ _).other (Ne.symm hne) _ _).drew
    · exact (((((Below.refl B W).setCell (p := ⟨g, _, none⟩) hB _).setCell (p := ⟨g, _, none⟩) hB _).setCell (p := ⟨g, _, none⟩) hB _).setCell (p := ⟨g, _, none⟩) hB _).drew)
end Go.Proofs.YtdapnemcdgjeeaaGreatDoor

namespace Go.Proofs.YtdapnemcdgjeeaaGreatDoor
open Go.RowKit
open Go.Proofs.YtdapnemcdgjeeaaGreatDoor.Stb (swap seg)

theorem held_info : (Tryz.prog.info? 77).map (fun i => (i.zero, i.size, i.bytes)) = some (some (.agg #[.slice none 0 0, .int .i64 0]), 2, 32) := by kernel_rfl
/-- a row more, behind a draw -/
theorem step_pushHeld {W : World} {B : Nat} {ops : Array Oper} {o : Oper} {a : Act} {K : Act → World → Prop} {Q : Exit → Act → World → Prop} {E : Prop} (hgd : o.guard = none) (s x : Operand)
    (ho : o.op = .call { callee := .builtin .append, args := #[s, x], argTypes := #[72, 72] })
    (sv : Value) (n : Nat) (xs : List Value) (hs : a.eval s = sv) (hown : W.ownsRow B 77 2 sv n xs) (y z : Value) (hy : y.oneCell' = true) (hz' : z.oneCell' = true)
    (hx : a.eval x = .slice (some ⟨W.heap.size, 0, none⟩) 1 1) (hlen : n ≤ 1099511627776) (hB : B ≤ W.heap.size)
    (h : ∀ q c w', w'.ownsRow B 77 2 (.slice q (n + 1) c) (n + 1) (xs ++ [y, z]) → Turned (fun b => sv.ownBlock = some b) W w' → ((Value.slice q (n + 1) c).ownBlock = sv.ownBlock ∨ ∃ nb, (Value.slice q (n + 1) c).ownBlock = some nb ∧ W.heap.size ≤ nb) → K (a.put o.dst (.slice q (n + 1) c)) w') :
    if Region.wanted o (yielded ops a.tmps) = true then Oper.wp Tryz.prog o a (W.alloc (.cells #[y, z] 77)).drew K Q else E := by
  obtain ⟨i, hi, hz, hsize, hby⟩ := info_parts held_info
  have hw : Region.wanted o (yielded ops a.tmps) = true := by simp [Region.wanted, hgd]
  rw [if_pos hw]
  have d1' : (W.alloc (.cells #[y, z] 77)).drew.ownsRow B 77 2 sv n xs := hown.alloc _
  have hN := (Blk.new W 77 #[y, z]).drew
  have hnews : ∀ j u, ([y, z] : List Value)[j]? = some u → (W.alloc (.cells #[y, z] 77)).drew.cell? ((⟨W.heap.size, 0, none⟩ : Addr).add j) = some u := by
    intro j u hj
    rw [Addr.add_lit, Nat.zero_add, hN.cell j, ← hj]
    simp
  have hy1 : ∀ u ∈ ([y, z] : List Value), u.oneCell' = true := by
    intro u hu
    simp at hu
    rcases hu with rfl | rfl
    · exact hy
    · exact hz'
  obtain ⟨u', w', hrun, hown', hgr, _, hloc⟩ := run_append_own_at (P := Tryz.prog) _ B 72 o.type 77 i _ 2 32 Tryz.underlying72 hi hz hsize hby rfl (by decide) sv n xs d1' ⟨W.heap.size, 0, none⟩ 1 1 [y, z] rfl hnews hy1 (by unfold maxLen; omega) (by omega) (Nat.le_trans hB (by show W.heap.size ≤ (W.alloc (.cells #[y, z] 77)).heap.size; simp))
  obtain ⟨q, c, rfl⟩ : ∃ q c, u' = .slice q (n + 1) c := by
    rcases hown'.2 with ⟨_, h0⟩ | ⟨g, cap, cur, rfl, _⟩
    · exact absurd h0 (by omega)
    · exact ⟨_, _, rfl⟩
  unfold Oper.wp execOp
  simp only [ho, resolve, invoke, builtin, Sem.run_bind, Sem.run_pure, Result.andThen_ok, List.map_toArray, List.map_cons, List.map_nil, hs, hx, hrun]
  have hsz : (W.alloc (.cells #[y, z] 77)).drew.heap.size = W.heap.size + 1 := by show (W.alloc _).heap.size = _; simp
  have hgs := hgr.size
  rw [hsz] at hgs
  refine h q c w' hown' ⟨hgr.os, hgr.tape, hgr.output, by omega, fun b hb hne => (hgr.block b (by rw [hsz]; omega) (fun e => hne e.symm)).trans (Below.heap_alloc W _ b hb)⟩ ?_
  rcases hloc with e | e
  · exact .inl e
  · rw [hsz] at e
    exact .inr ⟨_, e, by omega⟩
theorem assert_held (v : Value) (w : World) : (Instr.typeAssert (.iface 77 v) 20 77 false).run Tryz.prog w = .ok v w := by kernel_rfl
set_option maxHeartbeats 2000000 in
theorem push_is (b n k : Nat) (W : World) (B : Nat) (rv : Nat → Value) (F : Value) (f : Nat → Nat) (h : WAt W B rv F b n f) (hBb : B ≤ b) (hn : n ≤ 4194304) (hsl : ∀ k, ∃ q m c, rv k = .slice q m c) :
    Calls Tryz.prog 198 #[.pointer (some ⟨b, 0, none⟩), .iface 77 (.agg #[rv k, .int .i64 (k : Int)])] W fun e w' => e = .returned (.tuple #[]) ∧ WAt w' B rv F b (n + 1) (fun m => if m = n then k else f m) ∧ Below B W w' := by
  obtain ⟨q0, c0, h1, ⟨xs, hO, hx⟩, hne⟩ := h
  obtain ⟨qk, nk, ck, hk⟩ := hsl k
  have lb := h1.lt
  have x0 := h1.cell 0
  simp only [List.getElem?_toArray, List.getElem?_cons_zero] at x0
  have hl := hO.1
  have hge : ∀ m, (Value.slice q0 n c0).ownBlock = some m → B ≤ m := by
    intro m hm
    rcases hO.2 with ⟨e, _⟩ | ⟨g, cap, cur, e, hg, _⟩
    · rw [e] at hm; cases hm
    · rw [e] at hm; simp [Value.ownBlock] at hm; omega
  have hBW : B ≤ W.heap.size := by omega
  rw [hk]
  replace hk := Lib.hid hk
  clear hsl
  have hta := assert_held
  go_enter Tryz.func198, Tryz.ntmps198
  go_wp2_with fail
  go_region_law (first
    | (refine step_pushHeld (by rfl) _ _ (by rfl) _ n xs (by rfl) hO (.slice qk nk ck) (.int .i64 (k : Int)) rfl rfl (by rfl) (by omega) hBW ?_; intro q c w1 hO1 hT1 hloc1; have hB1 := h1.turned hT1 hne; have z0 := hB1.cell 0; have g0 := hB1.free 0; simp only [List.getElem?_toArray, List.getElem?_cons_zero] at z0))
  all_goals (
    have hne1 : (Value.slice q (n + 1) c).ownBlock ≠ some b := by
      rcases hloc1 with e | ⟨nb, e, hnb⟩
      · rw [e]; exact hne
      · rw [e]; exact fun x => by injection x with x; omega
    have hS := (Turned.refl (· = b) w1).set (b := b) (.inl rfl) 0 (Value.slice q (n + 1) c)
    have hO2 := ownsRow_turned' hO1 hS (fun b' hb' e => hne1 (by rw [hb', e]))
    have hb1 : Below B W w1 := hT1.below hBW (fun k _ hk => hge k hk)
    go_end0
    refine ⟨rfl, ⟨q, c, hB1.set 0 _, ⟨_, hO2, fun m hm => ?_⟩, hne1⟩, hb1.setCell (p := ⟨b, 0, none⟩) hBb _⟩
    by_cases e : m = n
    · subst e
      simp only [if_true, hk.out]
      constructor
      · rw [List.getElem?_append_right (by omega), show m * 2 - xs.length = 0 by omega]; rfl
      · rw [List.getElem?_append_right (by omega), show m * 2 + 1 - xs.length = 1 by omega]; rfl
    · obtain ⟨y0, y1⟩ := hx m (by omega)
      simp only [e, if_false]
      exact ⟨by rw [List.getElem?_append_left (by omega)]; exact y0, by rw [List.getElem?_append_left (by omega)]; exact y1⟩)
theorem own_less {W : World} {B n m : Nat} {T : TypeId} {size : Nat} {q : Option Addr} {c : Nat} {xs : List Value} (h : W.ownsRow B T size (.slice q n c) n xs) (hq : 0 < n) (hm : m ≤ n) : W.ownsRow B T size (.slice q m c) m (xs.take (m * size)) := by
  rcases h.2 with ⟨e, h0⟩ | ⟨g', cap, cur, e, hb, hc, hn, hmx, hcs, htake⟩
  · omega
  · injection e with e1 e2 e3
    subst e1 e3
    have hmul : m * size ≤ n * size := Nat.mul_le_mul_right _ hm
    refine ⟨by rw [List.length_take, h.1]; omega, .inr ⟨g', c, cur, rfl, hb, hc, by omega, hmx, hcs, ?_⟩⟩
    rw [← htake, List.take_take, Nat.min_eq_left hmul]
set_option maxHeartbeats 2000000 in
theorem pop_is (b n : Nat) (W : World) (B : Nat) (rv : Nat → Value) (F : Value) (f : Nat → Nat) (h : WAt W B rv F b (n + 1) f) (hBb : B ≤ b) (hn : n ≤ 4194304) (hsl : ∀ k, ∃ q m c, rv k = .slice q m c) :
    Calls Tryz.prog 197 #[.pointer (some ⟨b, 0, none⟩)] W fun e w' => (∃ v, e = .returned v) ∧ WAt w' B rv F b n f ∧ Below B W w' := by
  obtain ⟨g, c, h1, ⟨xs, hO, hx⟩, hne, hBg, hg, hfr, hc⟩ := h.form (by omega)
  obtain ⟨a0, a1⟩ := hc n (by omega)
  obtain ⟨qk, nk, ck, hk⟩ := hsl (f n)
  rw [hk] at a0
  have lb := h1.lt
  have c0 := h1.cell 0
  have f0 := h1.free 0
  simp only [List.getElem?_toArray, List.getElem?_cons_zero] at c0
  have hw : IntKind.i64.wrap (((n + 1 : Nat) : Int) - 1) = (n : Int) := by rw [show (((n + 1 : Nat) : Int) - 1) = (n : Int) by omega]; exact IntWalk.i64_in _ (by omega)
  have hw2 : wrap64 (((n + 1 : Nat) : Int) - 1) = (n : Int) := by unfold wrap64; omega
  have n0 : (0 : Int) ≤ (n : Int) := by omega
  have n1 : (n : Int) < ((n + 1 : Nat) : Int) := by omega
  have n2 : n ≤ c := by
    rcases hO.2 with ⟨e, _⟩ | ⟨g', cap, cur, e, _, _, hle, _⟩
    · cases e
    · injection e with _ _ e3
      omega
  replace hk := Lib.hid hk
  clear h hc hfr hsl
  go_enter Tryz.func197, Tryz.ntmps197
  go_wp2_with fail
  go_region
  all_goals (
    have hV1 := (Blk.new W 77 #[.slice qk nk ck, .int .i64 (f n : Int)]).drew
    have hB1 := (h1.alloc (.cells #[.slice qk nk ck, .int .i64 (f n : Int)] 77)).drew
    have hO1 := (hO.alloc (.cells #[.slice qk nk ck, .int .i64 (f n : Int)] 77)).drew
    have hb1 : Below B W (W.alloc (.cells #[.slice qk nk ck, .int .i64 (f n : Int)] 77)).drew := ((Below.refl B W).alloc (by omega) _).drew
    obtain ⟨v, hv⟩ : ∃ v, W.heap.size = v := ⟨_, rfl⟩
    have hbv : b ≠ v := by omega
    rw [hv] at hV1
    rw [hv]
    generalize (W.alloc (.cells #[.slice qk nk ck, .int .i64 (f n : Int)] 77)).drew = W1 at hV1 hB1 hO1 hb1 ⊢
    have d0 := hB1.cell 0
    have e0 := hB1.free 0
    have v0 := hV1.cell 0
    have v1 := hV1.cell 1
    simp only [List.getElem?_toArray, List.getElem?_cons_zero, List.getElem?_cons_succ] at d0 v0 v1
    have hvb : ¬ v = b := by omega
    go_wp2_with fail
    go_region
    all_goals (
      have hS := (Turned.refl (· = b) W1).set (b := b) (.inl rfl) 0 (Value.slice (some ⟨g, 0, none⟩) n c)
      have hO2 := ownsRow_turned' (own_less (m := n) hO1 (by omega) (by omega)) hS (fun b' hb' e => hne (by injection hb' with hb'; exact hb'.trans e))
      have hl := hO.1
      go_wp2
      go_ret
      refine ⟨⟨_, rfl⟩, ⟨some ⟨g, 0, none⟩, c, (hB1.set 0 _).drew, ⟨_, hO2.drew, fun k hk => ?_⟩, fun e => hne (by injection e)⟩, (hb1.setCell (p := ⟨b, 0, none⟩) hBb _).drew⟩
      obtain ⟨y0, y1⟩ := hx k (by omega)
      exact ⟨by rw [List.getElem?_take_of_lt (by omega)]; exact y0, by rw [List.getElem?_take_of_lt (by omega)]; exact y1⟩))
end Go.Proofs.YtdapnemcdgjeeaaGreatDoor

namespace Go.Proofs.YtdapnemcdgjeeaaGreatDoor
open Go.RowKit
open Go.Proofs.YtdapnemcdgjeeaaGreatDoor.Stb (swap seg Heap HeapUp HeapDown SWO up_step up_done seg_swap)

theorem meth_less (b : Nat) (w : World) : (method 393 71 (.pointer (some ⟨b, 0, none⟩)) "Less").run Tryz.prog w = .ok (196, .pointer (some ⟨b, 0, none⟩)) w := by kernel_rfl
theorem meth_swap (b : Nat) (w : World) : (method 393 71 (.pointer (some ⟨b, 0, none⟩)) "Swap").run Tryz.prog w = .ok (199, .pointer (some ⟨b, 0, none⟩)) w := by kernel_rfl
theorem meth_len (b : Nat) (w : World) : (method 393 71 (.pointer (some ⟨b, 0, none⟩)) "Len").run Tryz.prog w = .ok (39, .pointer (some ⟨b, 0, none⟩)) w := by kernel_rfl
theorem meth_push (b : Nat) (w : World) : (method 393 71 (.pointer (some ⟨b, 0, none⟩)) "Push").run Tryz.prog w = .ok (198, .pointer (some ⟨b, 0, none⟩)) w := by kernel_rfl
theorem meth_pop (b : Nat) (w : World) : (method 393 71 (.pointer (some ⟨b, 0, none⟩)) "Pop").run Tryz.prog w = .ok (197, .pointer (some ⟨b, 0, none⟩)) w := by kernel_rfl
/-- the order that a number tells -/
def ltC (cf : Nat → Nat → Int) (a b : Nat) : Bool := decide (cf a b < 0)
/-- what the walks of the heap ask of rows that are held -/
structure TopOk (w0 : World) (N b : Nat) (rv : Nat → Value) (F : Value) (cf : Nat → Nat → Int) : Prop where
  st : HStandOk w0 N b rv F cf
  neg : ∀ x y, cf y x = - cf x y
  swo : SWO (ltC cf)
  sl : ∀ k, ∃ q m c, rv k = .slice q m c
  le : w0.heap.size ≤ b
theorem TopOk.less {w0 : World} {N b : Nat} {rv : Nat → Value} {F : Value} {cf : Nat → Nat → Int} (h : TopOk w0 N b rv F cf) (x y : Nat) : decide (0 < cf y x) = ltC cf x y := by
  unfold ltC
  have := h.neg x y
  rw [decide_eq_decide]
  omega
set_option maxHeartbeats 2000000 in
theorem up_is (w0 : World) (N b n j : Nat) (W : World) (rv : Nat → Value) (F : Value) (f : Nat → Nat) (cf : Nat → Nat → Int) (hT : TopOk w0 N b rv F cf) (h : WAt W w0.heap.size rv F b n f) (hu : HeapUp (ltC cf) f n j) (hj : j < n) (hn : n ≤ 4194304) (hf : ∀ k, k < n → f k < N) (hW : Below w0.heap.size w0 W) :
    Calls Tryz.prog 69 #[.iface 71 (.pointer (some ⟨b, 0, none⟩)), .int .i64 (j : Int)] W fun e w' => e = .returned (.tuple #[]) ∧ ∃ f', WAt w' w0.heap.size rv F b n f' ∧ Heap (ltC cf) f' n ∧ (seg f' 0 n).Perm (seg f 0 n) ∧ (∀ k, k < n → f' k < N) ∧ Below w0.heap.size W w' := by
  have hm1 := meth_less b
  have hm2 := meth_swap b
  replace hu := Lib.hid hu
  replace hf := Lib.hid hf
  replace hT := Lib.hid hT
  go_enter Tryz.func69, Tryz.ntmps69
  go_wp2_with fail
  go_loopw [1] (fun jv wr => ∃ (j : Nat) (f' : Nat → Nat), jv = .int .i64 (j : Int) ∧ j < n ∧ WAt wr w0.heap.size rv F b n f' ∧ Hid (HeapUp (ltC cf) f' n j) ∧ Hid ((seg f' 0 n).Perm (seg f 0 n)) ∧ Hid (∀ k, k < n → f' k < N) ∧ Below w0.heap.size W wr) (fun jv _ => (intOf jv).toNat)
  case atStart => exact ⟨j, f, rfl, hj, h, hu, Lib.hid (List.Perm.refl _), hf, Below.refl _ _⟩
  case round =>
    obtain ⟨j, f', rfl, hj, hw, hu, hp, hf, hb⟩ := hrel
    by_cases h0 : j = 0
    · subst h0
      have hheap := up_done hu.out (.inl rfl)
      replace hheap := Lib.hid hheap
      clear hu
      go_wp2_with fail
      go_end0
      exact ⟨rfl, f', hw, hheap.out, hp.out, hf.out, hb⟩
    · obtain ⟨i, hi⟩ : ∃ i, (j - 1) / 2 = i := ⟨_, rfl⟩
      have hij : i ≠ j := by omega
      have hin : i < n := by omega
      have e0 : ((i : Int) == (j : Int)) = false := by simp; omega
      have hd : Int.tdiv ((j : Int) - 1) 2 = (i : Int) := by rw [Int.tdiv_eq_ediv_of_nonneg (by omega)]; omega
      have hw1 : IntKind.i64.wrap ((j : Int) - 1) = (j : Int) - 1 := IntWalk.i64_in _ (by omega)
      have hw2 : wrap64 ((j : Int) - 1) = (j : Int) - 1 := by unfold wrap64; omega
      have hls := hT.out.less (f' i) (f' j)
      obtain ⟨r, hr⟩ : ∃ r, ltC cf (f' i) (f' j) = r := ⟨_, rfl⟩
      rw [hr] at hls
      have hSt := less_is w0 N b n j i wr w0.heap.size rv F f' cf hT.out.st hw (hW.trans hb) hj hin hn hf.out r (Lib.hid hls)
      have hu' := hu.out
      rw [← hi] at hr
      cases r with
      | false =>
        have hheap := up_done hu' (.inr hr)
        replace hheap := Lib.hid hheap
        clear hu hu' hr hls hi
        go_wp2_with (go_at_call 196; refine hSt.mono ?_; rintro e w1 ⟨rfl, hb1⟩)
        go_end0
        exact ⟨rfl, f', hw.below hb1, hheap.out, hp.out, hf.out, hb.trans (hb1.mono (Nat.le_trans hW.size hb.size))⟩
      | true =>
        have hstep := up_step hT.out.swo (by omega : 0 < j) hj hu' hr
        rw [hi] at hstep
        have hperm := (seg_swap f' hin hj).trans hp.out
        have hf2 : ∀ k, k < n → swap f' i j k < N := by
          intro k hk
          unfold swap
          split
          · exact hf.out j hj
          · split
            · exact hf.out i hin
            · exact hf.out k hk
        replace hstep := Lib.hid hstep
        replace hperm := Lib.hid hperm
        replace hf2 := Lib.hid hf2
        clear hu hu' hr hls
        have hsw := fun W' (h : WAt W' w0.heap.size rv F b n f') => swap_is b n i j W' w0.heap.size rv F f' h hT.out.le hin hj hij hn hT.out.sl
        have hmeas : i < j := by omega
        replace hi := Lib.hid hi
        go_wp2_with (first
          | (go_at_call 196; refine hSt.mono ?_; rintro e w1 ⟨rfl, hb1⟩; have hww := hw.below hb1)
          | (go_at_call 199; refine (hsw _ hww).mono ?_; rintro e w2 ⟨rfl, hw2', hb2⟩))
        go_roundw
        case rel => exact ⟨i, swap f' i j, rfl, hin, hw2', hstep, hperm, hf2, (hb.trans (hb1.mono (Nat.le_trans hW.size hb.size))).trans hb2⟩
        case measure =>
          clear hd hw1 hw2
          simp [intOf]; omega
end Go.Proofs.YtdapnemcdgjeeaaGreatDoor

namespace Go.Proofs.YtdapnemcdgjeeaaGreatDoor
open Go.RowKit
open Go.Proofs.YtdapnemcdgjeeaaGreatDoor.Stb (swap seg Heap HeapUp HeapDown SWO down_step down_done seg_swap)

/-- a heap of m rows, whatever lies behind: the state of down -/
structure DownAt (cf : Nat → Nat → Int) (N n m : Nat) (f f' : Nat → Nat) (i : Nat) : Prop where
  hd : HeapDown (ltC cf) f' m i
  pm : (seg f' 0 m).Perm (seg f 0 m)
  out : ∀ k, m ≤ k → f' k = f k
  lt : ∀ k, k < n → f' k < N
theorem DownAt.step {cf : Nat → Nat → Int} {N n m i j : Nat} {f f' : Nat → Nat} (h : DownAt cf N n m f f' i) (hs : SWO (ltC cf)) (hmn : m ≤ n) (him : i < m) (hjm : j < m) (hj : j = 2 * i + 1 ∨ j = 2 * i + 2) (hl : ltC cf (f' i) (f' j) = true) (hb : ∀ k, k < m → (k = 2 * i + 1 ∨ k = 2 * i + 2) → ltC cf (f' j) (f' k) = false) : DownAt cf N n m f (swap f' i j) j := by
  refine ⟨down_step hs hjm hj h.hd hl hb, (seg_swap f' him hjm).trans h.pm, fun k hk => ?_, fun k hk => ?_⟩
  · unfold swap
    rw [if_neg (by omega), if_neg (by omega)]
    exact h.out k hk
  · unfold swap
    split
    · exact h.lt j (by omega)
    · split
      · exact h.lt i (by omega)
      · exact h.lt k hk
set_option maxHeartbeats 4000000 in
theorem down_is (w0 : World) (N b n m : Nat) (W : World) (rv : Nat → Value) (F : Value) (f : Nat → Nat) (cf : Nat → Nat → Int) (hT : TopOk w0 N b rv F cf) (h : WAt W w0.heap.size rv F b n f) (hd : HeapDown (ltC cf) f m 0) (hm0 : 0 < m) (hmn : m ≤ n) (hn : n ≤ 4194304) (hf : ∀ k, k < n → f k < N) (hW : Below w0.heap.size w0 W) :
    Calls Tryz.prog 70 #[.iface 71 (.pointer (some ⟨b, 0, none⟩)), .int .i64 0, .int .i64 (m : Int)] W fun e w' => (∃ v, e = .returned (.bool v)) ∧ ∃ f', WAt w' w0.heap.size rv F b n f' ∧ Heap (ltC cf) f' m ∧ (seg f' 0 m).Perm (seg f 0 m) ∧ (∀ k, m ≤ k → f' k = f k) ∧ (∀ k, k < n → f' k < N) ∧ Below w0.heap.size W w' := by
  have hm1 := meth_less b
  have hm2 := meth_swap b
  have hD : DownAt cf N n m f f 0 := ⟨hd, List.Perm.refl _, fun _ _ => rfl, hf⟩
  replace hD := Lib.hid hD
  replace hT := Lib.hid hT
  clear hd hf
  go_enter Tryz.func70, Tryz.ntmps70
  go_wp2_with fail
  go_loopw [7] (fun iv wr => ∃ (i : Nat) (f' : Nat → Nat), iv = .int .i64 (i : Int) ∧ i < m ∧ WAt wr w0.heap.size rv F b n f' ∧ Hid (DownAt cf N n m f f' i) ∧ Below w0.heap.size W wr) (fun iv _ => m - (intOf iv).toNat)
  case atStart => exact ⟨0, f, rfl, hm0, h, hD, Below.refl _ _⟩
  case round =>
    obtain ⟨i, f', rfl, him, hw, hD, hb⟩ := hrel
    have w1 : IntKind.i64.wrap (2 * (i : Int)) = 2 * (i : Int) := IntWalk.i64_in _ (by omega)
    have w2 : IntKind.i64.wrap (2 * (i : Int) + 1) = 2 * (i : Int) + 1 := IntWalk.i64_in _ (by omega)
    have hBB : w0.heap.size ≤ wr.heap.size := Nat.le_trans hW.size hb.size
    by_cases hend : m ≤ 2 * i + 1
    · have g0 : decide (2 * (i : Int) + 1 ≥ (m : Int)) = true := by simp; omega
      have hheap : Heap (ltC cf) f' m := down_done hT.out.swo hD.out.hd (fun k hk hk2 => by omega)
      replace hheap := Lib.hid hheap
      go_wp2_with fail
      go_ret
      exact ⟨⟨_, rfl⟩, f', hw, hheap.out, hD.out.pm, hD.out.out, hD.out.lt, hb⟩
    · have g0 : decide (2 * (i : Int) + 1 ≥ (m : Int)) = false := by simp; omega
      have g1 : decide (2 * (i : Int) + 1 < 0) = false := by simp; omega
      have c1 : (((2 * i + 1 : Nat) : Int)) = 2 * (i : Int) + 1 := by omega
      have c2 : (((2 * i + 2 : Nat) : Int)) = 2 * (i : Int) + 1 + 1 := by omega
      have w3 : IntKind.i64.wrap (2 * (i : Int) + 1 + 1) = 2 * (i : Int) + 1 + 1 := IntWalk.i64_in _ (by omega)
      by_cases h2 : m ≤ 2 * i + 2
      · have g2 : decide (2 * (i : Int) + 1 + 1 < (m : Int)) = false := by simp; omega
        have hj2 : 2 * i + 1 < m := by omega
        have hmax : ∀ k, k < m → (k = 2 * i + 1 ∨ k = 2 * i + 2) → ltC cf (f' (2 * i + 1)) (f' k) = false := by
          intro k hk hk2
          rcases hk2 with rfl | rfl
          · exact hT.out.swo.irr _
          · omega
        obtain ⟨r, hr⟩ : ∃ r, ltC cf (f' i) (f' (2 * i + 1)) = r := ⟨_, rfl⟩
        have hls := hT.out.less (f' i) (f' (2 * i + 1))
        rw [hr] at hls
        have hL2 := fun W' (h : WAt W' w0.heap.size rv F b n f') (hb' : Below w0.heap.size w0 W') => less_is w0 N b n (2 * i + 1) i W' w0.heap.size rv F f' cf hT.out.st h hb' (by omega) (by omega) hn hD.out.lt r (Lib.hid hls)
        have hsw := fun W' (h : WAt W' w0.heap.size rv F b n f') => swap_is b n i (2 * i + 1) W' w0.heap.size rv F f' h hT.out.le (by omega) (by omega) (by omega) hn hT.out.sl
        simp only [c1] at hL2 hsw
        cases r with
        | false =>
          have hheap : Heap (ltC cf) f' m := down_done hT.out.swo hD.out.hd (fun k hk hk2 => hT.out.swo.ntrans _ _ _ hr (hmax k hk hk2))
          replace hheap := Lib.hid hheap
          replace hmax := Lib.hid hmax
          replace hr := Lib.hid hr
          clear hls hsw
          go_wp2_with (first
            | (go_at_call_of 196 (Value.int IntKind.i64 (i : Int)); refine (hL2 _ hw (hW.trans hb)).mono ?_; rintro e w6 ⟨rfl, hb6⟩))
          go_ret
          exact ⟨⟨_, rfl⟩, f', hw.below hb6, hheap.out, hD.out.pm, hD.out.out, hD.out.lt, hb.trans (hb6.mono hBB)⟩
        | true =>
          have hstep := hD.out.step hT.out.swo hmn him hj2 (by omega) hr hmax
          replace hstep := Lib.hid hstep
          replace hmax := Lib.hid hmax
          replace hr := Lib.hid hr
          clear hls
          go_wp2_with (first
            | (go_at_call_of 196 (Value.int IntKind.i64 (i : Int)); refine (hL2 _ hw (hW.trans hb)).mono ?_; rintro e w6 ⟨rfl, hb6⟩; have hw6 := hw.below hb6; have hb06 := hb.trans (hb6.mono hBB))
            | (go_at_call 199; refine (hsw _ hw6).mono ?_; rintro e w7 ⟨rfl, hw7, hb7⟩))
          go_roundw
          case rel => exact ⟨2 * i + 1, swap f' i (2 * i + 1), by rw [c1], hj2, hw7, hstep, hb06.trans hb7⟩
          case measure => simp [intOf]; omega
      · have g2 : decide (2 * (i : Int) + 1 + 1 < (m : Int)) = true := by simp; omega
        obtain ⟨r1, hr1⟩ : ∃ r1, ltC cf (f' (2 * i + 1)) (f' (2 * i + 2)) = r1 := ⟨_, rfl⟩
        have hls1 := hT.out.less (f' (2 * i + 1)) (f' (2 * i + 2))
        rw [hr1] at hls1
        have hL1 := less_is w0 N b n (2 * i + 2) (2 * i + 1) wr w0.heap.size rv F f' cf hT.out.st hw (hW.trans hb) (by omega) (by omega) hn hD.out.lt r1 (Lib.hid hls1)
        simp only [c1, c2] at hL1
        clear hls1
        cases r1 with
        | false =>
          have hj2 : 2 * i + 1 < m := by omega
          have hmax : ∀ k, k < m → (k = 2 * i + 1 ∨ k = 2 * i + 2) → ltC cf (f' (2 * i + 1)) (f' k) = false := by
            intro k hk hk2
            rcases hk2 with rfl | rfl
            · exact hT.out.swo.irr _
            · exact hr1
          obtain ⟨r, hr⟩ : ∃ r, ltC cf (f' i) (f' (2 * i + 1)) = r := ⟨_, rfl⟩
          have hls := hT.out.less (f' i) (f' (2 * i + 1))
          rw [hr] at hls
          have hL2 := fun W' (h : WAt W' w0.heap.size rv F b n f') (hb' : Below w0.heap.size w0 W') => less_is w0 N b n (2 * i + 1) i W' w0.heap.size rv F f' cf hT.out.st h hb' (by omega) (by omega) hn hD.out.lt r (Lib.hid hls)
          have hsw := fun W' (h : WAt W' w0.heap.size rv F b n f') => swap_is b n i (2 * i + 1) W' w0.heap.size rv F f' h hT.out.le (by omega) (by omega) (by omega) hn hT.out.sl
          simp only [c1] at hL2 hsw
          cases r with
          | false =>
            have hheap : Heap (ltC cf) f' m := down_done hT.out.swo hD.out.hd (fun k hk hk2 => hT.out.swo.ntrans _ _ _ hr (hmax k hk hk2))
            replace hheap := Lib.hid hheap
            replace hmax := Lib.hid hmax
            replace hr := Lib.hid hr
            clear hls hsw
            go_wp2_with (first
              | (go_at_call_of 196 (Value.int IntKind.i64 (i : Int)); have _q := hb5; refine (hL2 _ (hw.below hb5) ((hW.trans hb).trans (hb5.mono hBB))).mono ?_; rintro e w6 ⟨rfl, hb6⟩)
              | (go_at_call 196; refine hL1.mono ?_; rintro e w5 ⟨rfl, hb5⟩))
            go_ret
            exact ⟨⟨_, rfl⟩, f', (hw.below hb5).below hb6, hheap.out, hD.out.pm, hD.out.out, hD.out.lt, (hb.trans (hb5.mono hBB)).trans (hb6.mono (Nat.le_trans hBB hb5.size))⟩
          | true =>
            have hstep := hD.out.step hT.out.swo hmn him hj2 (by omega) hr hmax
            replace hstep := Lib.hid hstep
            replace hmax := Lib.hid hmax
            replace hr := Lib.hid hr
            clear hls
            go_wp2_with (first
              | (go_at_call_of 196 (Value.int IntKind.i64 (i : Int)); have _q := hb5; refine (hL2 _ (hw.below hb5) ((hW.trans hb).trans (hb5.mono hBB))).mono ?_; rintro e w6 ⟨rfl, hb6⟩; have hw6 := (hw.below hb5).below hb6; have hb06 := (hb.trans (hb5.mono hBB)).trans (hb6.mono (Nat.le_trans hBB hb5.size)))
              | (go_at_call 196; refine hL1.mono ?_; rintro e w5 ⟨rfl, hb5⟩)
              | (go_at_call 199; refine (hsw _ hw6).mono ?_; rintro e w7 ⟨rfl, hw7, hb7⟩))
            go_roundw
            case rel => exact ⟨2 * i + 1, swap f' i (2 * i + 1), by rw [c1], hj2, hw7, hstep, hb06.trans hb7⟩
            case measure => simp [intOf]; omega
        | true =>
          have hj2 : 2 * i + 2 < m := by omega
          have hmax : ∀ k, k < m → (k = 2 * i + 1 ∨ k = 2 * i + 2) → ltC cf (f' (2 * i + 2)) (f' k) = false := by
            intro k hk hk2
            rcases hk2 with rfl | rfl
            · exact hT.out.swo.asym hr1
            · exact hT.out.swo.irr _
          obtain ⟨r, hr⟩ : ∃ r, ltC cf (f' i) (f' (2 * i + 2)) = r := ⟨_, rfl⟩
          have hls := hT.out.less (f' i) (f' (2 * i + 2))
          rw [hr] at hls
          have hL2 := fun W' (h : WAt W' w0.heap.size rv F b n f') (hb' : Below w0.heap.size w0 W') => less_is w0 N b n (2 * i + 2) i W' w0.heap.size rv F f' cf hT.out.st h hb' (by omega) (by omega) hn hD.out.lt r (Lib.hid hls)
          have hsw := fun W' (h : WAt W' w0.heap.size rv F b n f') => swap_is b n i (2 * i + 2) W' w0.heap.size rv F f' h hT.out.le (by omega) (by omega) (by omega) hn hT.out.sl
          simp only [c2] at hL2 hsw
          cases r with
          | false =>
            have hheap : Heap (ltC cf) f' m := down_done hT.out.swo hD.out.hd (fun k hk hk2 => hT.out.swo.ntrans _ _ _ hr (hmax k hk hk2))
            replace hheap := Lib.hid hheap
            replace hmax := Lib.hid hmax
            replace hr := Lib.hid hr
            clear hls hsw
            go_wp2_with (first
              | (go_at_call_of 196 (Value.int IntKind.i64 (i : Int)); have _q := hb5; refine (hL2 _ (hw.below hb5) ((hW.trans hb).trans (hb5.mono hBB))).mono ?_; rintro e w6 ⟨rfl, hb6⟩)
              | (go_at_call 196; refine hL1.mono ?_; rintro e w5 ⟨rfl, hb5⟩))
            go_ret
            exact ⟨⟨_, rfl⟩, f', (hw.below hb5).below hb6, hheap.out, hD.out.pm, hD.out.out, hD.out.lt, (hb.trans (hb5.mono hBB)).trans (hb6.mono (Nat.le_trans hBB hb5.size))⟩
          | true =>
            have hstep := hD.out.step hT.out.swo hmn him hj2 (by omega) hr hmax
            replace hstep := Lib.hid hstep
            replace hmax := Lib.hid hmax
            replace hr := Lib.hid hr
            clear hls
            go_wp2_with (first
              | (go_at_call_of 196 (Value.int IntKind.i64 (i : Int)); have _q := hb5; refine (hL2 _ (hw.below hb5) ((hW.trans hb).trans (hb5.mono hBB))).mono ?_; rintro e w6 ⟨rfl, hb6⟩; have hw6 := (hw.below hb5).below hb6; have hb06 := (hb.trans (hb5.mono hBB)).trans (hb6.mono (Nat.le_trans hBB hb5.size)))
              | (go_at_call 196; refine hL1.mono ?_; rintro e w5 ⟨rfl, hb5⟩)
              | (go_at_call 199; refine (hsw _ hw6).mono ?_; rintro e w7 ⟨rfl, hw7, hb7⟩))
            go_roundw
            case rel => exact ⟨2 * i + 2, swap f' i (2 * i + 2), by rw [c2], hj2, hw7, hstep, hb06.trans hb7⟩
            case measure => simp [intOf]; omega
end Go.Proofs.YtdapnemcdgjeeaaGreatDoor

namespace Go.Proofs.YtdapnemcdgjeeaaGreatDoor
open Go.RowKit
open Go.Proofs.YtdapnemcdgjeeaaGreatDoor.Stb (swap seg Heap HeapUp HeapDown SWO seg_swap)

theorem seg_end {α : Type} (f : Nat → α) (n : Nat) : seg f 0 (n + 1) = seg f 0 n ++ [f n] := by
  unfold seg
  rw [Nat.sub_zero, Nat.sub_zero, List.range'_concat, List.map_append]
  simp
set_option maxHeartbeats 1000000 in
theorem hpush_is (w0 : World) (N b n k : Nat) (W : World) (rv : Nat → Value) (F : Value) (f : Nat → Nat) (cf : Nat → Nat → Int) (hT : TopOk w0 N b rv F cf) (h : WAt W w0.heap.size rv F b n f) (hh : Heap (ltC cf) f n) (hn : n < 4194304) (hf : ∀ k, k < n → f k < N) (hk : k < N) (hW : Below w0.heap.size w0 W) :
    Calls Tryz.prog 38 #[.iface 71 (.pointer (some ⟨b, 0, none⟩)), .iface 77 (.agg #[rv k, .int .i64 (k : Int)])] W fun e w' => e = .returned (.tuple #[]) ∧ ∃ f', WAt w' w0.heap.size rv F b (n + 1) f' ∧ Heap (ltC cf) f' (n + 1) ∧ (seg f' 0 (n + 1)).Perm (seg f 0 n ++ [k]) ∧ (∀ k, k < n + 1 → f' k < N) ∧ Below w0.heap.size W w' := by
  have hm1 := meth_push b
  have hm2 := meth_len b
  have hP := push_is b n k W w0.heap.size rv F f h hT.le (by omega) hT.sl
  obtain ⟨f1, hf1⟩ : ∃ f1 : Nat → Nat, (fun m => if m = n then k else f m) = f1 := ⟨_, rfl⟩
  rw [hf1] at hP
  have e1 : ∀ m, m ≠ n → f1 m = f m := fun m hm => by rw [← hf1]; exact if_neg hm
  have e2 : f1 n = k := by rw [← hf1]; exact if_pos rfl
  have hh1 : Heap (ltC cf) f1 n := fun m hm hmn => by rw [e1 _ (by omega), e1 _ (by omega)]; exact hh m hm hmn
  have hu := Stb.up_start hh1
  have hs1 : seg f1 0 (n + 1) = seg f 0 n ++ [k] := by
    rw [seg_end, e2]
    congr 1
    exact Stb.seg_congr fun m _ hm => e1 m (by omega)
  have hf2 : ∀ m, m < n + 1 → f1 m < N := by
    intro m hm
    by_cases e : m = n
    · rw [e, e2]; exact hk
    · rw [e1 m e]; exact hf m (by omega)
  have hw1 : IntKind.i64.wrap (((n + 1 : Nat) : Int) - 1) = (n : Int) := by rw [show (((n + 1 : Nat) : Int) - 1) = (n : Int) by omega]; exact IntWalk.i64_in _ (by omega)
  have hw2 : wrap64 (((n + 1 : Nat) : Int) - 1) = (n : Int) := by unfold wrap64; omega
  have hU := fun W' (h : WAt W' w0.heap.size rv F b (n + 1) f1) (hb' : Below w0.heap.size w0 W') => up_is w0 N b (n + 1) n W' rv F f1 cf hT h hu (by omega) (by omega) hf2 hb'
  rw [hs1] at hU
  clear hT hh hh1 hu hf hf2 hs1 e1 e2 hf1
  go_enter Tryz.func38, Tryz.ntmps38
  go_wp2_with (first
    | (go_at_call 198; refine hP.mono ?_; rintro e w1 ⟨rfl, hw, hb1⟩)
    | (go_at_call 39; refine (len_is b (n + 1) _ w0.heap.size rv F f1 hw).mono ?_; rintro e w2 ⟨rfl, rfl⟩)
    | (go_at_call 69; refine (hU _ hw (hW.trans hb1)).mono ?_; rintro e w3 ⟨rfl, f', hw3, hh3, hp3, hl3, hb3⟩))
  go_end0
  exact ⟨rfl, f', hw3, hh3, hp3, hl3, hb1.trans hb3⟩
set_option maxHeartbeats 1000000 in
theorem hpop_is (w0 : World) (N b n : Nat) (W : World) (rv : Nat → Value) (F : Value) (f : Nat → Nat) (cf : Nat → Nat → Int) (hT : TopOk w0 N b rv F cf) (h : WAt W w0.heap.size rv F b (n + 1) f) (hh : Heap (ltC cf) f (n + 1)) (hn0 : 0 < n) (hn : n < 4194304) (hf : ∀ k, k < n + 1 → f k < N) (hW : Below w0.heap.size w0 W) :
    Calls Tryz.prog 40 #[.iface 71 (.pointer (some ⟨b, 0, none⟩))] W fun e w' => (∃ v, e = .returned v) ∧ ∃ f', WAt w' w0.heap.size rv F b n f' ∧ Heap (ltC cf) f' n ∧ (seg f' 0 n ++ [f 0]).Perm (seg f 0 (n + 1)) ∧ (∀ k, k < n → f' k < N) ∧ Below w0.heap.size W w' := by
  have hm1 := meth_len b
  have hm2 := meth_swap b
  have hm3 := meth_pop b
  have hd := Stb.down_start hh
  have hsw := swap_is b (n + 1) 0 n W w0.heap.size rv F f h hT.le (by omega) (by omega) (by omega) (by omega) hT.sl
  have hp0 := seg_swap f (i := 0) (j := n) (n := n + 1) (by omega) (by omega)
  have hf1 : ∀ m, m < n + 1 → swap f 0 n m < N := by
    intro m hm
    unfold swap
    split
    · exact hf n (by omega)
    · split
      · exact hf 0 (by omega)
      · exact hf m hm
  have e0 : swap f 0 n n = f 0 := by unfold swap; rw [if_neg (by omega), if_pos rfl]
  rw [seg_end, e0] at hp0
  have hDn := fun W' (h : WAt W' w0.heap.size rv F b (n + 1) (swap f 0 n)) (hb' : Below w0.heap.size w0 W') => down_is w0 N b (n + 1) n W' rv F (swap f 0 n) cf hT h hd hn0 (by omega) (by omega) hf1 hb'
  have hPp := fun W' f' (h : WAt W' w0.heap.size rv F b (n + 1) f') => pop_is b n W' w0.heap.size rv F f' h hT.le (by omega) hT.sl
  have hw1 : IntKind.i64.wrap (((n + 1 : Nat) : Int) - 1) = (n : Int) := by rw [show (((n + 1 : Nat) : Int) - 1) = (n : Int) by omega]; exact IntWalk.i64_in _ (by omega)
  have hw2 : wrap64 (((n + 1 : Nat) : Int) - 1) = (n : Int) := by unfold wrap64; omega
  have hL := len_is b (n + 1) W w0.heap.size rv F f h
  replace hp0 := Lib.hid hp0
  clear hT hh hd hf hf1 e0
  go_enter Tryz.func40, Tryz.ntmps40
  go_wp2_with (first
    | (go_at_call 39; refine hL.mono ?_; rintro e w1 ⟨rfl, rfl⟩)
    | (go_at_call 199; refine hsw.mono ?_; rintro e w2 ⟨rfl, hw2', hb2⟩)
    | (go_at_call 70; refine (hDn _ hw2' (hW.trans hb2)).mono ?_; rintro e w3 ⟨⟨v3, rfl⟩, f3, hw3, hh3, hp3, ho3, hl3, hb3⟩)
    | (go_at_call 197; refine (hPp _ f3 hw3).mono ?_; rintro e w4 ⟨⟨v4, rfl⟩, hw4, hb4⟩))
  go_ret
  exact ⟨⟨_, rfl⟩, f3, hw4, hh3, (hp3.append_right _).trans hp0.out, fun k hk => hl3 k (by omega), (hb2.trans hb3).trans hb4⟩
end Go.Proofs.YtdapnemcdgjeeaaGreatDoor

namespace Go.Proofs.YtdapnemcdgjeeaaGreatDoor
open Go.RowKit

/-- what the closure that 'order' makes answers of rows that came -/
def OrdOk (w0 : World) (N : Nat) (rv : Nat → Value) (g1 g2 : Nat) (st : Nat → Nat → Int) : Prop :=
  ∀ (W : World) (k j : Nat), k < N → j < N → Below w0.heap.size w0 W → Calls Tryz.prog 64 #[rv k, rv j, .pointer (some ⟨g1, 0, none⟩), .pointer (some ⟨g2, 0, none⟩)] W fun e w' => e = .returned (.int .i64 (st k j)) ∧ Below W.heap.size W w'
def ordF (g1 g2 : Nat) : Value := .func (.func 64) #[] #[.pointer (some ⟨g1, 0, none⟩), .pointer (some ⟨g2, 0, none⟩)]
theorem keep5s {w W W' : World} {b va vb : Nat} {x0 x1 x2 x3 x4 : Value} (lb : b < w.heap.size) (la : va < w.heap.size) (lc : vb < w.heap.size)
    (h : W.cell? ⟨b, 1, none⟩ = some x0 ∧ W.cell? ⟨va, 0, none⟩ = some x1 ∧ W.cell? ⟨va, 1, none⟩ = some x2 ∧ W.cell? ⟨vb, 0, none⟩ = some x3 ∧ W.cell? ⟨vb, 1, none⟩ = some x4 ∧ Below w.heap.size w W) (hb : Below W.heap.size W W') :
    W'.cell? ⟨b, 1, none⟩ = some x0 ∧ W'.cell? ⟨va, 0, none⟩ = some x1 ∧ W'.cell? ⟨va, 1, none⟩ = some x2 ∧ W'.cell? ⟨vb, 0, none⟩ = some x3 ∧ W'.cell? ⟨vb, 1, none⟩ = some x4 ∧ Below w.heap.size w W' := by
  obtain ⟨h0, h1, h2, h3, h4, hB⟩ := h
  have lb' := Nat.lt_of_lt_of_le lb hB.size
  have la' := Nat.lt_of_lt_of_le la hB.size
  have lc' := Nat.lt_of_lt_of_le lc hB.size
  exact ⟨(hb.cell (p := ⟨b, 1, none⟩) lb').trans h0, (hb.cell (p := ⟨va, 0, none⟩) la').trans h1, (hb.cell (p := ⟨va, 1, none⟩) la').trans h2, (hb.cell (p := ⟨vb, 0, none⟩) lc').trans h3, (hb.cell (p := ⟨vb, 1, none⟩) lc').trans h4, hB.trans (hb.mono hB.size)⟩
theorem keep5s0 {w W : World} {b va vb : Nat} {x0 x1 x2 x3 x4 : Value}
    (h : W.cell? ⟨b, 1, none⟩ = some x0 ∧ W.cell? ⟨va, 0, none⟩ = some x1 ∧ W.cell? ⟨va, 1, none⟩ = some x2 ∧ W.cell? ⟨vb, 0, none⟩ = some x3 ∧ W.cell? ⟨vb, 1, none⟩ = some x4 ∧ Below w.heap.size w W) :
    W.drew.cell? ⟨b, 1, none⟩ = some x0 ∧ W.drew.cell? ⟨va, 0, none⟩ = some x1 ∧ W.drew.cell? ⟨va, 1, none⟩ = some x2 ∧ W.drew.cell? ⟨vb, 0, none⟩ = some x3 ∧ W.drew.cell? ⟨vb, 1, none⟩ = some x4 ∧ Below w.heap.size w W.drew := ⟨h.1, h.2.1, h.2.2.1, h.2.2.2.1, h.2.2.2.2.1, h.2.2.2.2.2.drew⟩
set_option maxHeartbeats 4000000 in
theorem hstand_is (w0 : World) (N b : Nat) (rv : Nat → Value) (g1 g2 : Nat) (st : Nat → Nat → Int) (hO : OrdOk w0 N rv g1 g2 st) (hsl : ∀ k, ∃ q m c, rv k = .slice q m c) :
    HStandOk w0 N b rv (ordF g1 g2) (fun k j => if st k j ≠ 0 then st k j else Lib.compareInt (k : Int) (j : Int)) := by
  intro W k j hk hj hW hF lbW
  obtain ⟨qk, nk, ck, ek⟩ := hsl k
  obtain ⟨qj, nj, cj, ej⟩ := hsl j
  have hOW := fun W' (h : Below w0.heap.size w0 W') => hO W' k j hk hj h
  rw [ek, ej] at hOW
  rw [ek, ej]
  unfold ordF at hF
  obtain ⟨x, hx⟩ : ∃ x, st k j = x := ⟨_, rfl⟩
  simp only [hx] at hOW ⊢
  obtain ⟨y, hy⟩ : ∃ y, Lib.compareInt (k : Int) (j : Int) = y := ⟨_, rfl⟩
  obtain ⟨r, hr⟩ : ∃ r, (if x ≠ 0 then x else y) = r := ⟨_, rfl⟩
  rw [hy, hr]
  replace hr := Lib.hid hr
  replace hy := Lib.hid hy
  clear hsl hO hx ek ej
  have hV0 := (Blk.new W 77 #[.slice qk nk ck, .int .i64 (k : Int)]).alloc (.cells #[.slice qj nj cj, .int .i64 (j : Int)] 77)
  have hX0 := Blk.new (W.alloc (.cells #[.slice qk nk ck, .int .i64 (k : Int)] 77)) 77 #[.slice qj nj cj, .int .i64 (j : Int)]
  have hb0 := stepB (newB W (.cells #[.slice qk nk ck, .int .i64 (k : Int)] 77)) (newB _ (.cells #[.slice qj nj cj, .int .i64 (j : Int)] 77))
  have hsz : (W.alloc (.cells #[.slice qk nk ck, .int .i64 (k : Int)] 77)).heap.size = W.heap.size + 1 := by simp
  rw [hsz] at hX0
  obtain ⟨W0, hW0⟩ : ∃ x, (W.alloc (.cells #[.slice qk nk ck, .int .i64 (k : Int)] 77)).alloc (.cells #[.slice qj nj cj, .int .i64 (j : Int)] 77) = x := ⟨_, rfl⟩
  rw [hW0] at hV0 hX0 hb0
  have la := hV0.lt
  have lc := hX0.lt
  have lb : b < W0.heap.size := Nat.lt_of_lt_of_le lbW hb0.size
  have H0 : W0.cell? ⟨b, 1, none⟩ = some (.func (.func 64) #[] #[.pointer (some ⟨g1, 0, none⟩), .pointer (some ⟨g2, 0, none⟩)]) ∧ W0.cell? ⟨W.heap.size, 0, none⟩ = some (.slice qk nk ck) ∧ W0.cell? ⟨W.heap.size, 1, none⟩ = some (.int .i64 (k : Int)) ∧ W0.cell? ⟨W.heap.size + 1, 0, none⟩ = some (.slice qj nj cj) ∧ W0.cell? ⟨W.heap.size + 1, 1, none⟩ = some (.int .i64 (j : Int)) ∧ Below W0.heap.size W0 W0 :=
    ⟨(hb0.cell (p := ⟨b, 1, none⟩) lbW).trans hF, hV0.cell 0, hV0.cell 1, hX0.cell 0, hX0.cell 1, Below.refl _ _⟩
  have hW0b : Below w0.heap.size w0 W0 := hW.trans (hb0.mono hW.size)
  replace hsz := Lib.hid hsz
  clear hV0 hX0 hF
  go_enter Tryz.func42, Tryz.ntmps42
  go_upto_region 1 with fail
  replace hW0 := Lib.hid hW0
  go_wp2_with fail
  go_region_held3 (fun W' => W'.cell? ⟨b, 1, none⟩ = some (.func (.func 64) #[] #[.pointer (some ⟨g1, 0, none⟩), .pointer (some ⟨g2, 0, none⟩)]) ∧ W'.cell? ⟨W.heap.size, 0, none⟩ = some (.slice qk nk ck) ∧ W'.cell? ⟨W.heap.size, 1, none⟩ = some (.int .i64 (k : Int)) ∧ W'.cell? ⟨W.heap.size + 1, 0, none⟩ = some (.slice qj nj cj) ∧ W'.cell? ⟨W.heap.size + 1, 1, none⟩ = some (.int .i64 (j : Int)) ∧ Below W0.heap.size W0 W') (first | assumption | exact keep5s lb la lc (by assumption) (by assumption) | exact keep5s0 (by assumption) | exact keep5s lb la lc (by assumption) (newB _ _) | exact keep5s lb la lc (by assumption) (newB _ _).drew) (first
    | (go_at_call 64; have hSS := (by assumption : _ ∧ _ ∧ _ ∧ _ ∧ _ ∧ Below W0.heap.size W0 _); refine (hOW _ (hW0b.trans (hSS.2.2.2.2.2.mono hW0b.size))).mono ?_; rintro e w5 ⟨rfl, hb5⟩; clear hSS)
    | (go_at_call 74; refine (Tryz.cmp_Compare_int _ _ _).mono ?_; rintro e w6 ⟨rfl, hww⟩; obtain rfl := hww.symm; rw [hy.out])
    | (go_at_call 73; refine (or_any _ x y _ _ (by simp) (by simp)).mono ?_; rintro e w7 ⟨rfl, hww⟩; obtain rfl := hww; rw [hr.out]))
  all_goals (
    rename_i hS9
    have hb9 := stepB hb0 hS9.2.2.2.2.2
    go_wp2
    go_ret
    exact ⟨rfl, hb9⟩)
end Go.Proofs.YtdapnemcdgjeeaaGreatDoor

