/- Walks: the library's unstable sort, at rows that are held: memory, the comparison, insertion. Walks: the library's unstable sort, at rows that are held: the median. Walks: the library's unstable sort, at rows that are held: the pivot. Walks: the library's unstable sort, at rows that are held: reversing. -/
import Derived.Test.YtdapnemcdgjeeaaGreatDoorSrtA
import Derived.Sort.LotA
import Derived.Sort.LotB
import Derived.Sort.LotC
import Derived.Sort.LotD3
set_option maxRecDepth 100000
set_option linter.unusedVariables false
set_option linter.unusedSimpArgs false
namespace Go.Proofs.YtdapnemcdgjeeaaGreatDoor.Pdq
open Go.RowKit
open Go.Proofs.YtdapnemcdgjeeaaGreatDoor.Srt (grown_below grown_set)
open Go.Sort (swp insInner insOuter insertionSort)

theorem get_set_same (d : Array Nat) (i x : Nat) (hi : i < d.size) : (d.setIfInBounds i x)[i]! = x := by
  rw [getElem!_def, Array.getElem?_setIfInBounds, if_pos rfl, if_pos hi]
theorem get_set_other (d : Array Nat) (i k x : Nat) (hk : k ≠ i) : (d.setIfInBounds i x)[k]! = d[k]! := by
  rw [getElem!_def, getElem!_def, Array.getElem?_setIfInBounds, if_neg (Ne.symm hk)]
/-- the row that is sorted: block B, N places of two cells, of which place k holds the row that came as d[k]; nothing else of what was there has turned -/
structure RH (rv : Nat → Value) (W0 : World) (B N M : Nat) (d : Array Nat) (W : World) : Prop where
  size : d.size = N
  cell : ∀ k, k < N → W.cell? ⟨B, k * 2, none⟩ = some (rv d[k]!) ∧ W.cell? ⟨B, k * 2 + 1, none⟩ = some (.int .i64 (d[k]! : Int))
  free : ∀ k, W.frozen? ⟨B, k, none⟩ = false
  memb : ∀ k, k < N → d[k]! < M
  grown : W0.grownBy W (some B)
  blk : B < W0.heap.size
  sl : ∀ x, ∃ p n c, rv x = .slice p n c
theorem RH.lt {rv : Nat → Value} {W0 W : World} {B N M : Nat} {d : Array Nat} (h : RH rv W0 B N M d W) : B < W.heap.size := Nat.lt_of_lt_of_le h.blk h.grown.size
theorem RH.below {rv : Nat → Value} {W0 W W' : World} {B N M : Nat} {d : Array Nat} (h : RH rv W0 B N M d W) (hb : Below W.heap.size W W') : RH rv W0 B N M d W' :=
  ⟨h.size, fun k hk => ⟨(hb.cell (p := ⟨B, k * 2, none⟩) h.lt).trans (h.cell k hk).1, (hb.cell (p := ⟨B, k * 2 + 1, none⟩) h.lt).trans (h.cell k hk).2⟩, fun k => (hb.frozen (p := ⟨B, k, none⟩) h.lt).trans (h.free k), h.memb, h.grown.trans (grown_below _ hb), h.blk, h.sl⟩
theorem RH.drew {rv : Nat → Value} {W0 W : World} {B N M : Nat} {d : Array Nat} (h : RH rv W0 B N M d W) : RH rv W0 B N M d W.drew := h.below (Below.refl _ _).drew
theorem RH.put {rv : Nat → Value} {W0 W : World} {B N M : Nat} {d : Array Nat} (h : RH rv W0 B N M d W) {i : Nat} (hi : i < N) {x : Nat} (hx : x < M) :
    RH rv W0 B N M (d.setIfInBounds i x) ((W.setCell ⟨B, i * 2, none⟩ (rv x)).setCell ⟨B, i * 2 + 1, none⟩ (.int .i64 (x : Int))) := by
  have hg : ∀ k, k < N → (d.setIfInBounds i x)[k]! = if k = i then x else d[k]! := by
    intro k hk
    by_cases e : k = i
    · subst e
      rw [if_pos rfl]
      exact get_set_same d k x (by rw [h.size]; exact hi)
    · rw [if_neg e]
      exact get_set_other d i k x e
  refine ⟨by simpa using h.size, fun k hk => ?_, fun k => by rw [World.frozen?_setCell, World.frozen?_setCell]; exact h.free k, fun k hk => ?_, (h.grown.trans (grown_set _ _ _ _)).trans (grown_set _ _ _ _), h.blk, h.sl⟩
  · rw [hg k hk]
    obtain ⟨h1, h2⟩ := h.cell k hk
    by_cases e : k = i
    · subst e
      rw [if_pos rfl]
      constructor
      · rw [World.cell?_setCell_other _ _ _ _ (fun e' => by injection e' with _ e2; omega), World.cell?_setCell_same _ _ _ h1]
      · exact World.cell?_setCell_same _ _ _ ((World.cell?_setCell_other _ _ _ _ (fun e' => by injection e' with _ e2; omega)).trans h2)
    · rw [if_neg e]
      constructor
      · rw [World.cell?_setCell_other _ _ _ _ (fun e' => by injection e' with _ e2; omega), World.cell?_setCell_other _ _ _ _ (fun e' => by injection e' with _ e2; omega)]
        exact h1
      · rw [World.cell?_setCell_other _ _ _ _ (fun e' => by injection e' with _ e2; omega), World.cell?_setCell_other _ _ _ _ (fun e' => by injection e' with _ e2; omega)]
        exact h2
  · rw [hg k hk]
    split
    · exact hx
    · exact h.memb k hk
theorem RH.swap {rv : Nat → Value} {W0 W : World} {B N M : Nat} {d : Array Nat} (h : RH rv W0 B N M d W) {i j : Nat} (hi : i < N) (hj : j < N) :
    RH rv W0 B N M (swp d i j) ((((W.setCell ⟨B, i * 2, none⟩ (rv d[j]!)).setCell ⟨B, i * 2 + 1, none⟩ (.int .i64 (d[j]! : Int))).setCell ⟨B, j * 2, none⟩ (rv d[i]!)).setCell ⟨B, j * 2 + 1, none⟩ (.int .i64 (d[i]! : Int))) :=
  (h.put hi (h.memb j hj)).put hj (h.memb i hi)
/-- what the function that compares must do, whenever it's called: it tells the order, and of what was there it turns nothing -/
structure CmpH (rv : Nat → Value) (M : Nat) (lt : Nat → Nat → Bool) (W0 : World) (B b : Nat) : Prop where
  call : ∀ (W : World) (x y : Nat), x < M → y < M → W0.grownBy W (some B) → Calls Tryz.prog 42 #[.pointer (some ⟨b, 0, none⟩), .agg #[rv x, .int .i64 (x : Int)], .agg #[rv y, .int .i64 (y : Int)]] W fun e w' => ∃ d : Int, e = .returned (.int .i64 d) ∧ (d < 0 ↔ lt x y = true) ∧ Below W.heap.size W w'
/-- four cells that a comparison reads, and the row -/
theorem keepF {rv : Nat → Value} {W0 W W' : World} {B N M o1 o2 o3 o4 : Nat} {d : Array Nat} {x1 x2 x3 x4 : Value} (h : W.cell? ⟨B, o1, none⟩ = some x1 ∧ W.cell? ⟨B, o2, none⟩ = some x2 ∧ W.cell? ⟨B, o3, none⟩ = some x3 ∧ W.cell? ⟨B, o4, none⟩ = some x4 ∧ RH rv W0 B N M d W) (hb : Below W.heap.size W W') :
    W'.cell? ⟨B, o1, none⟩ = some x1 ∧ W'.cell? ⟨B, o2, none⟩ = some x2 ∧ W'.cell? ⟨B, o3, none⟩ = some x3 ∧ W'.cell? ⟨B, o4, none⟩ = some x4 ∧ RH rv W0 B N M d W' := by
  obtain ⟨h1, h2, h3, h4, h5⟩ := h
  exact ⟨(hb.cell (p := ⟨B, o1, none⟩) h5.lt).trans h1, (hb.cell (p := ⟨B, o2, none⟩) h5.lt).trans h2, (hb.cell (p := ⟨B, o3, none⟩) h5.lt).trans h3, (hb.cell (p := ⟨B, o4, none⟩) h5.lt).trans h4, h5.below hb⟩
theorem keepF0 {rv : Nat → Value} {W0 W : World} {B N M o1 o2 o3 o4 : Nat} {d : Array Nat} {x1 x2 x3 x4 : Value} (h : W.cell? ⟨B, o1, none⟩ = some x1 ∧ W.cell? ⟨B, o2, none⟩ = some x2 ∧ W.cell? ⟨B, o3, none⟩ = some x3 ∧ W.cell? ⟨B, o4, none⟩ = some x4 ∧ RH rv W0 B N M d W) :
    W.drew.cell? ⟨B, o1, none⟩ = some x1 ∧ W.drew.cell? ⟨B, o2, none⟩ = some x2 ∧ W.drew.cell? ⟨B, o3, none⟩ = some x3 ∧ W.drew.cell? ⟨B, o4, none⟩ = some x4 ∧ RH rv W0 B N M d W.drew := ⟨h.1, h.2.1, h.2.2.1, h.2.2.2.1, h.2.2.2.2.drew⟩
theorem CmpH.at {rv : Nat → Value} {M : Nat} {lt : Nat → Nat → Bool} {W0 : World} {B b N o1 o2 o3 o4 x y : Nat} {d : Array Nat} {x1 x2 x3 x4 : Value} (h : CmpH rv M lt W0 B b) {W : World} (hT : W.cell? ⟨B, o1, none⟩ = some x1 ∧ W.cell? ⟨B, o2, none⟩ = some x2 ∧ W.cell? ⟨B, o3, none⟩ = some x3 ∧ W.cell? ⟨B, o4, none⟩ = some x4 ∧ RH rv W0 B N M d W) (hx : x < M) (hy : y < M) {u v : Value} {p q : Int} (hu : rv x = u) (hv : rv y = v) (hp : (x : Int) = p) (hq : (y : Int) = q) {r : Bool} (hr : lt x y = r) :
    Calls Tryz.prog 42 #[.pointer (some ⟨b, 0, none⟩), .agg #[u, .int .i64 p], .agg #[v, .int .i64 q]] W fun e w' => ∃ c : Int, e = .returned (.int .i64 c) ∧ (decide (c < 0) = r) ∧ Below W.heap.size W w' := by
  subst hu hv hp hq hr
  refine (h.call W x y hx hy hT.2.2.2.2.grown).mono fun e w' ⟨c, h1, h2, h3⟩ => ⟨c, h1, ?_, h3⟩
  cases hl : lt x y with
  | true => exact decide_eq_true (h2.2 hl)
  | false => exact decide_eq_false fun hc => by rw [h2.1 hc] at hl; cases hl

theorem ins_go (lt : Nat → Nat → Bool) (a b i : Nat) (d : Array Nat) (h : i < b) : insOuter lt a b i d = insOuter lt a b (i + 1) (insInner lt a i d) := by
  conv => lhs; unfold insOuter
  rw [if_pos h]
theorem ins_end (lt : Nat → Nat → Bool) (a b i : Nat) (d : Array Nat) (h : ¬ i < b) : insOuter lt a b i d = d := by
  unfold insOuter
  rw [if_neg h]
theorem inner_go (lt : Nat → Nat → Bool) (a j : Nat) (d : Array Nat) (h : a < j) (hl : lt d[j]! d[j - 1]! = true) : insInner lt a j d = insInner lt a (j - 1) (swp d j (j - 1)) := by
  obtain ⟨k, rfl⟩ : ∃ k, j = k + 1 := ⟨j - 1, by omega⟩
  simp only [Nat.add_sub_cancel] at hl ⊢
  conv => lhs; unfold insInner
  rw [if_pos (by simp [hl]; omega)]
theorem inner_stop (lt : Nat → Nat → Bool) (a j : Nat) (d : Array Nat) (h : ¬ a < j ∨ lt d[j]! d[j - 1]! = false) : insInner lt a j d = d := by
  cases j with
  | zero => rfl
  | succ k =>
    simp only [Nat.add_sub_cancel] at h
    unfold insInner
    rw [if_neg]
    intro hc
    simp only [Bool.and_eq_true, decide_eq_true_eq] at hc
    rcases h with h | h
    · omega
    · rw [h] at hc; cases hc.2

set_option maxHeartbeats 4000000 in
theorem insertion_is (rv : Nat → Value) (lt : Nat → Nat → Bool) (W0 : World) (B b N M c lo hi : Nat) (d0 : Array Nat) (W : World) (hC : CmpH rv M lt W0 B b) (hR : RH rv W0 B N M d0 W) (hab : lo ≤ hi) (hb : hi ≤ N) (hN : N ≤ 4194304) :
    Calls Tryz.prog 93 #[.slice (some ⟨B, 0, none⟩) N c, .int .i64 (lo : Int), .int .i64 (hi : Int), .func (.func 42) #[.pointer (some ⟨b, 0, none⟩)] #[]] W fun e W' => e = .returned (.tuple #[]) ∧ RH rv W0 B N M (insertionSort lt d0 lo hi) W' := by
  obtain ⟨R, hRR⟩ : ∃ R, insertionSort lt d0 lo hi = R := ⟨_, rfl⟩
  rw [hRR]
  replace hRR : Hid (insOuter lt lo hi (lo + 1) d0 = R) := Lib.hid hRR
  go_enter Tryz.func93, Tryz.ntmps93
  go_wp2
  go_loopw [8] (fun iv wr => ∃ (i : Nat) (g : Array Nat), iv = .int .i64 (i : Int) ∧ lo + 1 ≤ i ∧ (i ≤ hi ∨ i = lo + 1) ∧ RH rv W0 B N M g wr ∧ Hid (insOuter lt lo hi i g = R)) (fun iv _ => hi - (intOf iv).toNat)
  case atStart => exact ⟨lo + 1, d0, by go_num, by omega, .inr rfl, hR, hRR⟩
  case round =>
    obtain ⟨i, g, rfl, hi1, hib, hr, hM⟩ := hrel
    clear hRR hR
    by_cases hlt : i < hi
    · have hlB : decide ((i : Int) < (hi : Int)) = true := by simp; omega
      go_wp2
      go_loopw [9] (fun jv wq => ∃ (j : Nat) (g : Array Nat), jv = .int .i64 (j : Int) ∧ lo ≤ j ∧ j ≤ i ∧ RH rv W0 B N M g wq ∧ Hid (insOuter lt lo hi (i + 1) (insInner lt lo j g) = R)) (fun jv _ => (intOf jv).toNat)
      case atStart => exact ⟨i, g, by go_num, by omega, by omega, hr, Lib.hid (by rw [← ins_go lt lo hi i g hlt]; exact hM.out)⟩
      case round =>
        obtain ⟨j, g, rfl, haj, hji, hq, hQ⟩ := hrel
        clear hr hM
        by_cases hja : lo < j
        · have hG : decide ((j : Int) > (lo : Int)) = true := by simp; omega
          obtain ⟨a0, a1⟩ := hq.cell j (by omega)
          obtain ⟨b0, b1⟩ := hq.cell (j - 1) (by omega)
          have mx := hq.memb j (by omega)
          have my := hq.memb (j - 1) (by omega)
          obtain ⟨p0, n0, q0, h0⟩ := hq.sl g[j]!
          obtain ⟨p1, n1, q1, h1⟩ := hq.sl g[j - 1]!
          obtain ⟨x, hx⟩ : ∃ x, g[j]! = x := ⟨_, rfl⟩
          obtain ⟨y, hy⟩ : ∃ y, g[j - 1]! = y := ⟨_, rfl⟩
          obtain ⟨xi, hxi⟩ : ∃ z, (x : Int) = z := ⟨_, rfl⟩
          obtain ⟨yi, hyi⟩ : ∃ z, (y : Int) = z := ⟨_, rfl⟩
          rw [hx] at a0 a1 mx h0
          rw [hy] at b0 b1 my h1
          rw [h0] at a0
          rw [h1] at b0
          rw [hxi] at a1
          rw [hyi] at b1
          have i0 : (0 : Int) ≤ (j : Int) - 1 := by omega
          have i1 : (j : Int) - 1 < (N : Int) := by omega
          have i2 : (0 : Int) ≤ (j : Int) := by omega
          have i3 : (j : Int) < (N : Int) := by omega
          have i4 : (1 : Int) ≤ (j : Int) := by omega
          have i5 : 1 ≤ j := by omega
          have i6 : 0 < j := by omega
          have i7 : j - 1 < N := by omega
          have e0 : ((j : Int) - 1).toNat = j - 1 := by omega
          have w0 : IntKind.i64.wrap ((j : Int) - 1) = (j : Int) - 1 := IntWalk.i64_in _ (by omega)
          have w1 : wrap64 ((j : Int) - 1) = (j : Int) - 1 := by unfold wrap64; omega
          have H0 : wr.cell? ⟨B, j * 2, none⟩ = some (.slice p0 n0 q0) ∧ wr.cell? ⟨B, j * 2 + 1, none⟩ = some (.int .i64 xi) ∧ wr.cell? ⟨B, (j - 1) * 2, none⟩ = some (.slice p1 n1 q1) ∧ wr.cell? ⟨B, (j - 1) * 2 + 1, none⟩ = some (.int .i64 yi) ∧ RH rv W0 B N M g wr := ⟨a0, a1, b0, b1, hq⟩
          replace h0 := Lib.hid h0
          replace h1 := Lib.hid h1
          replace hx := Lib.hid hx
          replace hy := Lib.hid hy
          replace hxi := Lib.hid hxi
          replace hyi := Lib.hid hyi
          clear hq a0 a1 b0 b1
          cases hl : lt x y with
          | true =>
            replace hl := Lib.hid hl
            go_wp2_with fail
            go_region_held3 (fun W => W.cell? ⟨B, j * 2, none⟩ = some (.slice p0 n0 q0) ∧ W.cell? ⟨B, j * 2 + 1, none⟩ = some (.int .i64 xi) ∧ W.cell? ⟨B, (j - 1) * 2, none⟩ = some (.slice p1 n1 q1) ∧ W.cell? ⟨B, (j - 1) * 2 + 1, none⟩ = some (.int .i64 yi) ∧ RH rv W0 B N M g W) (first | assumption | exact keepF (by assumption) (by assumption) | exact keepF0 (by assumption)) (first
              | (go_at_call 42; refine (hC.at (by assumption) mx my h0.out h1.out hxi.out hyi.out hl.out).mono ?_; rintro e w3 ⟨cc, rfl, hd, hb3⟩))
            rename_i hh
            obtain ⟨k0, k1, k2, k3, hq2⟩ := hh
            have f0 := hq2.free (j * 2)
            have f1 := hq2.free (j * 2 + 1)
            have f2 := hq2.free ((j - 1) * 2)
            have f3 := hq2.free ((j - 1) * 2 + 1)
            have hsw := hq2.drew.swap (i := j) (j := j - 1) (by omega) (by omega)
            rw [hx.out, hy.out, h0.out, h1.out, hxi.out, hyi.out] at hsw
            have jj : ((j - 1 : Nat) : Int) = (j : Int) - 1 := by omega
            replace hsw := Lib.hid hsw
            replace jj := Lib.hid jj
            have hfin : insOuter lt lo hi (i + 1) (insInner lt lo (j - 1) (swp g j (j - 1))) = R := by
              rw [← inner_go lt lo j g hja (by rw [hx.out, hy.out]; exact hl.out)]; exact hQ.out
            replace hfin := Lib.hid hfin
            clear hq2
            go_wp2
            go_region
            go_wp2
            go_roundw
            case rel => exact ⟨j - 1, _, by rw [jj.out], by omega, by omega, hsw.out, hfin⟩
            case measure => simp [intOf]; omega
          | false =>
            have hfin : insOuter lt lo hi (i + 1) g = R := by
              rw [← hQ.out, inner_stop lt lo j g (.inr (by rw [hx.out, hy.out]; exact hl))]
            replace hfin := Lib.hid hfin
            replace hl := Lib.hid hl
            go_wp2_with fail
            go_region_held3 (fun W => W.cell? ⟨B, j * 2, none⟩ = some (.slice p0 n0 q0) ∧ W.cell? ⟨B, j * 2 + 1, none⟩ = some (.int .i64 xi) ∧ W.cell? ⟨B, (j - 1) * 2, none⟩ = some (.slice p1 n1 q1) ∧ W.cell? ⟨B, (j - 1) * 2 + 1, none⟩ = some (.int .i64 yi) ∧ RH rv W0 B N M g W) (first | assumption | exact keepF (by assumption) (by assumption) | exact keepF0 (by assumption)) (first
              | (go_at_call 42; refine (hC.at (by assumption) mx my h0.out h1.out hxi.out hyi.out hl.out).mono ?_; rintro e w3 ⟨cc, rfl, hd, hb3⟩))
            rename_i hh
            go_wp2
            go_roundw
            case rel => exact ⟨i + 1, _, by go_num, by omega, by omega, hh.2.2.2.2, hfin⟩
            case measure => simp [intOf]; omega
        · have hG : decide ((j : Int) > (lo : Int)) = false := by simp; omega
          have hfin : insOuter lt lo hi (i + 1) g = R := by
            rw [← hQ.out, inner_stop lt lo j g (.inl hja)]
          replace hfin := Lib.hid hfin
          go_wp2_with fail
          go_quiet (fail)
          go_wp2
          go_roundw
          case rel => exact ⟨i + 1, _, by go_num, by omega, by omega, hq.below (below_drewN (Below.refl _ _) _), hfin⟩
          case measure => simp [intOf]; omega
    · have hlB : decide ((i : Int) < (hi : Int)) = false := by simp; omega
      have hfin : g = R := by rw [← hM.out, ins_end lt lo hi i g hlt]
      subst hfin
      go_wp2
      go_end0
      exact ⟨rfl, hr⟩
end Go.Proofs.YtdapnemcdgjeeaaGreatDoor.Pdq

namespace Go.Proofs.YtdapnemcdgjeeaaGreatDoor.Pdq
open Go.RowKit
open Go.Sort (swp)

/-- the counter of exchanges: a cell in a block that is new -/
structure Cnt (W0 W : World) (B s : Nat) : Prop where
  cell : ∃ z : Int, W.cell? ⟨s, 0, none⟩ = some (.int .i64 z)
  free : W.frozen? ⟨s, 0, none⟩ = false
  new : W0.heap.size ≤ s
  lt : s < W.heap.size
  ne : s ≠ B
theorem Cnt.below {W0 W W' : World} {B s : Nat} (h : Cnt W0 W B s) (hb : Below W.heap.size W W') : Cnt W0 W' B s := by
  obtain ⟨⟨z, hz⟩, h2, h3, h4, h5⟩ := h
  exact ⟨⟨z, (hb.cell (p := ⟨s, 0, none⟩) h4).trans hz⟩, (hb.frozen (p := ⟨s, 0, none⟩) h4).trans h2, h3, Nat.lt_of_lt_of_le h4 hb.size, h5⟩
theorem Cnt.set {W0 W : World} {B s : Nat} (h : Cnt W0 W B s) (z : Int) : Cnt W0 (W.setCell ⟨s, 0, none⟩ (.int .i64 z)) B s := by
  obtain ⟨⟨z0, hz⟩, h2, h3, h4, h5⟩ := h
  exact ⟨⟨z, World.cell?_setCell_same _ _ _ hz⟩, by rw [World.frozen?_setCell]; exact h2, h3, Nat.lt_of_lt_of_le h4 ((Below.refl 0 W).setCell (p := ⟨s, 0, none⟩) (Nat.zero_le _) (.int .i64 z)).size, h5⟩
theorem RH.setNew {rv : Nat → Value} {W0 W : World} {B N M s : Nat} {d : Array Nat} (h : RH rv W0 B N M d W) (hs : W0.heap.size ≤ s) (hne : s ≠ B) (v : Value) : RH rv W0 B N M d (W.setCell ⟨s, 0, none⟩ v) := by
  have hb := (Below.refl W0.heap.size W).setCell (p := ⟨s, 0, none⟩) hs v
  refine ⟨h.size, fun k hk => ?_, fun k => by rw [World.frozen?_setCell]; exact h.free k, h.memb, ?_, h.blk, h.sl⟩
  · rw [World.cell?_setCell_other _ _ _ _ (fun e => by injection e with e1 _; exact hne e1), World.cell?_setCell_other _ _ _ _ (fun e => by injection e with e1 _; exact hne e1)]
    exact h.cell k hk
  · exact ⟨by first | exact hb.os.trans h.grown.os | exact h.grown.os.trans hb.os, by first | exact hb.tape.trans h.grown.tape | exact h.grown.tape.trans hb.tape, by first | exact hb.output.trans h.grown.output | exact h.grown.output.trans hb.output, Nat.le_trans h.grown.size hb.size, fun i hi hn => by first | exact (Below.heap_setCell W _ v i (fun e => by simp at e; omega)).trans (h.grown.block i hi hn) | exact (Below.heap_setCell W _ v i (by simp; omega)).trans (h.grown.block i hi hn)⟩
theorem keepC {rv : Nat → Value} {W0 W W' : World} {B N M s o1 o2 o3 o4 : Nat} {d : Array Nat} {x1 x2 x3 x4 : Value} (h : W.cell? ⟨B, o1, none⟩ = some x1 ∧ W.cell? ⟨B, o2, none⟩ = some x2 ∧ W.cell? ⟨B, o3, none⟩ = some x3 ∧ W.cell? ⟨B, o4, none⟩ = some x4 ∧ RH rv W0 B N M d W ∧ Cnt W0 W B s) (hb : Below W.heap.size W W') :
    W'.cell? ⟨B, o1, none⟩ = some x1 ∧ W'.cell? ⟨B, o2, none⟩ = some x2 ∧ W'.cell? ⟨B, o3, none⟩ = some x3 ∧ W'.cell? ⟨B, o4, none⟩ = some x4 ∧ RH rv W0 B N M d W' ∧ Cnt W0 W' B s := by
  obtain ⟨h1, h2, h3, h4, h5, h6⟩ := h
  exact ⟨(hb.cell (p := ⟨B, o1, none⟩) h5.lt).trans h1, (hb.cell (p := ⟨B, o2, none⟩) h5.lt).trans h2, (hb.cell (p := ⟨B, o3, none⟩) h5.lt).trans h3, (hb.cell (p := ⟨B, o4, none⟩) h5.lt).trans h4, h5.below hb, h6.below hb⟩
theorem CmpH.atC {rv : Nat → Value} {M : Nat} {lt : Nat → Nat → Bool} {W0 : World} {B b N s o1 o2 o3 o4 x y : Nat} {d : Array Nat} {x1 x2 x3 x4 : Value} (h : CmpH rv M lt W0 B b) {W : World} (hT : W.cell? ⟨B, o1, none⟩ = some x1 ∧ W.cell? ⟨B, o2, none⟩ = some x2 ∧ W.cell? ⟨B, o3, none⟩ = some x3 ∧ W.cell? ⟨B, o4, none⟩ = some x4 ∧ RH rv W0 B N M d W ∧ Cnt W0 W B s) (hx : x < M) (hy : y < M) {u v : Value} {p q : Int} (hu : rv x = u) (hv : rv y = v) (hp : (x : Int) = p) (hq : (y : Int) = q) {r : Bool} (hr : lt x y = r) :
    Calls Tryz.prog 42 #[.pointer (some ⟨b, 0, none⟩), .agg #[u, .int .i64 p], .agg #[v, .int .i64 q]] W fun e w' => ∃ c : Int, e = .returned (.int .i64 c) ∧ (decide (c < 0) = r) ∧ Below W.heap.size W w' :=
  h.at ⟨hT.1, hT.2.1, hT.2.2.1, hT.2.2.2.1, hT.2.2.2.2.1⟩ hx hy hu hv hp hq hr
set_option maxHeartbeats 4000000 in
theorem order2_is (rv : Nat → Value) (lt : Nat → Nat → Bool) (W0 : World) (B b N M c : Nat) (d0 : Array Nat) (W : World) (i j s : Nat) (hC : CmpH rv M lt W0 B b) (hR : RH rv W0 B N M d0 W) (hi : i < N) (hj : j < N) (hN : N ≤ 4194304) (hs : Cnt W0 W B s) :
    Calls Tryz.prog 145 #[.slice (some ⟨B, 0, none⟩) N c, .int .i64 (i : Int), .int .i64 (j : Int), .pointer (some ⟨s, 0, none⟩), .func (.func 42) #[.pointer (some ⟨b, 0, none⟩)] #[]] W fun e W' => (∃ i' j' : Nat, e = .returned (.tuple #[.int .i64 (i' : Int), .int .i64 (j' : Int)]) ∧ ((i' = i ∧ j' = j) ∨ (i' = j ∧ j' = i))) ∧ RH rv W0 B N M d0 W' ∧ Cnt W0 W' B s := by
  obtain ⟨a0, a1⟩ := hR.cell (j) (by omega)
  obtain ⟨b0, b1⟩ := hR.cell (i) (by omega)
  have mx := hR.memb (j) (by omega)
  have my := hR.memb (i) (by omega)
  obtain ⟨p0, n0, q0, h0⟩ := hR.sl d0[j]!
  obtain ⟨p1, n1, q1, h1⟩ := hR.sl d0[i]!
  obtain ⟨x, hx⟩ : ∃ x, d0[j]! = x := ⟨_, rfl⟩
  obtain ⟨y, hy⟩ : ∃ y, d0[i]! = y := ⟨_, rfl⟩
  obtain ⟨xi, hxi⟩ : ∃ z, (x : Int) = z := ⟨_, rfl⟩
  obtain ⟨yi, hyi⟩ : ∃ z, (y : Int) = z := ⟨_, rfl⟩
  rw [hx] at a0 a1 mx h0
  rw [hy] at b0 b1 my h1
  rw [h0] at a0
  rw [h1] at b0
  rw [hxi] at a1
  rw [hyi] at b1
  replace h0 := Lib.hid h0
  replace h1 := Lib.hid h1
  replace hx := Lib.hid hx
  replace hy := Lib.hid hy
  replace hxi := Lib.hid hxi
  replace hyi := Lib.hid hyi
  have i0 : (0 : Int) ≤ (i : Int) := by omega
  have l0 : (i : Int) < (N : Int) := by omega
  have e0 : ((i : Int)).toNat = i := by omega
  have i1 : (0 : Int) ≤ (j : Int) := by omega
  have l1 : (j : Int) < (N : Int) := by omega
  have e1 : ((j : Int)).toNat = j := by omega

  obtain ⟨wr, hwr⟩ : ∃ w, w = W := ⟨_, rfl⟩
  have H0 : W.cell? ⟨B, (j) * 2, none⟩ = some (.slice p0 n0 q0) ∧ W.cell? ⟨B, (j) * 2 + 1, none⟩ = some (.int .i64 xi) ∧ W.cell? ⟨B, (i) * 2, none⟩ = some (.slice p1 n1 q1) ∧ W.cell? ⟨B, (i) * 2 + 1, none⟩ = some (.int .i64 yi) ∧ RH rv W0 B N M d0 W ∧ Cnt W0 W B s := ⟨a0, a1, b0, b1, hR, hs⟩
  clear hR a0 a1 b0 b1
  cases hl : lt x y with
  | true =>
    replace hl := Lib.hid hl
    go_enter Tryz.func145, Tryz.ntmps145
    go_wp2_with fail
    go_region_held3 (fun W => W.cell? ⟨B, (j) * 2, none⟩ = some (.slice p0 n0 q0) ∧ W.cell? ⟨B, (j) * 2 + 1, none⟩ = some (.int .i64 xi) ∧ W.cell? ⟨B, (i) * 2, none⟩ = some (.slice p1 n1 q1) ∧ W.cell? ⟨B, (i) * 2 + 1, none⟩ = some (.int .i64 yi) ∧ RH rv W0 B N M d0 W ∧ Cnt W0 W B s) (first | assumption | exact keepC (by assumption) (by assumption) | exact keepC (by assumption) (Below.refl _ _).drew) (first
      | (go_at_call 42; refine (hC.atC (by assumption) mx my h0.out h1.out hxi.out hyi.out hl.out).mono ?_; rintro e w3 ⟨cc, rfl, hd, hb3⟩))
    rename_i hh
    obtain ⟨k0, k1, k2, k3, hq2, hs2⟩ := hh
    obtain ⟨z, hz⟩ := hs2.cell
    have fz := hs2.free
    have hn := hs2.new
    have hne := hs2.ne
    go_wp2
    refine bodyPost_ret (v := .tuple #[.int .i64 (j : Int), .int .i64 (i : Int)]) (by simp only [results, Tryz.results145]; go_simp) rfl ?_
    exact ⟨⟨j, i, rfl, .inr ⟨rfl, rfl⟩⟩, hq2.setNew hn hne _, hs2.set _⟩
  | false =>
    replace hl := Lib.hid hl
    go_enter Tryz.func145, Tryz.ntmps145
    go_wp2_with fail
    go_region_held3 (fun W => W.cell? ⟨B, (j) * 2, none⟩ = some (.slice p0 n0 q0) ∧ W.cell? ⟨B, (j) * 2 + 1, none⟩ = some (.int .i64 xi) ∧ W.cell? ⟨B, (i) * 2, none⟩ = some (.slice p1 n1 q1) ∧ W.cell? ⟨B, (i) * 2 + 1, none⟩ = some (.int .i64 yi) ∧ RH rv W0 B N M d0 W ∧ Cnt W0 W B s) (first | assumption | exact keepC (by assumption) (by assumption) | exact keepC (by assumption) (Below.refl _ _).drew) (first
      | (go_at_call 42; refine (hC.atC (by assumption) mx my h0.out h1.out hxi.out hyi.out hl.out).mono ?_; rintro e w3 ⟨cc, rfl, hd, hb3⟩))
    rename_i hh
    obtain ⟨k0, k1, k2, k3, hq2, hs2⟩ := hh
    go_wp2
    refine bodyPost_ret (v := .tuple #[.int .i64 (i : Int), .int .i64 (j : Int)]) (by simp only [results, Tryz.results145]; go_simp) rfl ?_
    exact ⟨⟨i, j, rfl, .inl ⟨rfl, rfl⟩⟩, hq2, hs2⟩

set_option maxHeartbeats 4000000 in
theorem median_is (rv : Nat → Value) (lt : Nat → Nat → Bool) (W0 : World) (B b N M c : Nat) (d0 : Array Nat) (W : World) (P1 P2 P3 s : Nat) (hC : CmpH rv M lt W0 B b) (hR : RH rv W0 B N M d0 W) (h1 : P1 < N) (h2 : P2 < N) (h3 : P3 < N) (hN : N ≤ 4194304) (hs : Cnt W0 W B s) :
    Calls Tryz.prog 124 #[.slice (some ⟨B, 0, none⟩) N c, .int .i64 (P1 : Int), .int .i64 (P2 : Int), .int .i64 (P3 : Int), .pointer (some ⟨s, 0, none⟩), .func (.func 42) #[.pointer (some ⟨b, 0, none⟩)] #[]] W fun e W' => (∃ q : Nat, e = .returned (.int .i64 (q : Int)) ∧ (q = P1 ∨ q = P2 ∨ q = P3)) ∧ RH rv W0 B N M d0 W' ∧ Cnt W0 W' B s := by
  have hc := fun (W : World) (i j : Nat) (hi : i < N) (hj : j < N) (h : RH rv W0 B N M d0 W ∧ Cnt W0 W B s) => order2_is rv lt W0 B b N M c d0 W i j s hC h.1 hi hj hN h.2
  go_enter Tryz.func124, Tryz.ntmps124
  go_upto_region 2 with (go_at_call 145; refine (hc _ P1 P2 h1 h2 ⟨hR, hs⟩).mono ?_; rintro e w1 ⟨⟨a1, b1, rfl, hab1⟩, hq1⟩)
  have ha1 : a1 < N := by omega
  have hb1 : b1 < N := by omega
  go_upto_region 3 with (go_at_call 145; refine (hc _ b1 P3 hb1 h3 hq1).mono ?_; rintro e w2 ⟨⟨a2, b2, rfl, hab2⟩, hq2⟩)
  have ha2 : a2 < N := by omega
  go_wp2_with (go_at_call 145; refine (hc _ a1 a2 ha1 ha2 hq2).mono ?_; rintro e w3 ⟨⟨a3, b3, rfl, hab3⟩, hq3⟩)
  go_ret
  exact ⟨⟨b3, rfl, by omega⟩, hq3⟩

set_option maxHeartbeats 4000000 in
theorem adjacent_is (rv : Nat → Value) (lt : Nat → Nat → Bool) (W0 : World) (B b N M c : Nat) (d0 : Array Nat) (W : World) (P1 s : Nat) (hC : CmpH rv M lt W0 B b) (hR : RH rv W0 B N M d0 W) (h1 : 0 < P1) (h2 : P1 + 1 < N) (hN : N ≤ 4194304) (hs : Cnt W0 W B s) :
    Calls Tryz.prog 123 #[.slice (some ⟨B, 0, none⟩) N c, .int .i64 (P1 : Int), .pointer (some ⟨s, 0, none⟩), .func (.func 42) #[.pointer (some ⟨b, 0, none⟩)] #[]] W fun e W' => (∃ q : Nat, e = .returned (.int .i64 (q : Int)) ∧ (q = P1 - 1 ∨ q = P1 ∨ q = P1 + 1)) ∧ RH rv W0 B N M d0 W' ∧ Cnt W0 W' B s := by
  obtain ⟨k, rfl⟩ : ∃ k, P1 = k + 1 := ⟨P1 - 1, by omega⟩
  have hc := median_is rv lt W0 B b N M c d0 W (k + 1 - 1) (k + 1) (k + 1 + 1) s hC hR (by omega) (by omega) h2 hN hs
  have e1 : ((k + 1 - 1 : Nat) : Int) = ((k + 1 : Nat) : Int) - 1 := by omega
  have e2 : ((k + 1 + 1 : Nat) : Int) = ((k + 1 : Nat) : Int) + 1 := by omega
  rw [e1, e2] at hc
  generalize hP : k + 1 = P at hc ⊢ h1 h2
  replace hP := Lib.hid hP
  go_enter Tryz.func123, Tryz.ntmps123
  go_wp2_with (go_at_call 124; refine hc.mono ?_; rintro e w3 ⟨⟨q, rfl, hq⟩, hq3⟩)
  go_ret
  exact ⟨⟨q, rfl, by omega⟩, hq3⟩

end Go.Proofs.YtdapnemcdgjeeaaGreatDoor.Pdq

namespace Go.Proofs.YtdapnemcdgjeeaaGreatDoor.Pdq
open Go.RowKit
open Go.Sort (swp)

theorem Cnt.fresh {W0 W : World} {B : Nat} (T : TypeId) (hW : W0.heap.size ≤ W.heap.size) (hB : B < W.heap.size) : Cnt W0 (W.alloc (.cells #[.int .i64 0] T)) B W.heap.size := by
  have h := heap_new W (.cells #[.int .i64 0] T)
  exact ⟨⟨0, by unfold World.cell?; rw [h]; rfl⟩, by unfold World.frozen?; rw [h]; rfl, hW, by simp, fun e => by omega⟩
set_option maxHeartbeats 4000000 in
theorem pivot_is (rv : Nat → Value) (lt : Nat → Nat → Bool) (W0 : World) (B b N M c : Nat) (d0 : Array Nat) (W : World) (lo hi : Nat) (hC : CmpH rv M lt W0 B b) (hR : RH rv W0 B N M d0 W) (hab : lo + 8 ≤ hi) (hb : hi ≤ N) (hN : N ≤ 4194304) (hBW : B < W.heap.size) (hW : W0.heap.size ≤ W.heap.size) :
    Calls Tryz.prog 96 #[.slice (some ⟨B, 0, none⟩) N c, .int .i64 (lo : Int), .int .i64 (hi : Int), .func (.func 42) #[.pointer (some ⟨b, 0, none⟩)] #[]] W fun e W' => (∃ (q : Nat) (h : Int), e = .returned (.tuple #[.int .i64 (q : Int), .int .i64 h]) ∧ lo ≤ q ∧ q < hi ∧ (h = 0 ∨ h = 1 ∨ h = 2)) ∧ RH rv W0 B N M d0 W' := by
  obtain ⟨L, hL⟩ : ∃ L, L = hi - lo := ⟨_, rfl⟩
  have hL1 : (hi : Int) - (lo : Int) = (L : Int) := by omega
  obtain ⟨K, hK⟩ : ∃ K, K = L / 4 := ⟨_, rfl⟩
  have hK1 : (L : Int) / 4 = (K : Int) := by omega
  have hK2 : 4 * K ≤ L := by omega
  have hK3 : L < 4 * K + 4 := by omega
  have hL2 : lo + L = hi := by omega
  replace hL2 := Lib.hid hL2
  have hL3 : lo + L ≤ hi := by omega
  have hL4 : hi ≤ lo + L := by omega
  clear hL hK
  obtain ⟨i, hi1⟩ : ∃ i, i = lo + K := ⟨_, rfl⟩
  obtain ⟨j, hj1⟩ : ∃ j, j = lo + K * 2 := ⟨_, rfl⟩
  obtain ⟨k, hk1⟩ : ∃ k, k = lo + K * 3 := ⟨_, rfl⟩
  have qi : Hid ((lo : Int) + (K : Int) = (i : Int)) := Lib.hid (by omega)
  have qj : Hid ((lo : Int) + (K : Int) * 2 = (j : Int)) := Lib.hid (by omega)
  have qk : Hid ((lo : Int) + (K : Int) * 3 = (k : Int)) := Lib.hid (by omega)
  have bi : lo + 2 ≤ i ∧ i + 2 ≤ hi := by omega
  have bj : lo + 2 ≤ j ∧ j + 2 ≤ hi := by omega
  have bk : lo + 2 ≤ k ∧ k + 2 ≤ hi := by omega
  clear hi1 hj1 hk1
  have g8 : decide ((L : Int) ≥ 8) = true := by simp; omega
  go_enter Tryz.func96, Tryz.ntmps96
  go_upto_region 3 with fail
  have hs := Cnt.fresh (W := W) 3 hW hBW
  have hR1 := hR.below ((Below.refl W.heap.size W).alloc (Nat.le_refl _) (.cells #[.int .i64 0] 3))
  generalize hgs : W.heap.size = s at hs hR1 ⊢
  generalize hgW : W.alloc (.cells #[.int .i64 0] 3) = W1 at hs hR1 ⊢
  clear hgs hgW hR
  have ha := fun (W : World) (i : Nat) (h1 : 0 < i) (h2 : i + 1 < N) (h : RH rv W0 B N M d0 W ∧ Cnt W0 W B s) => adjacent_is rv lt W0 B b N M c d0 W i s hC h.1 h1 h2 hN h.2
  have hm := fun (W : World) (i j k : Nat) (hi : i < N) (hj : j < N) (hk : k < N) (h : RH rv W0 B N M d0 W ∧ Cnt W0 W B s) => median_is rv lt W0 B b N M c d0 W i j k s hC h.1 hi hj hk hN h.2
  have ha1 := fun (W : World) (h : RH rv W0 B N M d0 W ∧ Cnt W0 W B s) => ha W i (by omega) (by omega) h
  have ha2 := fun (W : World) (h : RH rv W0 B N M d0 W ∧ Cnt W0 W B s) => ha W j (by omega) (by omega) h
  have ha3 := fun (W : World) (h : RH rv W0 B N M d0 W ∧ Cnt W0 W B s) => ha W k (by omega) (by omega) h
  have hm1 := fun (W : World) (h : RH rv W0 B N M d0 W ∧ Cnt W0 W B s) => hm W i j k (by omega) (by omega) (by omega) h
  simp only [← qi.out] at ha1
  simp only [← qj.out] at ha2
  simp only [← qk.out] at ha3
  simp only [← qi.out, ← qj.out, ← qk.out] at hm1
  by_cases h50 : 50 ≤ L
  · have g50 : decide ((L : Int) ≥ 50) = true := by simp; omega
    go_upto_region 9 with (go_at_call 123; refine (ha1 _ ⟨hR1, hs⟩).mono ?_; rintro e w1 ⟨⟨i2, rfl, hi2⟩, hq1⟩)
    go_upto_region 10 with (go_at_call 123; refine (ha2 _ hq1).mono ?_; rintro e w2 ⟨⟨j2, rfl, hj2⟩, hq2⟩)
    go_upto_region 11 with (go_at_call 123; refine (ha3 _ hq2).mono ?_; rintro e w3 ⟨⟨k2, rfl, hk2⟩, hq3⟩)
    go_wp2_with (go_at_call 124; refine (hm _ i2 j2 k2 (by omega) (by omega) (by omega) hq3).mono ?_; rintro e w4 ⟨⟨q, rfl, hq⟩, hq4⟩; obtain ⟨z, hz⟩ := hq4.2.cell)
    all_goals (have hql : lo ≤ q ∧ q < hi := by omega)
    all_goals (first
      | (refine bodyPost_ret (v := .tuple #[.int .i64 (q : Int), .int .i64 1]) ?_ rfl ?_; rotate_left; exact ⟨⟨q, 1, rfl, by omega, by omega, by omega⟩, hq4.1⟩; simp only [results, Tryz.results96]; go_simp; done)
      | (refine bodyPost_ret (v := .tuple #[.int .i64 (q : Int), .int .i64 2]) ?_ rfl ?_; rotate_left; exact ⟨⟨q, 2, rfl, by omega, by omega, by omega⟩, hq4.1⟩; simp only [results, Tryz.results96]; go_simp; done)
      | (refine bodyPost_ret (v := .tuple #[.int .i64 (q : Int), .int .i64 0]) ?_ rfl ?_; rotate_left; exact ⟨⟨q, 0, rfl, by omega, by omega, by omega⟩, hq4.1⟩; simp only [results, Tryz.results96]; go_simp; done))
  · have g50 : decide ((L : Int) ≥ 50) = false := by simp; omega
    go_wp2_with (go_at_call 124; refine (hm1 _ ⟨hR1, hs⟩).mono ?_; rintro e w4 ⟨⟨q, rfl, hq⟩, hq4⟩; obtain ⟨z, hz⟩ := hq4.2.cell)
    all_goals (have hql : lo ≤ q ∧ q < hi := by omega)
    all_goals (first
      | (refine bodyPost_ret (v := .tuple #[.int .i64 (q : Int), .int .i64 1]) ?_ rfl ?_; rotate_left; exact ⟨⟨q, 1, rfl, by omega, by omega, by omega⟩, hq4.1⟩; simp only [results, Tryz.results96]; go_simp; done)
      | (refine bodyPost_ret (v := .tuple #[.int .i64 (q : Int), .int .i64 2]) ?_ rfl ?_; rotate_left; exact ⟨⟨q, 2, rfl, by omega, by omega, by omega⟩, hq4.1⟩; simp only [results, Tryz.results96]; go_simp; done)
      | (refine bodyPost_ret (v := .tuple #[.int .i64 (q : Int), .int .i64 0]) ?_ rfl ?_; rotate_left; exact ⟨⟨q, 0, rfl, by omega, by omega, by omega⟩, hq4.1⟩; simp only [results, Tryz.results96]; go_simp; done))

end Go.Proofs.YtdapnemcdgjeeaaGreatDoor.Pdq

namespace Go.Proofs.YtdapnemcdgjeeaaGreatDoor.Pdq
open Go.RowKit
open Go.Sort (swp reverseLoop reverseRange)

theorem rev_go (i j : Nat) (d : Array Nat) (h : i < j) : reverseLoop i j d = reverseLoop (i + 1) (j - 1) (swp d i j) := by
  conv => lhs; unfold reverseLoop
  rw [if_pos h]
theorem rev_end (i j : Nat) (d : Array Nat) (h : ¬ i < j) : reverseLoop i j d = d := by
  unfold reverseLoop
  rw [if_neg h]
set_option maxHeartbeats 2000000 in
theorem reverse_is (rv : Nat → Value) (W0 : World) (B b N M c lo hi : Nat) (d0 : Array Nat) (W : World) (hR : RH rv W0 B N M d0 W) (hab : lo < hi) (hb : hi ≤ N) (hN : N ≤ 4194304) :
    Calls Tryz.prog 97 #[.slice (some ⟨B, 0, none⟩) N c, .int .i64 (lo : Int), .int .i64 (hi : Int), .func (.func 42) #[.pointer (some ⟨b, 0, none⟩)] #[]] W fun e W' => e = .returned (.tuple #[]) ∧ RH rv W0 B N M (reverseRange d0 lo hi) W' := by
  obtain ⟨R, hRR⟩ : ∃ R, reverseRange d0 lo hi = R := ⟨_, rfl⟩
  rw [hRR]
  replace hRR : Hid (reverseLoop lo (hi - 1) d0 = R) := Lib.hid hRR
  have jj : ((hi - 1 : Nat) : Int) = (hi : Int) - 1 := by omega
  replace jj := Lib.hid jj
  go_enter Tryz.func97, Tryz.ntmps97
  go_wp2
  go_loopw [8, 9] (fun iv jv wr => ∃ (i j : Nat) (g : Array Nat), iv = .int .i64 (i : Int) ∧ jv = .int .i64 (j : Int) ∧ lo ≤ i ∧ i ≤ j + 1 ∧ j < hi ∧ RH rv W0 B N M g wr ∧ Hid (reverseLoop i j g = R)) (fun iv jv _ => (intOf jv).toNat - (intOf iv).toNat)
  case atStart => exact ⟨lo, hi - 1, d0, rfl, by rw [jj.out], by omega, by omega, by omega, hR, hRR⟩
  case round =>
    obtain ⟨i, j, g, rfl, rfl, hi1, hij, hjh, hq, hQ⟩ := hrel
    clear hRR hR jj
    by_cases hlt : i < j
    · have hlB : decide ((i : Int) < (j : Int)) = true := by simp; omega
      obtain ⟨a0, a1⟩ := hq.cell (i) (by omega)
      obtain ⟨b0, b1⟩ := hq.cell (j) (by omega)
      have mx := hq.memb (i) (by omega)
      have my := hq.memb (j) (by omega)
      obtain ⟨p0, n0, q0, h0⟩ := hq.sl g[i]!
      obtain ⟨p1, n1, q1, h1⟩ := hq.sl g[j]!
      obtain ⟨x, hx⟩ : ∃ x, g[i]! = x := ⟨_, rfl⟩
      obtain ⟨y, hy⟩ : ∃ y, g[j]! = y := ⟨_, rfl⟩
      obtain ⟨xi, hxi⟩ : ∃ z, (x : Int) = z := ⟨_, rfl⟩
      obtain ⟨yi, hyi⟩ : ∃ z, (y : Int) = z := ⟨_, rfl⟩
      rw [hx] at a0 a1 mx h0
      rw [hy] at b0 b1 my h1
      rw [h0] at a0
      rw [h1] at b0
      rw [hxi] at a1
      rw [hyi] at b1
      replace h0 := Lib.hid h0
      replace h1 := Lib.hid h1
      replace hx := Lib.hid hx
      replace hy := Lib.hid hy
      replace hxi := Lib.hid hxi
      replace hyi := Lib.hid hyi
      have i0 : (0 : Int) ≤ (i : Int) := by omega
      have l0 : (i : Int) < (N : Int) := by omega
      have e0 : ((i : Int)).toNat = i := by omega
      have i1 : (0 : Int) ≤ (j : Int) := by omega
      have l1 : (j : Int) < (N : Int) := by omega
      have e1 : ((j : Int)).toNat = j := by omega
      have f0 := hq.free ((i) * 2)
      have f1 := hq.free ((i) * 2 + 1)
      have f2 := hq.free ((j) * 2)
      have f3 := hq.free ((j) * 2 + 1)
      have hsw := hq.drew.swap (i := i) (j := j) (by omega) (by omega)
      rw [hx.out, hy.out, h0.out, h1.out, hxi.out, hyi.out] at hsw
      replace hsw := Lib.hid hsw
      have hfin : reverseLoop (i + 1) (j - 1) (swp g i j) = R := by rw [← rev_go i j g hlt]; exact hQ.out
      replace hfin := Lib.hid hfin
      have jj : ((j - 1 : Nat) : Int) = (j : Int) - 1 := by omega
      replace jj := Lib.hid jj
      clear hq
      go_wp2_with fail
      go_region
      go_wp2
      go_roundw
      case rel => exact ⟨i + 1, j - 1, _, by go_num, by rw [jj.out], by omega, by omega, by omega, hsw.out, hfin⟩
      case measure => simp [intOf]; omega
    · have hlB : decide ((i : Int) < (j : Int)) = false := by simp; omega
      have hfin : g = R := by rw [← hQ.out, rev_end i j g hlt]
      subst hfin
      go_wp2
      go_end0
      exact ⟨rfl, hq⟩

end Go.Proofs.YtdapnemcdgjeeaaGreatDoor.Pdq

