/- Walks: find, Has (package funcs). -/
import Derived.Test.YtmkgalcojoeniaaGreatDoorFn1
set_option maxRecDepth 100000
set_option linter.unusedVariables false
set_option linter.unusedSimpArgs false
namespace Go.Proofs.YtmkgalcojoeniaaGreatDoor
open Go.RowKit
attribute [local go_sem] run_store_fn run_store_nofn

/-- the first place, from k on, of n places, where p holds; -1: there is none -/
def firstFrom (p : Nat → Bool) : Nat → Nat → Int
  | 0, _ => -1
  | n + 1, k => if p k then (k : Int) else firstFrom p n (k + 1)
theorem firstFrom_yes {p : Nat → Bool} {n k : Nat} (h : p k = true) : firstFrom p (n + 1) k = (k : Int) := by simp [firstFrom, h]
theorem firstFrom_no {p : Nat → Bool} {n k : Nat} (h : p k = false) : firstFrom p (n + 1) k = firstFrom p n (k + 1) := by simp [firstFrom, h]
/-- is row k the function of this name with so many arguments? -/
def fits (nm : List UInt8) (n : Int) (k : Nat) : Bool :=
  (Val.texts (fname k).data.toList nm 1 == 0) && decide (fleasts.getD k 0 ≤ n) && (decide (fmosts.getD k 0 < 0) || decide (n ≤ fmosts.getD k 0))
def findAt (nm : List UInt8) (n : Int) : Int := firstFrom (fits nm n) 20 0
theorem fname_small (k : Nat) (hk : k < 20) : (fname k).size ≤ 1048576 := by
  have h : ∀ k, k < 20 → (fname k).size ≤ 8 := twenty (by decide) (by decide) (by decide) (by decide) (by decide) (by decide) (by decide) (by decide) (by decide) (by decide) (by decide) (by decide) (by decide) (by decide) (by decide) (by decide) (by decide) (by decide) (by decide) (by decide)
  have := h k hk
  omega

set_option maxHeartbeats 1000000 in
theorem find1_any (fn nm : ByteArray) (lo hi n : Int) (nu : Bool) (v : Value) (Bn Bm : Nat) (W : World) (hfn : fn.size ≤ 1048576) (hnm : nm.size ≤ 1048576) (h1 : Boxed W Bn 9 (.string nm)) (h2 : Boxed W Bm 3 (.int .i64 n)) (q r : Bool) (hq : Hid ((Val.texts fn.data.toList nm.data.toList 1 == 0) = q)) (hr : Hid ((q && decide (lo ≤ n) && (decide (hi < 0) || decide (n ≤ hi))) = r)) :
    Calls Tryz.prog 54 #[.agg #[.string fn, .int .i64 lo, .int .i64 hi, .bool nu, v], .pointer (some ⟨Bn, 0, none⟩), .pointer (some ⟨Bm, 0, none⟩)] W fun e w' => e = .returned (.bool r) ∧ Below W.heap.size W w' := by
  have cn := (Boxed.alloc h1 (.cells #[.string fn, .int .i64 lo, .int .i64 hi, .bool nu, v] 56)).cell
  have k1 := cell_of_row _ _ 1 _ _ _ (heap_new W (.cells #[.string fn, .int .i64 lo, .int .i64 hi, .bool nu, v] 56))
  have k2 := cell_of_row _ _ 2 _ _ _ (heap_new W (.cells #[.string fn, .int .i64 lo, .int .i64 hi, .bool nu, v] 56))
  have hz : W.heap.size < (W.alloc (.cells #[.string fn, .int .i64 lo, .int .i64 hi, .bool nu, v] 56)).heap.size := by simp
  have hm := Boxed.alloc h2 (.cells #[.string fn, .int .i64 lo, .int .i64 hi, .bool nu, v] 56)
  have hB0 : Below W.heap.size W (W.alloc (.cells #[.string fn, .int .i64 lo, .int .i64 hi, .bool nu, v] 56)) := (Below.refl _ _).alloc (Nat.le_refl _) _
  cases q with
  | false =>
    obtain rfl : r = false := by rw [← hr.out]; rfl
    go_enter Tryz.func54, Tryz.ntmps54
    go_wp2_with (go_at_call 55; refine (vequal_is _ _ _ _ hfn hnm _ hq).mono ?_; rintro e w1 ⟨rfl, hb1⟩)
    go_ret
    exact ⟨rfl, below_step hB0 (by simp) hb1⟩
  | true =>
    by_cases ha : lo ≤ n
    · by_cases hb : hi < 0
      · obtain rfl : r = true := by rw [← hr.out]; simp [ha, hb]
        have b1 : decide (n ≥ lo) = true := decide_eq_true ha
        have b2 : decide (hi < 0) = true := decide_eq_true hb
        go_enter Tryz.func54, Tryz.ntmps54
        go_wp2_with (go_at_call 55; refine (vequal_is _ _ _ _ hfn hnm _ hq).mono ?_; rintro e w1 ⟨rfl, hb1⟩; have d1 := (hb1.cell (p := ⟨W.heap.size, 1, none⟩) hz).trans k1; have d2 := (hb1.cell (p := ⟨W.heap.size, 2, none⟩) hz).trans k2; have dm := (boxed_on hm hb1).cell)
        go_ret
        exact ⟨rfl, below_step hB0 (by simp) hb1⟩
      · by_cases hc : n ≤ hi
        · obtain rfl : r = true := by rw [← hr.out]; simp [ha, hb, hc]
          have b1 : decide (n ≥ lo) = true := decide_eq_true ha
          have b2 : decide (hi < 0) = false := decide_eq_false hb
          have b3 : decide (n ≤ hi) = true := decide_eq_true hc
          go_enter Tryz.func54, Tryz.ntmps54
          go_wp2_with (go_at_call 55; refine (vequal_is _ _ _ _ hfn hnm _ hq).mono ?_; rintro e w1 ⟨rfl, hb1⟩; have d1 := (hb1.cell (p := ⟨W.heap.size, 1, none⟩) hz).trans k1; have d2 := (hb1.cell (p := ⟨W.heap.size, 2, none⟩) hz).trans k2; have dm := (boxed_on hm hb1).cell)
          go_ret
          exact ⟨rfl, below_step hB0 (by simp) hb1⟩
        · obtain rfl : r = false := by rw [← hr.out]; simp [hb, hc]
          have b1 : decide (n ≥ lo) = true := decide_eq_true ha
          have b2 : decide (hi < 0) = false := decide_eq_false hb
          have b3 : decide (n ≤ hi) = false := decide_eq_false hc
          go_enter Tryz.func54, Tryz.ntmps54
          go_wp2_with (go_at_call 55; refine (vequal_is _ _ _ _ hfn hnm _ hq).mono ?_; rintro e w1 ⟨rfl, hb1⟩; have d1 := (hb1.cell (p := ⟨W.heap.size, 1, none⟩) hz).trans k1; have d2 := (hb1.cell (p := ⟨W.heap.size, 2, none⟩) hz).trans k2; have dm := (boxed_on hm hb1).cell)
          go_ret
          exact ⟨rfl, below_step hB0 (by simp) hb1⟩
    · obtain rfl : r = false := by rw [← hr.out]; simp [ha]
      have b1 : decide (n ≥ lo) = false := decide_eq_false ha
      go_enter Tryz.func54, Tryz.ntmps54
      go_wp2_with (go_at_call 55; refine (vequal_is _ _ _ _ hfn hnm _ hq).mono ?_; rintro e w1 ⟨rfl, hb1⟩; have d1 := (hb1.cell (p := ⟨W.heap.size, 1, none⟩) hz).trans k1; have d2 := (hb1.cell (p := ⟨W.heap.size, 2, none⟩) hz).trans k2; have dm := (boxed_on hm hb1).cell)
      go_ret
      exact ⟨rfl, below_step hB0 (by simp) hb1⟩

/-- IndexFunc over the table, whatever the function asks of a row -/
theorem fidx_any (fid : Nat) (lb : Array Value) (eg : ∀ args w, (callFunc fid args).run Tryz.prog w = .ok (.enter fid args) w) (p : Nat → Bool) (g : Nat) (d : Nat → Value) (c : Nat) (lo : Nat) (w : World) (hT : Table lo w g d)
    (hp : ∀ W k, k < 20 → Below w.heap.size w W → Calls Tryz.prog fid (#[.agg #[.string (fname k), .int .i64 (fleasts.getD k 0), .int .i64 (fmosts.getD k 0), .bool (fnullss.getD k false), d k]] ++ lb) W fun e w' => e = .returned (.bool (p k)) ∧ Below W.heap.size W w') :
    Calls Tryz.prog 53 #[.slice (some ⟨g, 0, none⟩) 20 c, .func (.func fid) #[] lb] w fun e w' => e = .returned (.int .i64 (firstFrom p 20 0)) ∧ Below w.heap.size w w' := by
  go_enter Tryz.func53, Tryz.ntmps53
  go_wp2
  go_loopw [8] (fun iv wr => ∃ k : Nat, iv = .int .i64 (k : Int) ∧ k ≤ 20 ∧ Hid (firstFrom p (20 - k) k = firstFrom p 20 0) ∧ Below w.heap.size w wr) (fun iv _ => 20 - (Go.RowKit.intOf iv).toNat)
  case atStart => exact ⟨0, by go_num, by omega, Lib.hid rfl, Below.refl _ _⟩
  case round =>
    obtain ⟨k, rfl, hk, hF, hB⟩ := hrel
    by_cases hlt : k < 20
    · have hTr := hT.on hB
      have c0 := hTr.2.1 k hlt 0 (by omega)
      have c1 := hTr.2.1 k hlt 1 (by omega)
      have c2 := hTr.2.1 k hlt 2 (by omega)
      have c3 := hTr.2.1 k hlt 3 (by omega)
      have c4 := hTr.2.1 k hlt 4 (by omega)
      simp only [fcell, Nat.add_zero] at c0 c1 c2 c3 c4
      have hc := hp wr k hlt hB
      have b1 : decide ((k : Int) < 20) = true := by simp; omega
      have i0 : (0 : Int) ≤ (k : Int) := by omega
      have i1 : (k : Int) < 20 := by omega
      obtain ⟨m, hm⟩ : ∃ m, 20 - k = m + 1 := ⟨20 - k - 1, by omega⟩
      have hm2 : 20 - (k + 1) = m := by omega
      rw [hm] at hF
      have hsz := hB.size
      clear hTr hp hT
      generalize fname k = s0 at *
      generalize fleasts.getD k 0 = s1 at *
      generalize fmosts.getD k 0 = s2 at *
      generalize fnullss.getD k false = s3 at *
      generalize d k = s4 at *
      cases hq : p k with
      | true =>
        have hF' : firstFrom p 20 0 = (k : Int) := by rw [← hF.out, firstFrom_yes hq]
        rw [hq] at hc
        replace hF' := Lib.hid hF'
        clear hF hq hm hm2
        go_wp2_with (go_at_fn fid; refine hc.mono ?_; rintro e w1 ⟨rfl, hb1⟩)
        go_ret
        exact ⟨by rw [hF'.out]; rfl, hB.trans (hb1.mono hsz)⟩
      | false =>
        have hF' : firstFrom p (20 - (k + 1)) (k + 1) = firstFrom p 20 0 := by rw [← hF.out, firstFrom_no hq, hm2]
        rw [hq] at hc
        replace hF' := Lib.hid hF'
        clear hF hq hm hm2
        go_wp2_with (go_at_fn fid; refine hc.mono ?_; rintro e w1 ⟨rfl, hb1⟩)
        go_roundw
        case rel => exact ⟨k + 1, by go_num, by omega, hF', hB.trans (hb1.mono hsz)⟩
        case measure => simp [Go.RowKit.intOf]; omega
    · obtain rfl : k = 20 := by omega
      go_wp2
      go_ret
      exact ⟨by rw [← hF.out]; rfl, hB⟩

theorem firstFrom_range (p : Nat → Bool) (n k : Nat) : firstFrom p n k = -1 ∨ ∃ j : Nat, firstFrom p n k = (j : Int) ∧ k ≤ j ∧ j < k + n ∧ p j = true := by
  induction n generalizing k with
  | zero => exact .inl rfl
  | succ n ih =>
    cases h : p k with
    | true => exact .inr ⟨k, firstFrom_yes h, by omega, by omega, h⟩
    | false =>
      rw [firstFrom_no h]
      rcases ih (k + 1) with h2 | ⟨j, h2, h3, h4, h5⟩
      · exact .inl h2
      · exact .inr ⟨j, h2, by omega, by omega, h5⟩

theorem cells5 {w : World} {g : Nat} {t : TypeId} {a b c d e : Value} (h : w.heap[g]? = some (.cells #[a, b, c, d, e] t (0, 0))) :
    w.cell? ⟨g, 0, none⟩ = some a ∧ w.cell? ⟨g, 1, none⟩ = some b ∧ w.cell? ⟨g, 2, none⟩ = some c ∧ w.cell? ⟨g, 3, none⟩ = some d ∧ w.cell? ⟨g, 4, none⟩ = some e ∧ w.frozen? ⟨g, 0, none⟩ = false ∧ w.frozen? ⟨g, 1, none⟩ = false ∧ w.frozen? ⟨g, 2, none⟩ = false ∧ w.frozen? ⟨g, 3, none⟩ = false ∧ w.frozen? ⟨g, 4, none⟩ = false := by
  refine ⟨cell_of_row w g 0 _ t _ h, cell_of_row w g 1 _ t _ h, cell_of_row w g 2 _ t _ h, cell_of_row w g 3 _ t _ h, cell_of_row w g 4 _ t _ h, ?_, ?_, ?_, ?_, ?_⟩ <;> simp [World.frozen?, h]
theorem below_set5 {B : Nat} {w W : World} {g : Nat} {a b c d e : Value} (h : Below B w W) (hg : B ≤ g) : Below B w (((((W.setCell ⟨g, 0, none⟩ a).setCell ⟨g, 1, none⟩ b).setCell ⟨g, 2, none⟩ c).setCell ⟨g, 3, none⟩ d).setCell ⟨g, 4, none⟩ e) :=
  ((((h.setCell hg _).setCell hg _).setCell hg _).setCell hg _).setCell hg _

set_option maxHeartbeats 1000000 in
/-- find where there is none -/
theorem find_none (nm : ByteArray) (n : Int) (w : World) (hnm : nm.size ≤ 1048576) (hF : Hid (findAt nm.data.toList n = -1)) :
    Calls Tryz.prog 27 #[.string nm, .int .i64 n] w fun e w' => e = .returned (.tuple #[.agg #[.string ⟨#[]⟩, .int .i64 0, .int .i64 0, .bool false, .nilFunc], .bool false]) ∧ Below w.heap.size w w' := by
  have eg : ∀ args w, (callFunc 54 args).run Tryz.prog w = .ok (.enter 54 args) w := enters_of Tryz.func54 (by kernel_rfl) rfl
  obtain ⟨W0, hW0⟩ : ∃ W0, ((w.alloc (.cells #[.string nm] 9)).alloc (.cells #[.int .i64 n] 3)).alloc (.cells #[.string ⟨#[]⟩, .int .i64 0, .int .i64 0, .bool false, .nilFunc] 56) = W0 := ⟨_, rfl⟩
  have h1 : Boxed W0 w.heap.size 9 (.string nm) := by rw [← hW0]; exact ((Boxed.new _ _ _).alloc _).alloc _
  have h2 : Boxed W0 (w.heap.size + 1) 3 (.int .i64 n) := by rw [← hW0]; have := Boxed.new (w.alloc (.cells #[.string nm] 9)) 3 (.int .i64 n); rw [World.size_alloc] at this; exact this.alloc _
  have h3 : W0.heap[w.heap.size + 1 + 1]? = some (.cells #[.string ⟨#[]⟩, .int .i64 0, .int .i64 0, .bool false, .nilFunc] 56) := by
    have := heap_new ((w.alloc (.cells #[.string nm] 9)).alloc (.cells #[.int .i64 n] 3)) (.cells #[.string ⟨#[]⟩, .int .i64 0, .int .i64 0, .bool false, .nilFunc] 56)
    rw [hW0, World.size_alloc, World.size_alloc] at this; exact this
  have hB0 : Below w.heap.size w W0 := by rw [← hW0]; exact (((Below.refl _ _).alloc (Nat.le_refl _) _).alloc (by simp) _).alloc (by simp; omega) _
  have hz0 : W0.heap.size = w.heap.size + 3 := by rw [← hW0]; simp
  go_enter Tryz.func27, Tryz.ntmps27
  go_wp2_with fail
  refine (functions_any _).mono ?_
  rintro e w1 ⟨g, d, rfl, hT, hg, hb1⟩
  have k1 := boxed_on h1 hb1
  have k2 := boxed_on h2 hb1
  have k3 := (hb1.block (w.heap.size + 1 + 1) (by omega)).trans h3
  have hz1 := hb1.size
  go_wp2_with (go_at_call 53; refine (fidx_any 54 #[.pointer (some ⟨w.heap.size, 0, none⟩), .pointer (some ⟨w.heap.size + 1, 0, none⟩)] eg (fits nm.data.toList n) g d _ _ w1 hT (fun W k hk hBW => find1_any _ _ _ _ _ _ _ _ _ W (fname_small k hk) hnm (boxed_on k1 hBW) (boxed_on k2 hBW) _ _ (Lib.hid rfl) (Lib.hid rfl))).mono ?_; rintro e w2 ⟨rfl, hb2⟩; rw [show firstFrom (fits nm.data.toList n) 20 0 = -1 from hF.out]; obtain ⟨q0, q1, q2, q3, q4, f0, f1, f2, f3, f4⟩ := cells5 ((hb2.block (w.heap.size + 1 + 1) (by omega)).trans k3))
  refine bodyPost_ret (v := .tuple #[.agg #[.string ⟨#[]⟩, .int .i64 0, .int .i64 0, .bool false, .nilFunc], .bool false]) (by simp only [results, Tryz.results27]; go_simp) rfl ⟨rfl, ?_⟩
  exact below_set5 ((hB0.trans (hb1.mono (by omega))).trans (hb2.mono (by omega))) (by omega)

theorem at_one {lo : Nat} {W : World} {v : Value} {d : DoF} (h : d.At lo W v) : v.oneCell' = true := by
  cases d with
  | plain f => rw [h]; rfl
  | one f => obtain ⟨B, e, _, _⟩ := h; rw [e]; rfl
  | trim l r => obtain ⟨B, C, e, _, _⟩ := h; rw [e]; rfl
  | ext n => obtain ⟨B, e, _, _⟩ := h; rw [e]; rfl

set_option maxHeartbeats 1000000 in
/-- find where there is one -/
theorem find_some (k : Nat) (hk : k < 20) (nm : ByteArray) (n : Int) (w : World) (hnm : nm.size ≤ 1048576) (hF : Hid (findAt nm.data.toList n = (k : Int))) :
    Calls Tryz.prog 27 #[.string nm, .int .i64 n] w fun e w' => ∃ v, e = .returned (.tuple #[.agg #[.string (fname k), .int .i64 (fleasts.getD k 0), .int .i64 (fmosts.getD k 0), .bool (fnullss.getD k false), v], .bool true]) ∧ (fdos.getD k (.plain 0)).At w.heap.size w' v ∧ Below w.heap.size w w' := by
  have eg : ∀ args w, (callFunc 54 args).run Tryz.prog w = .ok (.enter 54 args) w := enters_of Tryz.func54 (by kernel_rfl) rfl
  obtain ⟨W0, hW0⟩ : ∃ W0, ((w.alloc (.cells #[.string nm] 9)).alloc (.cells #[.int .i64 n] 3)).alloc (.cells #[.string ⟨#[]⟩, .int .i64 0, .int .i64 0, .bool false, .nilFunc] 56) = W0 := ⟨_, rfl⟩
  have h1 : Boxed W0 w.heap.size 9 (.string nm) := by rw [← hW0]; exact ((Boxed.new _ _ _).alloc _).alloc _
  have h2 : Boxed W0 (w.heap.size + 1) 3 (.int .i64 n) := by rw [← hW0]; have := Boxed.new (w.alloc (.cells #[.string nm] 9)) 3 (.int .i64 n); rw [World.size_alloc] at this; exact this.alloc _
  have h3 : W0.heap[w.heap.size + 1 + 1]? = some (.cells #[.string ⟨#[]⟩, .int .i64 0, .int .i64 0, .bool false, .nilFunc] 56) := by
    have := heap_new ((w.alloc (.cells #[.string nm] 9)).alloc (.cells #[.int .i64 n] 3)) (.cells #[.string ⟨#[]⟩, .int .i64 0, .int .i64 0, .bool false, .nilFunc] 56)
    rw [hW0, World.size_alloc, World.size_alloc] at this; exact this
  have hB0 : Below w.heap.size w W0 := by rw [← hW0]; exact (((Below.refl _ _).alloc (Nat.le_refl _) _).alloc (by simp) _).alloc (by simp; omega) _
  have hz0 : W0.heap.size = w.heap.size + 3 := by rw [← hW0]; simp
  have b0 : decide ((k : Int) < 0) = false := decide_eq_false (by omega)
  have i0 : (0 : Int) ≤ (k : Int) := by omega
  have i1 : (k : Int) < 20 := by omega
  go_enter Tryz.func27, Tryz.ntmps27
  go_wp2_with fail
  refine (functions_any _).mono ?_
  rintro e w1 ⟨g, d, rfl, hT, hg, hb1⟩
  have k1 := boxed_on h1 hb1
  have k2 := boxed_on h2 hb1
  have k3 := (hb1.block (w.heap.size + 1 + 1) (by omega)).trans h3
  have hz1 := hb1.size
  go_wp2_with (go_at_call 53; refine (fidx_any 54 #[.pointer (some ⟨w.heap.size, 0, none⟩), .pointer (some ⟨w.heap.size + 1, 0, none⟩)] eg (fits nm.data.toList n) g d _ _ w1 hT (fun W k hk hBW => find1_any _ _ _ _ _ _ _ _ _ W (fname_small k hk) hnm (boxed_on k1 hBW) (boxed_on k2 hBW) _ _ (Lib.hid rfl) (Lib.hid rfl))).mono ?_; rintro e w2 ⟨rfl, hb2⟩; rw [show firstFrom (fits nm.data.toList n) 20 0 = (k : Int) from hF.out]; obtain ⟨q0, q1, q2, q3, q4, f0, f1, f2, f3, f4⟩ := cells5 ((hb2.block (w.heap.size + 1 + 1) (by omega)).trans k3); have hT2 := hT.on hb2; have c0 := hT2.2.1 k hk 0 (by omega); have c1 := hT2.2.1 k hk 1 (by omega); have c2 := hT2.2.1 k hk 2 (by omega); have c3 := hT2.2.1 k hk 3 (by omega); have c4 := hT2.2.1 k hk 4 (by omega); have c5 := hT2.2.2 k hk; simp only [fcell, Nat.add_zero] at c0 c1 c2 c3 c4; have hone : ∀ (a : Addr) (m : Mode) (W : World), (store a (d k) m).run Tryz.prog W = stored Tryz.prog W a (d k) m := fun a m W => run_store _ W a _ m (at_one c5))
  have hb3 : Below w.heap.size w w2 := (hB0.trans (hb1.mono (by omega))).trans (hb2.mono (by omega))
  refine bodyPost_ret (v := .tuple #[.agg #[.string (fname k), .int .i64 (fleasts.getD k 0), .int .i64 (fmosts.getD k 0), .bool (fnullss.getD k false), d k], .bool true]) (by simp only [results, Tryz.results27]; go_simp) rfl ⟨_, rfl, ?_, below_set5 hb3 (by omega)⟩
  exact DoF.At.low (lo := W0.heap.size) (DoF.At.set (DoF.At.set (DoF.At.set (DoF.At.set (DoF.At.set c5 _ _ (by simp; omega)) _ _ (by simp; omega)) _ _ (by simp; omega)) _ _ (by simp; omega)) _ _ (by simp; omega)) (by omega)

end Go.Proofs.YtmkgalcojoeniaaGreatDoor
