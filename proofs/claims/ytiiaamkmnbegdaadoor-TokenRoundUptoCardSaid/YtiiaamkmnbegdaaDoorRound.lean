/- Walks: the law TokenRound. -/
import Derived.Test.YtiiaamkmnbegdaaDoorPrtP
import Derived.Test.YtiiaamkmnbegdaaDoorRnd
namespace Go.Proofs.YtiiaamkmnbegdaaDoor
set_option maxRecDepth 100000
open Go.RowKit

theorem drewN_two (w : World) (m n : Nat) : (w.drewN m).drewN n = w.drewN (m + n) := by simp [World.drewN, Nat.add_assoc]
theorem tokC_at (L : List Tok.T) (k : Nat) (t : Tok.T) (h : L[k]? = some t) : (tokC L)[k * 3]? = some (.int .i64 (t.kind : Int)) ∧ (tokC L)[k * 3 + 1]? = some (.int .i64 (t.at_ : Int)) ∧ (tokC L)[k * 3 + 2]? = some (.string (bs t.text)) := by
  induction L generalizing k with
  | nil => simp at h
  | cons a L ih =>
    cases k with
    | zero => simp at h; subst h; exact ⟨rfl, rfl, rfl⟩
    | succ k =>
      simp at h
      have := ih k h
      have e : tokC (a :: L) = [Value.int .i64 (a.kind : Int), .int .i64 (a.at_ : Int), .string (bs a.text)] ++ tokC L := rfl
      rw [e]
      have e0 : (k + 1) * 3 = 3 + k * 3 := by omega
      have e1 : (k + 1) * 3 + 1 = 3 + (k * 3 + 1) := by omega
      have e2 : (k + 1) * 3 + 2 = 3 + (k * 3 + 2) := by omega
      rw [e0, List.getElem?_append_right (by simp), List.getElem?_append_right (by simp; omega), List.getElem?_append_right (by simp; omega)]
      refine ⟨?_, ?_, ?_⟩
      · simpa using this.1
      · rw [show 3 + k * 3 + 1 - [Value.int .i64 (a.kind : Int), .int .i64 (a.at_ : Int), .string (bs a.text)].length = k * 3 + 1 by simp; omega]; exact this.2.1
      · rw [show 3 + k * 3 + 2 - [Value.int .i64 (a.kind : Int), .int .i64 (a.at_ : Int), .string (bs a.text)].length = k * 3 + 2 by simp; omega]; exact this.2.2

theorem print_is {x : List UInt8} {E : Nat} (p : Option Addr) (N c : Nat) (gs : List Tok.G) (w : World) (h : Hid (Tok.print gs = (x, E))) (hM : MaxL w) (hA : ToksAt w p N gs) (hN : N ≤ 1048576) (hT : Hid (∀ g ∈ gs, g.text.length ≤ 1048576)) :
    Calls Tryd.prog 13 #[.slice p N c] w fun e w' => e = .returned (.tuple #[.string (bs x), .int .i64 (E : Int)]) ∧ Below w.heap.size w w' :=
  (print_any p N c gs w hM hA hN hT.out).mono fun _ _ ⟨h1, h2⟩ => ⟨by rw [h1, h.out], h2⟩
theorem scan_is {L : List Tok.T} {A E N : Nat} (s : ByteArray) (w : World) (h : Hid (Tok.scan s.data.toList = (L, A, E) ∧ L.length = N)) (hs : s.size ≤ 4294967296) :
    Calls Tryd.prog 15 #[.string s] w fun e w' => ∃ p c, e = .returned (.tuple #[.slice p N c, .int .i64 (A : Int), .int .i64 (E : Int)]) ∧ w'.ownsRow w.heap.size 31 3 (.slice p N c) N (tokC L) ∧ Below w.heap.size w w' :=
  (scan_any s w hs).mono fun _ _ ⟨v, h1, h2, h3⟩ => by
    rw [h.out.1] at h1 h2
    simp only [h.out.2] at h1 h2
    rcases h2.2 with ⟨rfl, h0⟩ | ⟨g, cap, cur, rfl, _⟩
    · subst h0; exact ⟨_, _, h1, h2, h3⟩
    · exact ⟨_, _, h1, h2, h3⟩

set_option maxHeartbeats 1000000 in
theorem token_round (p : Option Addr) (N c : Nat) (gs : List Tok.G) (w : World) (hM : MaxL w) (hA : ToksAt w p N gs) (hN : N ≤ 1048576) (hT : ∀ g ∈ gs, g.text.length ≤ 1048576) :
    Calls Tryd.prog 3 #[.slice p N c] w fun e w' => e = .returned (.bool true) ∧ Below w.heap.size w w' := by
  replace hT := Lib.hid hT
  cases hwl : Tok.wall gs with
  | none =>
    have hpr := Tok.print_bad hwl
    replace hpr := Lib.hid hpr
    clear hwl
    go_enter Tryd.func3, Tryd.ntmps3
    go_wp2_with (first
      | (go_at_call 13; refine (print_is p N c gs _ hpr hM hA hN hT).mono ?_; rintro e w1 ⟨rfl, hb1⟩)
      | (go_at_call 14; refine (head_any _).mono ?_; rintro e w2 ⟨rfl, hb2⟩))
    go_ret
    exact ⟨rfl, hb1.trans (hb2.mono hb1.size)⟩
  | some ws =>
    have hpr := Tok.print_ok hwl
    obtain ⟨x, hx⟩ : ∃ x, Lib.join ws [32] = x := ⟨_, rfl⟩
    rw [hx] at hpr
    by_cases hbig : 2000 < x.length
    · have hbB : decide (((bs x).size : Int) > 2000) = true := by rw [bs_size]; simp; omega
      replace hpr := Lib.hid hpr
      clear hwl hx
      go_enter Tryd.func3, Tryd.ntmps3
      go_wp2_with (first
        | (go_at_call 13; refine (print_is p N c gs _ hpr hM hA hN hT).mono ?_; rintro e w1 ⟨rfl, hb1⟩)
        | (go_at_call 14; refine (head_any _).mono ?_; rintro e w2 ⟨rfl, hb2⟩))
      go_ret
      exact ⟨rfl, hb1.trans (hb2.mono hb1.size)⟩
    · have hbB : decide (((bs x).size : Int) > 2000) = false := by rw [bs_size]; simp; omega
      have hbs : (bs x).size ≤ 4294967296 := by rw [bs_size]; omega
      obtain ⟨t1, t2, t3⟩ := Tok.toks_row (l := x) (r := []) (.inl rfl) gs ws 0 hwl (by rw [hx]; simp)
      have hsc := Tok.scan_ok (l := x) (ys := (Tok.toks x 0).1) (by omega) (by rw [← t1])
      obtain ⟨L, hL⟩ : ∃ L, (Tok.toks x 0).1.map (·.1) = L := ⟨_, rfl⟩
      rw [hL] at hsc
      have hLl : L.length = N := by
        have h1 := congrArg List.length t2
        simp only [List.length_map] at h1
        rw [← hL, List.length_map, h1, hA.1]
      have hsame : ∀ (k : Nat) (g : Tok.G), gs[k]? = some g → ∃ t : Tok.T, L[k]? = some t ∧ (t.kind : Int) = g.kind ∧ t.text = g.text := by
        intro k g hg
        have h1 : ((Tok.toks x 0).1.map (fun y => (y.1.kind, y.1.text)))[k]? = some (g.kind.toNat, g.text) := by rw [t2, List.getElem?_map, hg]; rfl
        rw [List.getElem?_map] at h1
        obtain ⟨y, hy, hq⟩ := Option.map_eq_some_iff.1 h1
        refine ⟨y.1, by rw [← hL, List.getElem?_map, hy]; rfl, ?_, (Prod.mk.inj hq).2⟩
        have := t3 g (List.mem_of_getElem? hg)
        have h2 := (Prod.mk.inj hq).1
        omega
      have hq : Tok.scan (bs x).data.toList = (L, 0, 0) ∧ L.length = N := ⟨hsc, hLl⟩
      replace hq := Lib.hid hq
      replace hpr := Lib.hid hpr
      replace hsame := Lib.hid hsame
      clear hwl hx t1 t2 t3 hsc hL hLl
      go_enter Tryd.func3, Tryd.ntmps3
      go_wp2_with (first
        | (go_at_call 13; refine (print_is p N c gs _ hpr hM hA hN hT).mono ?_; rintro e w1 ⟨rfl, hb1⟩)
        | (go_at_call 14; refine (head_any _).mono ?_; rintro e w2 ⟨rfl, hb2⟩)
        | (go_at_call 15; refine (scan_is (bs x) _ hq hbs).mono ?_; rintro e w3 ⟨p2, c2, rfl, hrow, hb3⟩))
      have hB : Below w.heap.size w w3 := (hb1.trans (hb2.mono hb1.size)).trans (hb3.mono (Nat.le_trans hb1.size hb2.size))
      have hA3 := hA.below hB
      have hBN : ((N : Int) != (N : Int)) = false := by simp
      go_loopw [8] (fun iv wr => ∃ k m : Nat, iv = .int .i64 (k : Int) ∧ k ≤ N ∧ Hid (wr = w3.drewN m)) (fun iv _ => N - (intOf iv).toNat)
      case atStart => exact ⟨0, 0, by go_num, by omega, Lib.hid rfl⟩
      case round =>
        obtain ⟨k, m, rfl, hk, hwr⟩ := hrel
        have hrow1 : wr.ownsRow w2.heap.size 31 3 (.slice p2 N c2) N (tokC L) := by rw [hwr.out]; exact hrow
        have hA4 : ToksAt wr p N gs := by rw [hwr.out]; exact hA3
        by_cases hlt : k < N
        · obtain ⟨g, hg⟩ : ∃ g, gs[k]? = some g := ⟨_, List.getElem?_eq_getElem (by rw [hA.1]; exact hlt)⟩
          obtain ⟨t, ht, e0, e2⟩ := hsame.out k g hg
          rcases hA4.2 with h0 | ⟨b, off, rfl, hbl, hcell⟩
          · rw [h0] at hg; simp at hg
          · obtain ⟨c0, _, c2'⟩ := hcell k g hg
            obtain ⟨g', cap, hf, _, _⟩ := hrow1.form (by omega)
            simp only [Value.slice.injEq, true_and] at hf
            obtain ⟨rfl, rfl⟩ := hf
            obtain ⟨q0, _, q2⟩ := tokC_at L k t ht
            rw [e0] at q0
            rw [e2] at q2
            have r0 := (hrow1.cellAt (k * 3) (by omega)).trans q0
            have r2 := (hrow1.cellAt (k * 3 + 2) (by omega)).trans q2
            obtain ⟨tx, htx⟩ : ∃ tx, bs g.text = tx := ⟨_, rfl⟩
            obtain ⟨kd, hkd⟩ : ∃ kd, g.kind = kd := ⟨_, rfl⟩
            rw [htx] at r2 c2'
            rw [hkd] at r0 c0
            clear q0 q2 e0 e2 ht hg htx hkd hcell
            have i0 : (0 : Int) ≤ (k : Int) := by omega
            have i1 : (k : Int) < (N : Int) := by omega
            go_wp2
            go_quiet (fail)
            go_wp2
            refine ⟨⟨k + 1, m + nq, by go_num, by omega, Lib.hid ?_⟩, by simp [intOf]; omega⟩
            rw [hwr.out]
            exact drewN_two _ m nq
        · go_wp2
          go_ret
          refine ⟨rfl, ?_⟩
          rw [hwr.out]
          exact below_drewN hB _

end Go.Proofs.YtiiaamkmnbegdaaDoor
