/- Walks: Print of the reference of layer 15, and the law TokenPrints. -/
import Derived.Test.YtiiaamkmnbegdaaDoorPrtR2
namespace Go.Proofs.YtiiaamkmnbegdaaDoor
set_option maxRecDepth 100000
set_option linter.unusedVariables false
set_option linter.unusedSimpArgs false
open Go.RowKit

set_option maxHeartbeats 2000000 in
theorem rprint15_any (p : Option Addr) (N c : Nat) (gs : List Tok.G) (w : World) (hA : ToksAt w p N gs) (hN : N ≤ 1048576) (hT : ∀ g ∈ gs, g.text.length ≤ 1048576) :
    Calls Tryd.prog 21 #[.slice p N c] w fun e w' => e = .returned (.tuple #[.string (bs (Tok.print gs).1), .int .i64 ((Tok.print gs).2 : Int)]) ∧ Below w.heap.size w w' := by
  have hlen := hA.1
  replace hT := Lib.hid hT
  replace hlen := Lib.hid hlen
  go_enter Tryd.func21, Tryd.ntmps21
  go_wp2
  go_loopw [4, 5] (fun so iv wr => ∃ (i : Nat) (S : ByteArray) (ws : List (List UInt8)), so = .string S ∧ iv = .int .i64 (i : Int) ∧ i ≤ N ∧ Hid (S = bs (Lib.join ws [32]) ∧ ws.length = i ∧ Tok.wall (gs.take i) = some ws ∧ ∀ x ∈ ws, x.length ≤ 2097155) ∧ Below w.heap.size w wr) (fun _ iv _ => N - (intOf iv).toNat)
  case atStart => exact ⟨0, ⟨#[]⟩, [], rfl, by go_num, by omega, Lib.hid ⟨rfl, rfl, rfl, by simp⟩, Below.refl _ _⟩
  case round =>
    obtain ⟨i, S, ws, rfl, rfl, hi, hS, hB⟩ := hrel
    by_cases hlt : i < N
    · obtain ⟨g, hg⟩ : ∃ g, gs[i]? = some g := ⟨_, List.getElem?_eq_getElem (by rw [hlen.out]; exact hlt)⟩
      have hgt := hT.out g (List.mem_of_getElem? hg)
      rcases (hA.below hB).2 with h0 | ⟨b, off, rfl, hbl, hcell⟩
      · rw [h0] at hg; simp at hg
      · obtain ⟨c0, c1, c2⟩ := hcell i g hg
        obtain ⟨kd, at_, tx⟩ := g
        obtain ⟨t, rfl⟩ : ∃ t : ByteArray, tx = t.data.toList := ⟨bs tx, rfl⟩
        rw [bs_of] at c2
        simp only at c0 c1 c2 hgt
        have hts : t.size ≤ 1048576 := hgt
        have b1 : w.heap.size ≤ wr.heap.size := hB.size
        have hlB : decide ((i : Int) < (N : Int)) = true := by simp; omega
        clear hcell
        cases hwr : Tok.written kd t.data.toList with
        | none =>
          have hall : Tok.wall gs = none := Tok.wall_none hg hwr
          have hpr := Tok.print_bad hall
          replace hwr := Lib.hid hwr
          replace hpr := Lib.hid hpr
          clear hg hall
          go_wp2_with (go_at_call 51; refine (rwritten_any kd at_ t _ hts).mono ?_; rintro e w1 ⟨v, ok, rfl, _, hno, hb1⟩; obtain rfl := hno hwr.out)
          go_ret2
          exact ⟨by rw [hpr.out]; rfl, hB.trans (hb1.mono b1)⟩
        | some x =>
          have hsn : Tok.wall (gs.take (i + 1)) = some (ws ++ [x]) := by
            rw [List.take_add_one, hg]
            exact Tok.wall_snoc hS.out.2.2.1 hwr
          have hxl := Tok.written_len hwr
          have hxs : x.length ≤ 2097155 := by
            have e : t.data.toList.length = t.size := rfl
            omega
          have hjl := Tok.join_len ws 2097155 hS.out.2.2.2
          have hSl : S.size ≤ 2199027449856 := by
            rw [hS.out.1, bs_size]
            refine Nat.le_trans hjl ?_
            rw [hS.out.2.1]
            have : i * 2097156 ≤ 1048576 * 2097156 := Nat.mul_le_mul_right _ (by omega)
            omega
          have hall2 : ∀ y ∈ ws ++ [x], y.length ≤ 2097155 := by
            intro y hy
            rcases List.mem_append.1 hy with hy | hy
            · exact hS.out.2.2.2 y hy
            · simp at hy; subst hy; exact hxs
          obtain ⟨Y, hY⟩ : ∃ Y, bs x = Y := ⟨_, rfl⟩
          have hYs : Y.size ≤ 2097155 := by rw [← hY, bs_size]; exact hxs
          have z1 : ¬ 9223372036854775807 < S.size + 1 := by omega
          have z2 : ¬ 9223372036854775807 < S.size + 1 + Y.size := by omega
          have z3 : ¬ 9223372036854775807 < S.size + Y.size := by omega
          replace hwr := Lib.hid hwr
          replace hall2 := Lib.hid hall2
          replace hsn := Lib.hid hsn
          clear hg hxl hjl
          by_cases h0 : i = 0
          · have hn : S ++ Y = bs (Lib.join (ws ++ [x]) [32]) := by
              have hws : ws = [] := List.eq_nil_of_length_eq_zero (by rw [hS.out.2.1]; exact h0)
              rw [hS.out.1, ← hY, hws, List.nil_append, Lib.join_nil, Lib.join_one, bs_app, List.nil_append]
            have hgB : decide ((i : Int) > 0) = false := by simp; omega
            have hg : ¬ 0 < i := by omega
            have hwl : (ws ++ [x]).length = i + 1 := by simp [hS.out.2.1]
            replace hn := Lib.hid hn
            replace hwl := Lib.hid hwl
            replace hY := Lib.hid hY
            clear h0
            go_wp2_with (go_at_call 51; refine (rwritten_any kd at_ t _ hts).mono ?_; rintro e w1 ⟨v, ok, rfl, hyes, _, hb1⟩; obtain ⟨rfl, rfl⟩ := hyes x hwr.out; clear hyes; rw [hY.out])
            go_roundw
            case rel => exact ⟨i + 1, _, ws ++ [x], rfl, by go_num, by omega, Lib.hid ⟨hn.out, hwl.out, hsn.out, hall2.out⟩, hB.trans (hb1.mono b1)⟩
            case measure => simp [intOf]; omega
          · have hn : S ++ ⟨#[32]⟩ ++ Y = bs (Lib.join (ws ++ [x]) [32]) := by
              have hne : ws ≠ [] := fun hh => h0 (by rw [← hS.out.2.1, hh]; rfl)
              rw [Tok.join_snoc _ _ hne, hS.out.1, ← hY, bs_one, bs_app, bs_app]
            have hgB : decide ((i : Int) > 0) = true := by simp; omega
            have hg : 0 < i := by omega
            have hwl : (ws ++ [x]).length = i + 1 := by simp [hS.out.2.1]
            replace hn := Lib.hid hn
            replace hwl := Lib.hid hwl
            replace hY := Lib.hid hY
            clear h0
            go_wp2_with (go_at_call 51; refine (rwritten_any kd at_ t _ hts).mono ?_; rintro e w1 ⟨v, ok, rfl, hyes, _, hb1⟩; obtain ⟨rfl, rfl⟩ := hyes x hwr.out; clear hyes; rw [hY.out])
            go_roundw
            case rel => exact ⟨i + 1, _, ws ++ [x], rfl, by go_num, by omega, Lib.hid ⟨hn.out, hwl.out, hsn.out, hall2.out⟩, hB.trans (hb1.mono b1)⟩
            case measure => simp [intOf]; omega
    · have hiN : i = N := by omega
      subst hiN
      have hlB : decide ((i : Int) < (i : Int)) = false := by simp
      have hall : Tok.wall gs = some ws := by
        have := hS.out.2.2.1
        rwa [List.take_of_length_le (by rw [hlen.out]; omega)] at this
      have hpr := Tok.print_ok hall
      replace hpr := Lib.hid hpr
      clear hall
      go_wp2
      go_ret2
      exact ⟨by rw [hpr.out, hS.out.1]; rfl, hB⟩

theorem token_prints (p : Option Addr) (N c : Nat) (gs : List Tok.G) (w : World) (hM : MaxL w) (hA : ToksAt w p N gs) (hN : N ≤ 1048576) (hT : ∀ g ∈ gs, g.text.length ≤ 1048576) :
    Calls Tryd.prog 6 #[.slice p N c] w fun e w' => e = .returned (.bool true) ∧ Below w.heap.size w w' := by
  obtain ⟨Y, hY⟩ : ∃ Y, bs (Tok.print gs).1 = Y := ⟨_, rfl⟩
  obtain ⟨E, hE⟩ : ∃ E, (Tok.print gs).2 = E := ⟨_, rfl⟩
  have k1 := fun W (h : MaxL W) (h2 : ToksAt W p N gs) => print_any p N c gs W h h2 hN hT
  have k2 := fun W (h2 : ToksAt W p N gs) => rprint15_any p N c gs W h2 hN hT
  rw [hY, hE] at k1 k2
  clear hY hE
  go_enter Tryd.func6, Tryd.ntmps6
  go_wp2_with (first
    | (go_at_call 13; refine (k1 _ hM hA).mono ?_; rintro e w1 ⟨rfl, hb1⟩)
    | (go_at_call 21; refine (k2 _ (hA.below hb1)).mono ?_; rintro e w2 ⟨rfl, hb2⟩)
    | (go_at_call 14; refine (head_any _).mono ?_; rintro e w3 ⟨rfl, hb3⟩))
  go_ret
  exact ⟨rfl, (hb1.trans (hb2.mono hb1.size)).trans (hb3.mono (Nat.le_trans hb1.size hb2.size))⟩


end Go.Proofs.YtiiaamkmnbegdaaDoor
