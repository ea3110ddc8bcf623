/- Walks: Print of package token. -/
import Derived.Test.YtaeplgakpacobaaDoorPrtX
import Derived.Test.YtaeplgakpacobaaDoorOpenTok
import Derived.Test.YtaeplgakpacobaaDoorStrs
import Derived.Test.YtaeplgakpacobaaDoorTokW9
set_option maxRecDepth 100000
set_option linter.unusedVariables false
set_option linter.unusedSimpArgs false
namespace Go.Proofs.YtaeplgakpacobaaDoor
open Go.RowKit

theorem join_any (ws : List (List UInt8)) (p : Option Addr) (c B : Nat) (w : World) (hrow : w.ownsRow B 9 1 (.slice p ws.length c) ws.length (strC ws)) (hn : ws.length ≤ 1048576) (hl : (Lib.join ws [32]).length ≤ 140737488355328) :
    Calls Tryd.prog 23 #[.slice p ws.length c, .string ⟨#[32]⟩] w fun e w' => e = .returned (.string (bs (Lib.join ws [32]))) ∧ Below w.heap.size w w' := by
  by_cases h0 : ws = []
  · subst h0
    refine (Tryd.strings_Join_none _ _ _ w).mono fun e w' ⟨he, hw⟩ => ⟨he, by rw [hw]; exact Below.refl _ _⟩
  · have hpos : 0 < ws.length := List.length_pos_iff.2 h0
    obtain ⟨g, cap, hf, hcap, hlt⟩ := hrow.form hpos
    simp only [Value.slice.injEq, true_and] at hf
    obtain ⟨rfl, rfl⟩ := hf
    have hcc : ws.length ≤ c := by
      rcases hrow.2 with ⟨hv, _⟩ | ⟨g', cap', cur, hv, _, _, hnc, _⟩
      · simp at hv
      · simp at hv; omega
    have hcells : ∀ (j : Nat) x, (ws.map bs)[j]? = some x → w.cell? ⟨g, 0 + j, none⟩ = some (.string x) := by
      intro j x hj
      rw [List.getElem?_map] at hj
      obtain ⟨t, ht, rfl⟩ := Option.map_eq_some_iff.1 hj
      have hjl : j < ws.length := (List.getElem?_eq_some_iff.1 ht).1
      rw [Nat.zero_add]
      refine (hrow.cellAt j (by omega)).trans ?_
      simp [strC, ht]
    have hm : (ws.map bs).map (fun x : ByteArray => x.data.toList) = ws := by
      rw [List.map_map]
      conv => rhs; rw [← List.map_id ws]
      exact List.map_congr_left fun t _ => rfl
    have key := Tryd.strings_Join g 0 c (ws.map bs) ⟨#[32]⟩ w hcells hlt (by simp; omega) (by simpa using hcc) (by rw [hm]; exact hl)
    rw [List.length_map] at key
    refine key.mono fun e w' ⟨he, hb⟩ => ⟨?_, hb⟩
    rw [he, hm]
    rfl

theorem written_is {k : Int} {x : List UInt8} (a : Int) (t : ByteArray) (w : World) (h : Hid (Tok.written k t.data.toList = some x)) (hM : MaxL w) (hs : t.size ≤ 1048576) :
    Calls Tryd.prog 22 #[.agg #[.int .i64 k, .int .i64 a, .string t]] w fun e w' => e = .returned (.tuple #[.string (bs x), .bool true]) ∧ Below w.heap.size w w' :=
  (written_any k a t w hM hs).mono fun _ _ ⟨v, ok, he, h1, _, hb⟩ => ⟨by obtain ⟨rfl, rfl⟩ := h1 x h.out; exact he, hb⟩
theorem written_not {k : Int} (a : Int) (t : ByteArray) (w : World) (h : Hid (Tok.written k t.data.toList = none)) (hM : MaxL w) (hs : t.size ≤ 1048576) :
    Calls Tryd.prog 22 #[.agg #[.int .i64 k, .int .i64 a, .string t]] w fun e w' => ∃ v, e = .returned (.tuple #[.string v, .bool false]) ∧ Below w.heap.size w w' :=
  (written_any k a t w hM hs).mono fun _ _ ⟨v, ok, he, _, h2, hb⟩ => ⟨v, by obtain rfl := h2 h.out; exact he, hb⟩

set_option maxHeartbeats 1000000 in
theorem print_any (p : Option Addr) (N c : Nat) (gs : List Tok.G) (w : World) (hM : MaxL w) (hA : ToksAt w p N gs) (hN : N ≤ 1048576) (hT : ∀ g ∈ gs, g.text.length ≤ 1048576) :
    Calls Tryd.prog 10 #[.slice p N c] w fun e w' => e = .returned (.tuple #[.string (bs (Tok.print gs).1), .int .i64 ((Tok.print gs).2 : Int)]) ∧ Below w.heap.size w w' := by
  have hlen := hA.1
  replace hT := Lib.hid hT
  replace hlen := Lib.hid hlen
  go_enter Tryd.func10, Tryd.ntmps10
  go_wp2
  go_loopw [4, 11] (fun vo iv wr => ∃ (po : Option Addr) (i co : Nat) (ws : List (List UInt8)), vo = .slice po i co ∧ iv = .int .i64 (i : Int) ∧ i ≤ N ∧ wr.ownsRow w.heap.size 9 1 (.slice po i co) i (strC ws) ∧ Hid (ws.length = i ∧ Tok.wall (gs.take i) = some ws ∧ ∀ x ∈ ws, x.length ≤ 2097155) ∧ Below w.heap.size w wr) (fun _ iv _ => N - (intOf iv).toNat)
  case atStart => exact ⟨none, 0, 0, [], rfl, by go_num, by omega, World.ownsRow_nil _ _ _ _, Lib.hid ⟨rfl, rfl, by simp⟩, Below.refl _ _⟩
  case round =>
    obtain ⟨po, i, co, ws, rfl, rfl, hi, hrow, hws, hB⟩ := hrel
    have hMr := hM.below hB
    by_cases hlt : i < N
    · obtain ⟨g, hg⟩ : ∃ g, gs[i]? = some g := ⟨_, List.getElem?_eq_getElem (by rw [hlen.out]; exact hlt)⟩
      have hgt := hT.out g (List.mem_of_getElem? hg)
      rcases (hA.below hB).2 with h0 | ⟨b, off, rfl, hbl, hcell⟩
      · rw [h0] at hg; simp at hg
      · obtain ⟨c0, c1, c2⟩ := hcell i g hg
        obtain ⟨kd, at_, tx⟩ := g
        obtain ⟨t, rfl⟩ : ∃ t : ByteArray, tx = t.data.toList := ⟨bs tx, rfl⟩
        rw [bs_of] at c2
        simp only at c0 c1 c2 hgt
        have hts : t.size ≤ 1048576 := hgt
        have b1 : w.heap.size ≤ wr.heap.size := hB.size
        have hlB : decide ((i : Int) < (N : Int)) = true := by simp; omega
        clear hcell
        cases hwr : Tok.written kd t.data.toList with
        | none =>
          have hall : Tok.wall gs = none := Tok.wall_none hg hwr
          have hpr := Tok.print_bad hall
          replace hwr := Lib.hid hwr
          replace hpr := Lib.hid hpr
          clear hg hall
          go_wp2_with (go_at_call 22; refine (written_not _ _ _ hwr (hMr.alloc _) hts).mono ?_; rintro e w1 ⟨v, rfl, hb1⟩)
          go_ret2
          refine ⟨by rw [hpr.out]; rfl, ?_⟩
          exact (hB.alloc b1 _).trans (hb1.mono (by simp; omega))
        | some x =>
          have hsn : Tok.wall (gs.take (i + 1)) = some (ws ++ [x]) := by
            rw [List.take_add_one, hg]
            exact Tok.wall_snoc hws.out.2.1 hwr
          have hxl := Tok.written_len hwr
          have hxs : x.length ≤ 2097155 := by
            have e : t.data.toList.length = t.size := rfl
            omega
          replace hwr := Lib.hid hwr
          replace hsn := Lib.hid hsn
          clear hg hxl
          have hi1 : (i + 1) * 16 ≤ 140737488355328 := by omega
          go_wp2_with (first
            | (go_at_call 22; refine (written_is _ _ _ hwr (hMr.alloc _) hts).mono ?_; rintro e w1 ⟨rfl, hb1⟩; have hB1 := (hB.alloc b1 _).trans (hb1.mono (by simp; omega)); have hrow1 := (hrow.alloc _).kept (below_grown hb1) (Classical.em _))
            | (at_builtin; go_must (refine wpList_push rfl _ _ 52 rfl w.heap.size 9 Tryd.underlying52 str_info rfl (by decide) _ _ _ rfl hrow1 _ rfl rfl (one_str _) hi1 (by decide) hB1.size ?_); rintro _ w2 hown' hb2 ⟨g', cap', rfl⟩ _))
          go_roundw
          case rel =>
            refine ⟨some ⟨g', 0, none⟩, i + 1, cap', ws ++ [x], rfl, by go_num, by omega, ?_, Lib.hid ⟨by simp [hws.out.1], hsn.out, ?_⟩, hB1.trans hb2⟩
            · rw [strC_snoc]; simpa using hown'
            · intro y hy
              rcases List.mem_append.1 hy with hy | hy
              · exact hws.out.2.2 y hy
              · simp at hy; subst hy; exact hxs
          case measure => simp [intOf]; omega
    · have hiN : i = N := by omega
      subst hiN
      have hlB : decide ((i : Int) < (i : Int)) = false := by simp
      have hall : Tok.wall gs = some ws := by
        have := hws.out.2.1
        rwa [List.take_of_length_le (by rw [hlen.out]; omega)] at this
      have hpr := Tok.print_ok hall
      have hwl := hws.out.1
      have hjl := Tok.join_len ws 2097155 hws.out.2.2
      have hjl2 : (Lib.join ws [32]).length ≤ 140737488355328 := by
        refine Nat.le_trans hjl ?_
        rw [hwl]
        have : i * 2097156 ≤ 1048576 * 2097156 := Nat.mul_le_mul_right _ hN
        omega
      subst hwl
      replace hpr := Lib.hid hpr
      clear hall hjl hws
      go_wp2_with (go_at_call 23; refine (join_any ws po co _ _ hrow hN hjl2).mono ?_; rintro e w1 ⟨rfl, hb1⟩)
      go_ret2
      exact ⟨by rw [hpr.out]; rfl, hB.trans (hb1.mono hB.size)⟩

end Go.Proofs.YtaeplgakpacobaaDoor
