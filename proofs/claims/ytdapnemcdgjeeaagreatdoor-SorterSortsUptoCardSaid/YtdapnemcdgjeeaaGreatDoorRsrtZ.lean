/- The reference's Sort; what sorting keeps. -/
import Derived.Test.YtdapnemcdgjeeaaGreatDoorRwsA
import Derived.Test.YtdapnemcdgjeeaaGreatDoorSorB
import Derived.Test.YtdapnemcdgjeeaaGreatDoorStbA
import Derived.Test.YtdapnemcdgjeeaaGreatDoorSame
import Derived.Test.YtdapnemcdgjeeaaGreatDoorCat
import Derived.Deep.RegionHeld3
set_option maxRecDepth 100000
set_option linter.unusedVariables false
set_option linter.unusedSimpArgs false
namespace Go.Proofs.YtdapnemcdgjeeaaGreatDoor
open Go.RowKit
open Go.Proofs.YtdapnemcdgjeeaaGreatDoor.Ord (atV firstV standV mayRow MRow ltR ltR_swo)
open Go.Proofs.YtdapnemcdgjeeaaGreatDoor.Stb (seg isort mergeR)

theorem sort_len (ks : List Ord.Key) (width : Int) (rows : List (List Val.V)) : (sortV ks width rows).length = rows.length := (Stb.isort_perm _ rows).length_eq
theorem sort_mem (ks : List Ord.Key) (width : Int) (rows : List (List Val.V)) {r : List Val.V} : r ∈ sortV ks width rows ↔ r ∈ rows := (Stb.isort_perm _ rows).mem_iff
theorem mrows {rows : List (List Val.V)} (h : ∀ r ∈ rows, mayRow r) : ∃ l : List MRow, l.map (fun m => m.1) = rows := by
  induction rows with
  | nil => exact ⟨[], rfl⟩
  | cons r rows ih =>
    obtain ⟨l, hl⟩ := ih fun x hx => h x (List.mem_cons_of_mem _ hx)
    exact ⟨⟨r, h r List.mem_cons_self⟩ :: l, congrArg (fun x => r :: x) hl⟩
theorem sort_mrows (ks : List Ord.Key) (width : Int) (l : List MRow) : sortV ks width (l.map fun m => m.1) = (isort (ltR ks width) l).map fun m => m.1 := (isort_map (lt' := ltV ks width) (fun m : MRow => m.1) (fun _ _ => rfl) l).symm
theorem sort_b {ks : List Ord.Key} {width : Int} {rows : List (List Val.V)} (h : RowsB rows) : RowsB (sortV ks width rows) := ⟨by rw [sort_len]; exact h.1, fun r hr => h.2 r ((sort_mem ks width rows).1 hr)⟩
theorem drop_step {α : Type} {l : List α} {i : Nat} {r : α} (h : l[i]? = some r) : l.drop i = r :: l.drop (i + 1) := by
  obtain ⟨hi, rfl⟩ := List.getElem?_eq_some_iff.1 h
  exact List.drop_eq_getElem_cons hi

theorem mergeR_map {α β : Type} {lt : α → α → Bool} {lt' : β → β → Bool} (m : α → β) (h : ∀ x y, lt x y = lt' (m x) (m y)) : ∀ (n : Nat) (a b : List α), a.length + b.length ≤ n → mergeR lt' (a.map m) (b.map m) = (mergeR lt a b).map m := by
  intro n
  induction n with
  | zero =>
    intro a b hn
    obtain rfl : a = [] := List.eq_nil_of_length_eq_zero (by omega)
    obtain rfl : b = [] := List.eq_nil_of_length_eq_zero (by omega)
    rw [Stb.mergeR_nil, List.map_nil, Stb.mergeR_nil]
  | succ n ih =>
    intro a b hn
    cases a with
    | nil => rw [Stb.mergeR_nil, List.map_nil, Stb.mergeR_nil]
    | cons x a =>
      cases b with
      | nil => rw [Stb.mergeR_nil', List.map_nil, Stb.mergeR_nil']
      | cons y b =>
        simp only [List.length_cons] at hn
        cases hc : lt y x with
        | true =>
          have hc' : lt' (m y) (m x) = true := by rw [← h]; exact hc
          rw [Stb.mergeR_yes a b hc, List.map_cons, List.map_cons, Stb.mergeR_yes _ _ hc', ← List.map_cons, ih (x :: a) b (by simp only [List.length_cons]; omega), List.map_cons]
        | false =>
          have hc' : lt' (m y) (m x) = false := by rw [← h]; exact hc
          rw [Stb.mergeR_no a b hc, List.map_cons, List.map_cons, Stb.mergeR_no _ _ hc', ← List.map_cons (f := m) (a := y), ih a (y :: b) (by simp only [List.length_cons]; omega), List.map_cons]
theorem sort_halves (ks : List Ord.Key) (width : Int) {rows : List (List Val.V)} (h : ∀ r ∈ rows, mayRow r) (H : Nat) : mergeR (ltV ks width) (sortV ks width (rows.take H)) (sortV ks width (rows.drop H)) = sortV ks width rows := by
  obtain ⟨l, rfl⟩ := mrows h
  rw [← List.map_take, ← List.map_drop, sort_mrows, sort_mrows, sort_mrows, mergeR_map (lt := ltR ks width) (fun m : MRow => m.1) (fun _ _ => rfl) _ _ _ (Nat.le_refl _), Stb.isort_isort (ltR_swo ks width), List.take_append_drop]
theorem sort_few (ks : List Ord.Key) (width : Int) {rows : List (List Val.V)} (h : rows.length < 2) : sortV ks width rows = rows := by
  match rows, h with
  | [], _ => rfl
  | [r], _ => rfl
  | _ :: _ :: _, h => simp at h; omega
theorem rows_take {W : World} {p : Option Addr} {N : Nat} {rows : List (List Val.V)} (h : RowsAt W p N rows) {H : Nat} (hH : H ≤ N) : RowsAt W p H (rows.take H) := by
  refine ⟨by rw [List.length_take, h.1]; omega, ?_⟩
  rcases h.2 with h2 | ⟨b, off, rfl, hb, hc⟩
  · left; rw [h2]; simp
  · exact .inr ⟨b, off, rfl, hb, fun k r hk => by
      rw [List.getElem?_take] at hk
      split at hk
      · exact hc k r hk
      · cases hk⟩
theorem rows_drop {W : World} {b off N : Nat} {rows : List (List Val.V)} (h : RowsAt W (some ⟨b, off, none⟩) N rows) {H : Nat} (hH : H ≤ N) : RowsAt W (some ⟨b, off + H, none⟩) (N - H) (rows.drop H) := by
  refine ⟨by rw [List.length_drop, h.1], ?_⟩
  rcases h.2 with h2 | ⟨b', off', e, hb, hc⟩
  · left; rw [h2]; simp
  · injection e with e; injection e with e1 e2
    subst e1 e2
    refine .inr ⟨b, off + H, rfl, hb, fun k r hk => ?_⟩
    rw [List.getElem?_drop] at hk
    obtain ⟨q, c, c0, h1, h2⟩ := hc _ r hk
    exact ⟨q, c, by rw [Nat.add_assoc]; exact c0, h1, h2⟩
/-- how two rows stand, in whatever later world -/
structure StandOk (w : World) (p : Option Addr) (N ca : Nat) (q : Option Addr) (M cb : Nat) (sk : Option Addr) (KN kc : Nat) (width : Int) (r : Int) : Prop where
  on : ∀ W, Below w.heap.size w W → Calls Tryz.prog 33 #[.slice p N ca, .slice q M cb, .slice sk KN kc, .int .i64 width] W fun e w' => e = .returned (.int .i64 r) ∧ Below W.heap.size W w'

set_option maxHeartbeats 8000000 in
theorem rsort_is (sk : Option Addr) (KN kc : Nat) (ks : List Ord.Key) (width : Int) (hKN : KN ≤ 1048576) : ∀ (n : Nat) (p : Option Addr) (N c : Nat) (rows : List (List Val.V)) (w : World), N ≤ n → RowsAt w p N rows → SlOk p N c → RowsB rows → (∀ r ∈ rows, mayRow r) → KeysAt w sk KN ks →
    Calls Tryz.prog 10 #[.slice p N c, .slice sk KN kc, .int .i64 width] w (RowsP N (sortV ks width rows) w) := by
  intro n
  induction n with
  | zero =>
    intro p N c rows w hNn hR hs hB hM hK
    obtain rfl : N = 0 := by omega
    have hv : sortV ks width rows = rows := sort_few ks width (by rw [hR.1]; omega)
    rw [hv]
    replace hv := Lib.hid hv
    replace hB := Lib.hid hB
    replace hM := Lib.hid hM
    go_enter Tryz.func10, Tryz.ntmps10
    go_wp2_with (at_builtin; go_must (refine wpList_appendRows (w0 := w) rfl _ _ rfl w.heap.size none 0 0 [] rfl (RowsOwn.nil _ _) p 0 c rows rfl hR (Below.refl _ _) (Nat.le_refl _) (by omega) (Nat.le_refl _) ?_); intro q1 c1 w1 ho1 hb1; rw [List.nil_append, Nat.zero_add] at ho1)
    go_ret
    exact ⟨q1, c1, rfl, ho1, hb1⟩
  | succ n ih =>
    intro p N c rows w hNn hR hs hB hM hK
    by_cases h2 : N < 2
    · have hv : sortV ks width rows = rows := sort_few ks width (by rw [hR.1]; omega)
      rw [hv]
      have b2 : decide ((N : Int) < 2) = true := by simp; omega
      replace hv := Lib.hid hv
      replace hB := Lib.hid hB
      replace hM := Lib.hid hM
      go_enter Tryz.func10, Tryz.ntmps10
      go_wp2_with (at_builtin; go_must (refine wpList_appendRows (w0 := w) rfl _ _ rfl w.heap.size none 0 0 [] rfl (RowsOwn.nil _ _) p N c rows rfl hR (Below.refl _ _) (Nat.le_refl _) (by omega) (Nat.le_refl _) ?_); intro q1 c1 w1 ho1 hb1; rw [List.nil_append, Nat.zero_add] at ho1)
      go_ret
      exact ⟨q1, c1, rfl, ho1, hb1⟩
    · have hNl : N ≤ 8388608 := by rw [← hR.1]; exact hB.1
      obtain ⟨_, b, off, _, _, _, rfl, _⟩ := hR.at (k := 0) (by omega)
      obtain ⟨H, hH⟩ : ∃ H, N / 2 = H := ⟨_, rfl⟩
      have b2 : decide ((N : Int) < 2) = false := by simp; omega
      have hq : IntKind.i64.wrap (Int.tdiv (N : Int) 2) = (H : Int) := by rw [IntWalk.i64_quo _ _ (by omega)]; omega
      have hc := hs.1
      have k0 : (0 : Int) ≤ (N : Int) / 2 := by omega
      have k1 : (N : Int) / 2 ≤ (c : Int) := by omega
      have k2 : (N : Int) / 2 ≤ (N : Int) := by omega
      have k3 : N / 2 ≤ c := by omega
      have k4 : N / 2 ≤ N := by omega
      have k5 : ¬ c = N / 2 := by omega
      have k6 : ((N : Int) / 2).toNat = N / 2 := by omega
      have j0 : (0 : Int) ≤ (H : Int) := by omega
      have j1 : (H : Int) ≤ (c : Int) := by omega
      have j2 : (H : Int) ≤ (N : Int) := by omega
      have j3 : H ≤ c := by omega
      have j4 : H ≤ N := by omega
      have j5 : ¬ c = H := by omega
      have j6 : ¬ c = 0 := by omega
      have hHn : H ≤ n := by omega
      have hMn : N - H ≤ n := by omega
      have hR1 := rows_take hR j4
      have hR2 := rows_drop hR j4
      have hB1 : RowsB (rows.take H) := ⟨Nat.le_trans (by rw [List.length_take]; exact Nat.min_le_right _ _) hB.1, fun r hr => hB.2 r (List.mem_of_mem_take hr)⟩
      have hB2 : RowsB (rows.drop H) := ⟨Nat.le_trans (by rw [List.length_drop]; exact Nat.sub_le _ _) hB.1, fun r hr => hB.2 r (List.mem_of_mem_drop hr)⟩
      have hM1 : ∀ r ∈ rows.take H, mayRow r := fun r hr => hM r (List.mem_of_mem_take hr)
      have hM2 : ∀ r ∈ rows.drop H, mayRow r := fun r hr => hM r (List.mem_of_mem_drop hr)
      have hv := sort_halves ks width hM H
      rw [← hv]
      obtain ⟨A, hA⟩ : ∃ A, sortV ks width (rows.take H) = A := ⟨_, rfl⟩
      obtain ⟨B, hBB⟩ : ∃ B, sortV ks width (rows.drop H) = B := ⟨_, rfl⟩
      have hAB : RowsB A := by rw [← hA]; exact sort_b hB1
      have hBb : RowsB B := by rw [← hBB]; exact sort_b hB2
      have ih1 : ∀ w', Below w.heap.size w w' → Calls Tryz.prog 10 #[.slice (some ⟨b, off, none⟩) (N / 2) c, .slice sk KN kc, .int .i64 width] w' (RowsP H A w') := by
        intro w' hb
        have := ih (some ⟨b, off, none⟩) H c (rows.take H) w' hHn (hR1.below hb) ⟨j3, fun h => by cases h⟩ hB1 hM1 (hK.below hb)
        rw [hA] at this
        rw [hH]
        exact this
      have ih2 : ∀ w', Below w.heap.size w w' → Calls Tryz.prog 10 #[.slice (some ⟨b, off + N / 2, none⟩) (N - N / 2) (c - N / 2), .slice sk KN kc, .int .i64 width] w' (RowsP (N - H) B w') := by
        intro w' hb
        have := ih (some ⟨b, off + H, none⟩) (N - H) (c - H) (rows.drop H) w' hMn (hR2.below hb) ⟨by omega, fun h => by cases h⟩ hB2 hM2 (hK.below hb)
        rw [hBB] at this
        rw [hH]
        exact this
      rw [hA, hBB]
      obtain ⟨M, hMM⟩ : ∃ M, N - H = M := ⟨_, rfl⟩
      rw [hMM] at ih2
      have hNHM : H + M = N := by omega
      replace hH := Lib.hid hH
      replace hA := Lib.hid hA
      replace hBB := Lib.hid hBB
      replace hv := Lib.hid hv
      replace hB := Lib.hid hB
      replace hM := Lib.hid hM
      replace hAB := Lib.hid hAB
      replace hBb := Lib.hid hBb
      replace hNHM := Lib.hid hNHM
      clear ih hR1 hR2 hB1 hB2 hM1 hM2 h2 hNn
      go_enter Tryz.func10, Tryz.ntmps10
      have tok1 : True := trivial
      go_wp2_with (first
        | (go_at_call_of 10 (some (⟨b, off, none⟩ : Addr)); refine (ih1 _ (Below.refl _ _)).mono ?_; rintro e w1 ⟨q1, c1, rfl, ho1, hb1⟩)
        | (go_at_call 10; refine (ih2 _ hb1).mono ?_; rintro e w2 ⟨q2, c2, rfl, ho2, hb2⟩))
      have hA1 : RowsAt w2 q1 H A := ho1.rows.below hb2
      have hB2 : RowsAt w2 q2 M B := ho2.rows
      have b12 := hb1.trans (hb2.mono hb1.size)
      have hK2 := hK.below b12
      have hMN : M ≤ N := by have := hNHM.out; omega
      have hHMN : H + M ≤ 8388608 := by have := hNHM.out; omega
      have hRl := hR.1
      replace hRl := hRl
      clear ih1 ih2 ho1 ho2 hb1 hb2 hR hK hs k0 k1 k2 k3 k4 k5 k6 j0 j1 j2 j3 j5 j6 hHn hMn hq hMM hc
      go_loopw [7, 10, 11] (fun ov iv jv wr => ∃ (q : Option Addr) (n co i j : Nat) (O : List (List Val.V)), ov = .slice q n co ∧ iv = .int .i64 (i : Int) ∧ jv = .int .i64 (j : Int) ∧ i ≤ H ∧ j ≤ M ∧ n ≤ i + j ∧ RowsOwn wr w2.heap.size (.slice q n co) n O ∧ Hid (O ++ mergeR (ltV ks width) (A.drop i) (B.drop j) = mergeR (ltV ks width) A B) ∧ Below w2.heap.size w2 wr) (fun _ iv jv _ => (H - (intOf iv).toNat) + (M - (intOf jv).toNat))
      case atStart => exact ⟨none, 0, 0, 0, 0, [], rfl, by go_num, by go_num, by omega, by omega, by omega, RowsOwn.nil _ _, Lib.hid rfl, Below.refl _ _⟩
      case round =>
        obtain ⟨q, n, co, i, j, O, rfl, rfl, rfl, hiH0, hjM0, hnij, hrow, hO, hb⟩ := hrel
        by_cases hi : i < H
        · by_cases hj : j < M
          · obtain ⟨x, b1, off1, qx, cx, hx, rfl, hbl1, kx0, hsx, hvx⟩ := hA1.at hi
            have kx : wr.cell? ⟨b1, off1 + i, none⟩ = some (.slice qx x.length cx) := (hb.cell (p := ⟨b1, _, none⟩) hbl1).trans kx0
            have hdx := drop_step hx
            have i0 : (0 : Int) ≤ (i : Int) := by omega
            have i1 : (i : Int) < (H : Int) := by omega
            have ei : ((i : Int) == (H : Int)) = false := by simp; omega
            have hiB : decide ((i : Int) < (H : Int)) = true := by simp; omega
            obtain ⟨y, b2, off2, qy, cy, hy, rfl, hbl2, ky0, hsy, hvy⟩ := hB2.at hj
            have ky : wr.cell? ⟨b2, off2 + j, none⟩ = some (.slice qy y.length cy) := (hb.cell (p := ⟨b2, _, none⟩) hbl2).trans ky0
            have hdy := drop_step hy
            have g0 : (0 : Int) ≤ (j : Int) := by omega
            have g1 : (j : Int) < (M : Int) := by omega
            have hjB : decide ((j : Int) < (M : Int)) = true := by simp; omega
            have elx := ElAt.old (W := wr) (base := w2.heap.size) (n := n) (v := .slice q n co) hvx hb hsx (fun m hm => (hrow.le m hm).1)
            have ely := ElAt.old (W := wr) (base := w2.heap.size) (n := n) (v := .slice q n co) hvy hb hsy (fun m hm => (hrow.le m hm).1)
            obtain ⟨r, hr⟩ : ∃ r, standV ks width y x = r := ⟨_, rfl⟩
            have hlt : ltV ks width y x = decide (r < 0) := by rw [← hr]; rfl
            have bx := hAB.out.2 x (List.mem_of_getElem? hx)
            have bY := hBb.out.2 y (List.mem_of_getElem? hy)
            have hst : StandOk wr qy y.length cy qx x.length cx sk KN kc width r := ⟨fun W hW => stand_is qy y.length cy qx x.length cx y x sk KN kc ks width W ((hvy.below hb).below hW) ((hvx.below hb).below hW) ((hK2.below hb).below hW) bY.1 bx.1 hKN bY.2 bx.2 r (Lib.hid hr)⟩
            have H0 : wr.cell? ⟨b2, off2 + j, none⟩ = some (.slice qy y.length cy) ∧ wr.cell? ⟨b1, off1 + i, none⟩ = some (.slice qx x.length cx) ∧ Below wr.heap.size wr wr := ⟨ky, kx, Below.refl _ _⟩
            have l1 : b1 < wr.heap.size := Nat.lt_of_lt_of_le hbl1 hb.size
            have l2 : b2 < wr.heap.size := Nat.lt_of_lt_of_le hbl2 hb.size
            replace hdx := Lib.hid hdx
            replace hdy := Lib.hid hdy
            clear bx bY hr kx0 ky0 hvx hvy hsx hsy hx hy kx ky
            cases hd : decide (r < 0) with
            | true =>
              have hn := of_decide_eq_true hd
              rw [hd] at hlt
              have hnew : (O ++ [y]) ++ mergeR (ltV ks width) (A.drop i) (B.drop (j + 1)) = mergeR (ltV ks width) A B := by
                rw [← hO.out, hdx.out, hdy.out, Stb.mergeR_yes _ _ hlt, List.append_assoc]
                rfl
              replace hnew := Lib.hid hnew
              replace hlt := Lib.hid hlt
              clear hO
              go_wp2_with fail
              go_region_held3 (fun W => W.cell? ⟨b2, off2 + j, none⟩ = some (.slice qy y.length cy) ∧ W.cell? ⟨b1, off1 + i, none⟩ = some (.slice qx x.length cx) ∧ Below wr.heap.size wr W) (first | assumption | exact keepC2 l2 l1 (by assumption) (by assumption) | exact keepC20 (by assumption)) (first
                | (go_at_call 33; have hSS := (by assumption : _ ∧ _ ∧ Below wr.heap.size wr _); refine (hst.on _ hSS.2.2).mono ?_; rintro e w3 ⟨rfl, hb3⟩; clear hSS))
              rename_i hS3
              obtain ⟨ky3, kx3, hb3⟩ := hS3
              have hrow3 := hrow.below hb3
              have hel3 := ely.below hb3
              clear hst
              go_wp2_with (at_builtin; go_must (refine wpList_pushRow rfl rfl _ _ rfl w2.heap.size (.slice q n co) n O rfl hrow3 _ y hel3 rfl (by omega) (Nat.le_trans hb.size hb3.size) ?_); intro q4 c4 w4 hown4 hb4 hg4)
              go_roundw
              case rel => exact ⟨q4, n + 1, c4, i, j + 1, O ++ [y], rfl, by go_num, by go_num, by omega, by omega, by omega, hown4, hnew, (hb.trans (hb3.mono hb.size)).trans hb4⟩
              case measure => simp [intOf]; omega
            | false =>
              have hn := of_decide_eq_false hd
              rw [hd] at hlt
              have hnew : (O ++ [x]) ++ mergeR (ltV ks width) (A.drop (i + 1)) (B.drop j) = mergeR (ltV ks width) A B := by
                rw [← hO.out, hdx.out, hdy.out, Stb.mergeR_no _ _ hlt, List.append_assoc]
                rfl
              replace hnew := Lib.hid hnew
              replace hlt := Lib.hid hlt
              clear hO
              go_wp2_with fail
              go_region_held3 (fun W => W.cell? ⟨b2, off2 + j, none⟩ = some (.slice qy y.length cy) ∧ W.cell? ⟨b1, off1 + i, none⟩ = some (.slice qx x.length cx) ∧ Below wr.heap.size wr W) (first | assumption | exact keepC2 l2 l1 (by assumption) (by assumption) | exact keepC20 (by assumption)) (first
                | (go_at_call 33; have hSS := (by assumption : _ ∧ _ ∧ Below wr.heap.size wr _); refine (hst.on _ hSS.2.2).mono ?_; rintro e w3 ⟨rfl, hb3⟩; clear hSS))
              rename_i hS3
              obtain ⟨ky3, kx3, hb3⟩ := hS3
              have hrow3 := hrow.below hb3
              have hel3 := elx.below hb3
              clear hst
              go_wp2_with (at_builtin; go_must (refine wpList_pushRow rfl rfl _ _ rfl w2.heap.size (.slice q n co) n O rfl hrow3 _ x hel3 rfl (by omega) (Nat.le_trans hb.size hb3.size) ?_); intro q4 c4 w4 hown4 hb4 hg4)
              go_roundw
              case rel => exact ⟨q4, n + 1, c4, i + 1, j, O ++ [x], rfl, by go_num, by go_num, by omega, by omega, by omega, hown4, hnew, (hb.trans (hb3.mono hb.size)).trans hb4⟩
              case measure => simp [intOf]; omega
          · have hjM : j = M := by omega
            have hjB : decide ((j : Int) < (M : Int)) = false := by simp; omega
            have hdy : B.drop j = [] := List.drop_of_length_le (by rw [hB2.1]; omega)
            obtain ⟨x, b1, off1, qx, cx, hx, rfl, hbl1, kx0, hsx, hvx⟩ := hA1.at hi
            have kx : wr.cell? ⟨b1, off1 + i, none⟩ = some (.slice qx x.length cx) := (hb.cell (p := ⟨b1, _, none⟩) hbl1).trans kx0
            have hdx := drop_step hx
            have i0 : (0 : Int) ≤ (i : Int) := by omega
            have i1 : (i : Int) < (H : Int) := by omega
            have ei : ((i : Int) == (H : Int)) = false := by simp; omega
            have hiB : decide ((i : Int) < (H : Int)) = true := by simp; omega
            have hel := ElAt.old (W := wr) (base := w2.heap.size) (n := n) (v := .slice q n co) hvx hb hsx (fun m hm => (hrow.le m hm).1)
            have hnew : (O ++ [x]) ++ mergeR (ltV ks width) (A.drop (i + 1)) (B.drop j) = mergeR (ltV ks width) A B := by
              rw [← hO.out, hdx, hdy, Stb.mergeR_nil', Stb.mergeR_nil', List.append_assoc]
              rfl
            have l1 : b1 < wr.heap.size := Nat.lt_of_lt_of_le hbl1 hb.size
            replace hnew := Lib.hid hnew
            replace hjM := Lib.hid hjM
            clear hdx hdy hO hx kx0 hsx hvx
            go_wp2_with fail
            go_quiet (fail)
            have hb3 := below_drewN (Below.refl wr.heap.size wr) nq
            have hrow3 := hrow.below hb3
            have hel3 := hel.below hb3
            have hk3 := (hb3.cell (p := ⟨b1, off1 + i, none⟩) l1).trans kx
            have hs3 := hb3.size
            generalize wr.drewN nq = W3 at hb3 hrow3 hel3 hk3 hs3 ⊢
            go_wp2_with (at_builtin; go_must (refine wpList_pushRow rfl rfl _ _ rfl w2.heap.size (.slice q n co) n O rfl hrow3 _ x hel3 rfl (by omega) (Nat.le_trans hb.size hb3.size) ?_); intro q4 c4 w4 hown4 hb4 hg4)
            go_roundw
            case rel => exact ⟨q4, n + 1, c4, i + 1, j, O ++ [x], rfl, by go_num, by go_num, by omega, by omega, by omega, hown4, hnew, (hb.trans (hb3.mono hb.size)).trans hb4⟩
            case measure => simp [intOf]; omega
        · by_cases hj : j < M
          · have hiH : i = H := by omega
            have ei : ((i : Int) == (H : Int)) = true := by simp; omega
            have hiB : decide ((i : Int) < (H : Int)) = false := by simp; omega
            have hdx : A.drop i = [] := List.drop_of_length_le (by rw [hA1.1]; omega)
            obtain ⟨y, b2, off2, qy, cy, hy, rfl, hbl2, ky0, hsy, hvy⟩ := hB2.at hj
            have ky : wr.cell? ⟨b2, off2 + j, none⟩ = some (.slice qy y.length cy) := (hb.cell (p := ⟨b2, _, none⟩) hbl2).trans ky0
            have hdy := drop_step hy
            have g0 : (0 : Int) ≤ (j : Int) := by omega
            have g1 : (j : Int) < (M : Int) := by omega
            have hjB : decide ((j : Int) < (M : Int)) = true := by simp; omega
            have hel := ElAt.old (W := wr) (base := w2.heap.size) (n := n) (v := .slice q n co) hvy hb hsy (fun m hm => (hrow.le m hm).1)
            have hnew : (O ++ [y]) ++ mergeR (ltV ks width) (A.drop i) (B.drop (j + 1)) = mergeR (ltV ks width) A B := by
              rw [← hO.out, hdx, hdy, Stb.mergeR_nil, Stb.mergeR_nil, List.append_assoc]
              rfl
            have l2 : b2 < wr.heap.size := Nat.lt_of_lt_of_le hbl2 hb.size
            replace hnew := Lib.hid hnew
            replace hiH := Lib.hid hiH
            clear hdx hdy hO hy ky0 hsy hvy
            go_wp2_with fail
            go_quiet (fail)
            have hb3 := below_drewN (Below.refl wr.heap.size wr) nq
            have hrow3 := hrow.below hb3
            have hel3 := hel.below hb3
            have hk3 := (hb3.cell (p := ⟨b2, off2 + j, none⟩) l2).trans ky
            have hs3 := hb3.size
            generalize wr.drewN nq = W3 at hb3 hrow3 hel3 hk3 hs3 ⊢
            go_wp2_with (at_builtin; go_must (refine wpList_pushRow rfl rfl _ _ rfl w2.heap.size (.slice q n co) n O rfl hrow3 _ y hel3 rfl (by omega) (Nat.le_trans hb.size hb3.size) ?_); intro q4 c4 w4 hown4 hb4 hg4)
            go_roundw
            case rel => exact ⟨q4, n + 1, c4, i, j + 1, O ++ [y], rfl, by go_num, by go_num, by omega, by omega, by omega, hown4, hnew, (hb.trans (hb3.mono hb.size)).trans hb4⟩
            case measure => simp [intOf]; omega
          · have hiB : decide ((i : Int) < (H : Int)) = false := by simp; omega
            have hjB : decide ((j : Int) < (M : Int)) = false := by simp; omega
            have hfin := hO.out
            rw [List.drop_of_length_le (by rw [hA1.1]; omega), List.drop_of_length_le (by rw [hB2.1]; omega), Stb.mergeR_nil, List.append_nil] at hfin
            have hl : n = N := by
              obtain ⟨_, _, _, h3, _⟩ := id hrow
              have e1 := sort_len ks width rows
              rw [← hv.out, hA.out, hBB.out, ← hfin, h3] at e1
              rw [e1]
              exact hRl
            subst hfin
            subst hl
            replace hO := Lib.hid hO.out
            go_wp2
            go_ret
            exact ⟨q, co, rfl, rowsOwn_base hrow b12.size, b12.trans (hb.mono b12.size)⟩
end Go.Proofs.YtdapnemcdgjeeaaGreatDoor
