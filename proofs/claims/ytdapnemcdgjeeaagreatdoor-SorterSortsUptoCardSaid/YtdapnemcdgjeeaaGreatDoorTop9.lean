/- Walks: Top (package sorter). -/
import Derived.Test.YtdapnemcdgjeeaaGreatDoorTop8
import Derived.Test.YtdapnemcdgjeeaaGreatDoorPdqB
import Derived.Deep.CutBlock
set_option maxRecDepth 100000
set_option linter.unusedVariables false
set_option linter.unusedSimpArgs false
namespace Go.Proofs.YtdapnemcdgjeeaaGreatDoor
open Go.RowKit Go.Deep
open Go.Proofs.YtdapnemcdgjeeaaGreatDoor.Stb (swap seg Heap SWO Best isort)
open Go.Proofs.YtdapnemcdgjeeaaGreatDoor.Ord (standV mayRow)
open Go.Proofs.YtdapnemcdgjeeaaGreatDoor.Tp (ltI cfI ltI_swo ltI_apart cfI_neg ltR' top_rows)
open Go.Sort (PermIn SortedIn)

/-- what Top answers -/
def TopP (rows : List (List Val.V)) (w : World) (e : Ending) (w' : World) : Prop :=
  ∃ q m c, e = .returned (.slice q m c) ∧ RowsAt w' q m rows ∧ Below w.heap.size w w'

theorem hinsertion_nil (c : Nat) (fv : Value) (w : World) : Calls Tryz.prog 93 #[.slice none 0 c, .int .i64 0, .int .i64 0, fv] w fun e w' => e = .returned (.tuple #[]) ∧ w' = w := by
  go_enter Tryz.func93, Tryz.ntmps93
  go_wp2
  refine wp_loop_rounds 1 ?_
  rw [rounds_succ]
  go_wp2
  go_end0
  exact ⟨rfl, rfl⟩
theorem hpdq_nil (c : Nat) (fv : Value) (w : World) : Calls Tryz.prog 71 #[.slice none 0 c, .int .i64 0, .int .i64 0, .int .i64 0, fv] w fun e w' => e = .returned (.tuple #[]) ∧ w' = w := by
  go_enter Tryz.func71, Tryz.ntmps71
  go_wp2
  refine wp_loop_rounds 1 ?_
  rw [rounds_succ]
  go_wp2_with (go_at_call 93; refine (hinsertion_nil c fv _).mono ?_; rintro e w1 ⟨rfl, rfl⟩)
  refine bodyPost_ret (v := .tuple #[]) (by simp only [results, Tryz.results71]; go_simp) rfl ?_
  exact ⟨rfl, rfl⟩
theorem hsort_nil (c : Nat) (fv : Value) (w : World) : Calls Tryz.prog 41 #[.slice none 0 c, fv] w fun e w' => e = .returned (.tuple #[]) ∧ w' = w := by
  have hLen : ∀ w, Calls Tryz.prog 72 #[.int .u64 0] w fun e w' => e = .returned (.int .i64 0) ∧ w' = w := fun w => Tryz.bits_Len 0 w (by omega) (by omega)
  go_enter Tryz.func41, Tryz.ntmps41
  go_wp2_with (first
    | (go_at_call 72; refine (hLen _).mono ?_; rintro e w' ⟨rfl, rfl⟩)
    | (go_at_call 71; refine (hpdq_nil c fv _).mono ?_; rintro e w6 ⟨rfl, rfl⟩))
  go_end0
  exact ⟨rfl, rfl⟩

/-- fewer than one are asked for -/
theorem top_few (p : Option Addr) (N c : Nat) (sk : Option Addr) (KN kc : Nat) (width n : Int) (w : World) (hn : ¬ 1 ≤ n) :
    Calls Tryz.prog 13 #[.slice p N c, .slice sk KN kc, .int .i64 width, .int .i64 n] w fun e w' => e = .returned (.slice none 0 0) ∧ w' = w := by
  have hG : decide (n < 1) = true := by simp; omega
  go_enter Tryz.func13, Tryz.ntmps13
  go_wp2
  go_ret
  exact ⟨rfl, rfl⟩
set_option maxHeartbeats 1000000 in
/-- there are no rows -/
theorem top_none (p : Option Addr) (c : Nat) (sk : Option Addr) (KN kc : Nat) (width n : Int) (w : World) (hn : 1 ≤ n) :
    Calls Tryz.prog 13 #[.slice p 0 c, .slice sk KN kc, .int .i64 width, .int .i64 n] w fun e w' => e = .returned (.slice none 0 0) ∧ Below w.heap.size w w' := by
  have hG : decide (n < 1) = false := by simp; omega
  go_enter Tryz.func13, Tryz.ntmps13
  go_wp2_with (go_at_call 37; refine (order_call sk KN kc width _).mono ?_; rintro e w1 ⟨rfl, hw1⟩; replace hw1 := Lib.hid hw1)
  refine wp_loop_rounds 1 ?_
  rw [rounds_succ]
  have hB := Blk.new w1 74 #[.slice none 0 0, .func (.func 64) #[] #[.pointer (some ⟨w.heap.size, 0, none⟩), .pointer (some ⟨w.heap.size + 1, 0, none⟩)]]
  have h0 := hB.cell 0
  have hb1 : Below w.heap.size w w1 := by rw [hw1.out]; exact ((Below.refl _ _).alloc (Nat.le_refl _) _).alloc (by simp) _
  have hb2 := newB w1 (.cells #[.slice none 0 0, .func (.func 64) #[] #[.pointer (some ⟨w.heap.size, 0, none⟩), .pointer (some ⟨w.heap.size + 1, 0, none⟩)]] 74)
  have hb3 := hb1.trans (hb2.mono hb1.size)
  obtain ⟨W2, hW2⟩ : ∃ W2, w1.alloc (.cells #[.slice none 0 0, .func (.func 64) #[] #[.pointer (some ⟨w.heap.size, 0, none⟩), .pointer (some ⟨w.heap.size + 1, 0, none⟩)]] 74) = W2 := ⟨_, rfl⟩
  rw [hW2] at h0 hb3 ⊢
  replace hW2 := Lib.hid hW2
  simp only [List.getElem?_toArray, List.getElem?_cons_zero] at h0
  clear hb1 hb2 hB
  go_wp2_with (go_at_call 41; refine (hsort_nil _ _ _).mono ?_; rintro e w5 ⟨rfl, rfl⟩)
  refine wp_loop_rounds 1 ?_
  rw [rounds_succ]
  go_wp2
  go_ret
  exact ⟨rfl, hb3⟩
/-- the slot of the heap behind the sort -/
theorem keep_far {W0 W : World} {g b o : Nat} {x : Value} (hG : W0.grownBy W (some g)) (hl : b < W0.heap.size) (hne : g ≠ b) (h : W0.cell? ⟨b, o, none⟩ = some x) : W.cell? ⟨b, o, none⟩ = some x :=
  (hG.cell_far ⟨b, o, none⟩ hl (fun e => hne (by injection e with e; exact e.symm))).trans h
/-- what is held in a round of Top -/
structure HeldOk (ks : List Ord.Key) (width : Int) (rows : List (List Val.V)) (n N i m : Nat) (f : Nat → Nat) : Prop where
  heap : Heap (ltC (cfI ks width (rowF rows))) f m
  best : Best (ltI ks width (rowF rows)) n (List.range i) (seg f 0 m)
  lt : ∀ k, k < m → f k < N
theorem HeldOk.push {ks : List Ord.Key} {width : Int} {rows : List (List Val.V)} {n N i m : Nat} {f f1 : Nat → Nat} (h : HeldOk ks width rows n N i m f) (hl : m < n) (hh : Heap (ltC (cfI ks width (rowF rows))) f1 (m + 1)) (hp : (seg f1 0 (m + 1)).Perm (seg f 0 m ++ [i])) (hf : ∀ k, k < m + 1 → f1 k < N) :
    HeldOk ks width rows n N (i + 1) (m + 1) f1 := ⟨hh, best_in h.best hl hp, hf⟩
theorem HeldOk.pop {ks : List Ord.Key} {width : Int} {rows : List (List Val.V)} (hM : ∀ r ∈ rows, mayRow r) {n N i m : Nat} {f f1 f2 : Nat → Nat} (h : HeldOk ks width rows n N i m f) (hl : m = n) (hh : Heap (ltC (cfI ks width (rowF rows))) f1 (m + 1)) (hp : (seg f1 0 (m + 1)).Perm (seg f 0 m ++ [i]))
    (hh2 : Heap (ltC (cfI ks width (rowF rows))) f2 m) (hp2 : (seg f2 0 m ++ [f1 0]).Perm (seg f1 0 (m + 1))) (hf : ∀ k, k < m → f2 k < N) : HeldOk ks width rows n N (i + 1) m f2 :=
  ⟨hh2, best_out (ltI_swo ks width (rowF_may hM)) (ltI_apart ks width (rowF_may hM)) h.best hl hp hh hp2, hf⟩
theorem HeldOk.len {ks : List Ord.Key} {width : Int} {rows : List (List Val.V)} {n N i m : Nat} {f : Nat → Nat} (h : HeldOk ks width rows n N i m f) : m ≤ n := by have := h.best.len; rw [seg_len] at this; exact this
/-- the rows that were sorted, in memory -/
structure OutAt (W : World) (g m N : Nat) (rv : Nat → Value) (d : Array Nat) : Prop where
  cell : ∀ k, k < m → W.cell? ⟨g, k * 2, none⟩ = some (rv d[k]!) ∧ W.cell? ⟨g, k * 2 + 1, none⟩ = some (.int .i64 (d[k]! : Int))
  memb : ∀ k, k < m → d[k]! < N
  lt : g < W.heap.size
set_option maxHeartbeats 4000000 in
theorem top_go (p : Option Addr) (N c : Nat) (rows : List (List Val.V)) (sk : Option Addr) (KN kc : Nat) (ks : List Ord.Key) (width n : Int) (w : World) (hR : RowsAt w p N rows) (hB : RowsB rows) (hM : ∀ r ∈ rows, mayRow r) (hK : KeysAt w sk KN ks) (hKN : KN ≤ 1048576) (hN : N ≤ 1048576) (hn : 1 ≤ n) (hN0 : 0 < N) :
    Calls Tryz.prog 13 #[.slice p N c, .slice sk KN kc, .int .i64 width, .int .i64 n] w (TopP ((sortV ks width rows).take n.toNat) w) := by
  have hG : decide (n < 1) = false := by simp; omega
  obtain ⟨rv, hV⟩ := rv_ok hR
  obtain ⟨nn, hnn⟩ : ∃ nn : Nat, n = (nn : Int) := ⟨n.toNat, by omega⟩
  subst hnn
  have hlen : rows.length = N := hR.1
  rw [Int.toNat_natCast]
  replace hR := Lib.hid hR
  replace hB := Lib.hid hB
  replace hM := Lib.hid hM
  replace hV := Lib.hid hV
  replace hlen := Lib.hid hlen
  go_enter Tryz.func13, Tryz.ntmps13
  go_wp2_with (go_at_call 37; refine (order_call sk KN kc width _).mono ?_; rintro e w1 ⟨rfl, hw1⟩; replace hw1 := Lib.hid hw1)
  have hb1 : Below w.heap.size w w1 := by rw [hw1.out]; exact ((Below.refl _ _).alloc (Nat.le_refl _) _).alloc (by simp) _
  have hs1 : w1.heap.size = w.heap.size + 2 := by rw [hw1.out]; simp
  have hO : OrdOk w1 N rv w.heap.size (w.heap.size + 1) (fun k j => standV ks width (rowF rows k) (rowF rows j)) :=
    ord_ok hV.out hB.out hb1 sk KN kc ks width _ _ (hK.below hb1) hKN (by rw [hw1.out]; exact cell_of_row _ _ _ _ _ _ (heap_new1 _ _ _)) (by rw [hw1.out]; exact cell_of_row _ _ _ _ _ _ (heap_new2 _ _ _)) (by omega) (by omega)
  have hT := top_ok (b := w1.heap.size) ks width hV.out.sl hM.out hO (Nat.le_refl _)
  have hA := heap_nil w1 rv (ordF w.heap.size (w.heap.size + 1))
  have hb2 := newB w1 (.cells #[.slice none 0 0, ordF w.heap.size (w.heap.size + 1)] 74)
  obtain ⟨F, hF⟩ : ∃ F, ordF w.heap.size (w.heap.size + 1) = F := ⟨_, rfl⟩
  have hF2 : (.func (.func 64) #[] #[.pointer (some ⟨w.heap.size, 0, none⟩), .pointer (some ⟨w.heap.size + 1, 0, none⟩)] : Value) = F := hF
  rw [hF] at hT hA hb2
  rw [hF2]
  obtain ⟨W2, hW2⟩ : ∃ W2, w1.alloc (.cells #[.slice none 0 0, F] 74) = W2 := ⟨_, rfl⟩
  rw [hW2] at hA hb2 ⊢
  obtain ⟨b, hbe⟩ : ∃ b, w1.heap.size = b := ⟨_, rfl⟩
  rw [hbe] at hT ⊢
  have hA' : WAt W2 w1.heap.size rv F b 0 (fun _ => 0) := by rw [← hbe]; exact hA
  have hst : HeldOk ks width rows nn N 0 0 (fun _ => 0) := ⟨fun _ _ _ => by omega, Best.nil _ _, fun k hk => by omega⟩
  replace hbe := Lib.hid hbe
  replace hW2 := Lib.hid hW2
  replace hF := Lib.hid hF
  replace hT := Lib.hid hT
  replace hst := Lib.hid hst
  replace hs1 := Lib.hid hs1
  clear hO hA hF2
  go_loopw [24] (fun iv wr => ∃ (i m : Nat) (f : Nat → Nat), iv = .int .i64 (i : Int) ∧ i ≤ N ∧ m ≤ i ∧ WAt wr w1.heap.size rv F b m f ∧ Hid (HeldOk ks width rows nn N i m f) ∧ Below w1.heap.size w1 wr) (fun iv _ => N - (intOf iv).toNat)
  case atStart => exact ⟨0, 0, fun _ => 0, by first | rfl | go_num, by omega, by omega, hA', hst, hb2⟩
  case round =>
    clear hA' hst hb2 hW2
    obtain ⟨i, m, f, rfl, hi, hmi, hA, hH, hb⟩ := hrel
    by_cases hlt : i < N
    · have hlB : decide ((i : Int) < (N : Int)) = true := by simp; omega
      obtain ⟨⟨bp, off, rfl, hbl, hc0⟩, q1, c1, hrv, _, _, _⟩ := hV.out.at_ i hlt
      have hcell : wr.cell? ⟨bp, off + i, none⟩ = some (.slice q1 (rowF rows i).length c1) := ((hb1.trans (hb.mono hb1.size)).cell (p := ⟨bp, off + i, none⟩) hbl).trans (by rw [hc0, hrv])
      have i0 : (0 : Int) ≤ (i : Int) := by omega
      have i1 : (i : Int) < (N : Int) := by omega
      have hP := hpush_is w1 N b m i wr rv F f _ hT.out hA hH.out.heap (by omega) hH.out.lt hlt hb
      rw [hrv] at hP
      have hmn := hH.out.len
      have hPop := fun (f1 : Nat → Nat) (W' : World) (h1 : WAt W' w1.heap.size rv F b (m + 1) f1) (h2 : Heap (ltC (cfI ks width (rowF rows))) f1 (m + 1)) (h3 : ∀ k, k < m + 1 → f1 k < N) (h4 : Below w1.heap.size w1 W') (h5 : 0 < m) => hpop_is w1 N b m W' rv F f1 _ hT.out h1 h2 h5 (by omega) h3 h4
      have hmm : ((m + 1 : Nat) : Int) = (m : Int) + 1 := by omega
      replace hrv := Lib.hid hrv
      clear hc0
      by_cases hfull : nn < m + 1
      · have hG2 : decide (((m + 1 : Nat) : Int) > (nn : Int)) = true := by simp; omega
        have hG3 : decide ((m : Int) + 1 > (nn : Int)) = true := by simp; omega
        have hm0 : 0 < m := by omega
        go_wp2_with (first
          | (go_at_call 38; refine hP.mono ?_; rintro e w2 ⟨rfl, f1, hA1, hh1, hp1, hf1, hb2⟩; replace hh1 := Lib.hid hh1; replace hp1 := Lib.hid hp1; replace hf1 := Lib.hid hf1)
          | (go_at_call 39; refine (len_is b (m + 1) _ w1.heap.size rv F f1 hA1).mono ?_; rintro e w3 ⟨rfl, rfl⟩)
          | (go_at_call 40; refine (hPop f1 _ hA1 hh1.out hf1.out (hb.trans hb2) hm0).mono ?_; rintro e w4 ⟨⟨v4, rfl⟩, f2, hA2, hh2, hp2, hf2, hb4⟩; replace hh2 := Lib.hid hh2; replace hp2 := Lib.hid hp2; replace hf2 := Lib.hid hf2))
        go_roundw
        case rel => exact ⟨i + 1, m, f2, by first | rfl | go_num, by omega, by omega, hA2, Lib.hid (hH.out.pop hM.out (by omega) hh1.out hp1.out hh2.out hp2.out hf2.out), (hb.trans hb2).trans hb4⟩
        case measure => simp [intOf]; omega
      · have hG2 : decide (((m + 1 : Nat) : Int) > (nn : Int)) = false := by simp; omega
        have hG3 : decide ((m : Int) + 1 > (nn : Int)) = false := by simp; omega
        go_wp2_with (first
          | (go_at_call 38; refine hP.mono ?_; rintro e w2 ⟨rfl, f1, hA1, hh1, hp1, hf1, hb2⟩; replace hh1 := Lib.hid hh1; replace hp1 := Lib.hid hp1; replace hf1 := Lib.hid hf1)
          | (go_at_call 39; refine (len_is b (m + 1) _ w1.heap.size rv F f1 hA1).mono ?_; rintro e w3 ⟨rfl, rfl⟩))
        go_roundw
        case rel => exact ⟨i + 1, m + 1, f1, by first | rfl | go_num, by omega, by omega, hA1, Lib.hid (hH.out.push (by omega) hh1.out hp1.out hf1.out), hb.trans hb2⟩
        case measure => simp [intOf]; omega
    · have hlB : decide ((i : Int) < (N : Int)) = false := by simp; omega
      obtain rfl : i = N := by omega
      have hm0 : 0 < m := best_some hH.out.best (by omega) hN0
      obtain ⟨g, cg, hc0, hc1, hbl, hgB, hgb, hRH⟩ := rh_of hA hm0 hV.out.sl hH.out.lt
      have hCmp := cmp_of hT.out.st hb hc1 hbl hgb hgB
      have hSF := Pdq.sortFunc_is rv _ wr g b m i cg (swo_turn (ltI_swo ks width (rowF_may hM.out))) (ltI_apart ks width (rowF_may hM.out)) hCmp (by omega) _ wr hRH (uniq_of hH.out.best)
      clear hCmp hT hc1 hA hRH
      go_upto_region 12 with (go_at_call 41; refine hSF.mono ?_; rintro e w5 ⟨rfl, d, hq5, hp5, hs5⟩)
      have hc5 := keep_far hq5.grown hbl hgb hc0
      have hres := held_sorted ks width (rowF_may hM.out) hH.out.best hp5 hs5
      rw [show (List.range i).map (rowF rows) = rows by rw [← hlen.out]; exact rowF_all rows] at hres
      have hb5 : Below w.heap.size w w5 := below_row (hb1.trans (hb.mono hb1.size)) hq5.grown (Nat.le_trans hb1.size hgB)
      have hOut : OutAt w5 g m i rv d := ⟨hq5.cell, hq5.memb, hq5.lt⟩
      have hdm : d.size = m := hq5.size
      obtain ⟨R, hRe⟩ : ∃ R, d.toList.map (rowF rows) = R := ⟨_, rfl⟩
      rw [hRe] at hres
      have hRl : R.length = m := by rw [← hRe]; simpa using hdm
      have hRk : ∀ k, k < m → R[k]? = some (rowF rows d[k]!) := by
        intro k hk
        rw [← hRe, List.getElem?_map, getElem!_pos d k (by omega)]
        simp [hdm, hk]
      show Code.wp _ _ _ _ _
      replace hres := Lib.hid hres
      replace hRe := Lib.hid hRe
      replace hRl := Lib.hid hRl
      replace hRk := Lib.hid hRk
      clear hSF hq5 hp5 hs5 hH hb hc0 hdm
      go_wp2_with fail
      go_loopw [12, 56] (fun ov iv wr => ∃ (q : Option Addr) (j co : Nat), ov = .slice q j co ∧ iv = .int .i64 (j : Int) ∧ j ≤ m ∧ RowsOwn wr w5.heap.size (.slice q j co) j (R.take j) ∧ Below w5.heap.size w5 wr) (fun _ iv _ => m - (intOf iv).toNat)
      case atStart => exact ⟨none, 0, 0, rfl, by first | rfl | go_num, by omega, RowsOwn.nil _ _, Below.refl _ _⟩
      case round =>
        obtain ⟨q, j, co, rfl, rfl, hj, hrow, hb⟩ := hrel
        by_cases hlt2 : j < m
        · have hlB2 : decide ((j : Int) < (m : Int)) = true := by simp; omega
          obtain ⟨x0, x1⟩ := hOut.cell j hlt2
          obtain ⟨_, q1, c1, hrv, hs, hv, hmem⟩ := hV.out.at_ d[j]! (hOut.memb j hlt2)
          have hk := hRk.out j hlt2
          obtain ⟨r, hr⟩ : ∃ r, rowF rows d[j]! = r := ⟨_, rfl⟩
          obtain ⟨z, hz⟩ : ∃ z : Int, (d[j]! : Int) = z := ⟨_, rfl⟩
          rw [hr] at hrv hs hv hmem hk
          rw [hrv] at x0
          rw [hz] at x1
          have y0 := (hb.cell (p := ⟨g, j * 2, none⟩) hOut.lt).trans x0
          have y1 := (hb.cell (p := ⟨g, j * 2 + 1, none⟩) hOut.lt).trans x1
          have hsn : R.take (j + 1) = R.take j ++ [r] := by rw [List.take_add_one, hk]; rfl
          have hrl := (hB.out.2 r hmem).1
          have hX := hrow.le
          have i0 : (0 : Int) ≤ (j : Int) := by omega
          have i1 : (j : Int) < (m : Int) := by omega
          have hv5 := hv.below hb5
          replace hsn := Lib.hid hsn
          replace hr := Lib.hid hr
          replace hz := Lib.hid hz
          replace hrv := Lib.hid hrv
          replace hk := Lib.hid hk
          clear x0 x1 hv hmem
          have hn7 := newB wr (.cells #[.slice q1 r.length c1, .int .i64 z] 77)
          have hV7 := (Blk.new wr 77 #[.slice q1 r.length c1, .int .i64 z]).cell 0
          simp only [List.getElem?_toArray, List.getElem?_cons_zero] at hV7
          go_upto_region 16 with fail
          obtain ⟨W7, hW7⟩ : ∃ W7, wr.alloc (.cells #[.slice q1 r.length c1, .int .i64 z] 77) = W7 := ⟨_, rfl⟩
          rw [hW7] at hn7 hV7 ⊢
          replace hW7 := Lib.hid hW7
          go_wp2_with (first
            | (go_at_call 43; refine (clone_is q1 r.length c1 r W7 ((hv5.below hb).below hn7) hs hrl).mono ?_; rintro e w8 ⟨q8, c8, rfl, hown8, hb8⟩)
            | (at_builtin; go_must (refine wpList_pushRow rfl rfl _ _ rfl w5.heap.size (.slice q j co) j (R.take j) rfl ((hrow.below hn7).below hb8) _ r (ElAt.own hown8 rfl (fun m hm => Nat.lt_of_lt_of_le (hX m hm).2 hn7.size)) rfl (by omega) (Nat.le_trans (Nat.le_trans hb.size hn7.size) hb8.size) ?_); intro q9 c9 w9 hown9 hb9 _))
          go_roundw
          case rel => exact ⟨q9, j + 1, c9, rfl, by first | rfl | go_num, by omega, by rw [hsn.out]; exact hown9, ((hb.trans (hn7.mono hb.size)).trans (hb8.mono (Nat.le_trans hb.size hn7.size))).trans hb9⟩
          case measure => simp [intOf]; omega
        · have hlB2 : decide ((j : Int) < (m : Int)) = false := by simp; omega
          obtain rfl : j = m := by omega
          rw [List.take_of_length_le (by rw [hRl.out]; exact Nat.le_refl _)] at hrow
          go_wp2
          go_ret
          refine ⟨q, j, co, rfl, ?_, hb5.trans (hb.mono hb5.size)⟩
          have := hrow.rows
          rw [hres.out] at this
          exact this
end Go.Proofs.YtdapnemcdgjeeaaGreatDoor
