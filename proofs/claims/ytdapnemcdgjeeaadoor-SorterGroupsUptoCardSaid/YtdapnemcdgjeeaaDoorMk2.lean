/- Walks: a text put behind owned bytes as Go writes it (strconv.AppendQuote), with room and without. -/
import Derived.Test.YtdapnemcdgjeeaaDoorMk1
import Derived.Laws.CopyOwn
import Derived.Lib.QuoteLoop
import Derived.Laws.DeepStrings4
set_option maxRecDepth 100000
set_option linter.unusedVariables false
set_option linter.unusedSimpArgs false
namespace Go.Proofs.YtdapnemcdgjeeaaDoor
open Go.RowKit Go.Sort

/-- what the library's tables hold -/
structure Tabs (T : Lib.PrintTabs) (w : World) : Prop where
  pow : Lib.TabIs Tryd.prog w "internal/strconv.uint64pow10" .u64 Lib.pow10Tab
  prt : Lib.PrintTabsAt 4 5 6 7 T w
  utf : Lib.Utf8Tabs 2 3 w
theorem Tabs.below {T : Lib.PrintTabs} {w w' : World} (h : Tabs T w) (hb : Below w.heap.size w w') : Tabs T w' := ⟨tab_below h.pow hb, printTabs_below h.prt hb, Utf8Tabs_below h.utf hb⟩
/-- bytes out of numbers -/
def toB (l : List Int) : List UInt8 := l.map fun x => x.toNat.toUInt8
theorem toB_cells : ∀ {l : List Int}, (∀ x ∈ l, 0 ≤ x ∧ x ≤ 255) → Lib.intCells l = bytesC (toB l) := by
  intro l
  induction l with
  | nil => intro _; rfl
  | cons x l ih =>
    intro h
    have hx := h x List.mem_cons_self
    have := ih fun y hy => h y (List.mem_cons_of_mem _ hy)
    simp only [Lib.intCells, bytesC, toB, List.map_cons] at this ⊢
    rw [this]
    congr 2
    have e : x.toNat.toUInt8.toNat = x.toNat := by simp [Nat.toUInt8, UInt8.toNat_ofNat']; omega
    rw [e]; omega
theorem toB_len (l : List Int) : (toB l).length = l.length := by simp [toB]
theorem buf_shape {B n : Nat} {v : Value} {xs : List Value} {W0 w : World} (h : Lib.OwnBuf B 5 v n xs W0 w) : ∃ a c, v = .slice a n c ∧ n ≤ c ∧ c ≤ maxLen ∧ (0 < n → ∃ g, a = some ⟨g, 0, none⟩) := by
  rcases h.1.2 with ⟨rfl, rfl⟩ | ⟨g, cap, cur, fz, rfl, _, _, _, hnc, hcm, _⟩
  · exact ⟨none, 0, rfl, Nat.le_refl _, Nat.zero_le _, fun h => by omega⟩
  · exact ⟨_, cap, rfl, hnc, hcm, fun _ => ⟨g, rfl⟩⟩

def strSz : Value → Nat
  | .string s => s.size
  | _ => 0

set_option maxHeartbeats 4000000 in
theorem quoted_tight (T : Lib.PrintTabs) (a : Option Addr) (n c : Nat) (ys : List UInt8) (s : ByteArray) (W0 w : World) (hb : Lib.OwnBuf W0.heap.size 5 (.slice a n c) n (bytesC ys) W0 w) (hn : ys.length = n) (hc : c ≤ 9223372036854775807) (hnc : n ≤ c) (ha : 0 < n → ∃ g, a = some ⟨g, 0, none⟩)
    (hroom : ¬ n + s.size ≤ c) (hlen : n + 10 * s.size + 12 ≤ 140737488355328) (hT : Tabs T W0) :
    Calls Tryd.prog 46 #[.slice a n c, .string s, .int .u8 34, .bool false, .bool false] w fun e w' => ∃ v', e = .returned v' ∧ Lib.OwnBuf W0.heap.size 5 v' (n + (Lib.quoteZ T s).length) (bytesC ys ++ Lib.intCells (Lib.quoteZ T s)) W0 w' := by
  obtain ⟨i0, hi, hz0, hz1, hz2⟩ := info_parts u8_info
  obtain ⟨m, hm⟩ : ∃ m, m = n + 1 + s.size + 1 := ⟨_, rfl⟩
  have hmk : (Instr.makeSlice 61 (.int .i64 (n : Int)) (.int .i64 ((n : Int) + 1 + (s.size : Int) + 1))).run Tryd.prog w = .ok (.slice (some ⟨w.heap.size, 0, none⟩) n m) (w.alloc (.cells (madeCells #[.int .u8 0] m) 5)) := by
    have := run_make (P := Tryd.prog) w 61 5 i0 (.int .u8 0) Tryd.underlying61 hi hz0 .i64 .i64 (n : Int) ((n : Int) + 1 + (s.size : Int) + 1) (by omega) (by omega) (by rw [hz2]; omega) (by omega)
    rw [this, hz1, Nat.mul_one, show ((n : Int) + 1 + (s.size : Int) + 1).toNat = m by omega]
    rfl
  have hwc : wrap64 ((c : Int) - (n : Int)) = (c : Int) - (n : Int) := by unfold wrap64; omega
  have hroom' : (c : Int) - (n : Int) < (s.size : Int) := by omega
  have hgc : ∀ j x, (bytesC ys)[j]? = some x → ∀ g, a = some ⟨g, 0, none⟩ → w.cell? ((⟨g, 0, none⟩ : Addr).add j) = some x := fun j x hj g hg => hb.1.cells (g := g) (by rw [hg]; rfl) j x hj
  have hB := hb.2.1
  have hBs := hb.2.2
  replace hn := Lib.hid hn
  replace hgc := Lib.hid hgc
  replace hm := Lib.hid hm
  replace ha := Lib.hid ha
  clear hb
  go_enter Tryd.func46, Tryd.ntmps46
  go_upto_region 3 with fail
  go_wp2_with (refine wpList_copy_splice rfl (.tmp 32) (.tmp 33) 61 61 rfl 5 Tryd.underlying61 (by kernel_rfl) (some ⟨w.heap.size, 0, none⟩) a n m n c rfl rfl w.heap.size 0 (madeCells #[.int .u8 0] m).toList 5 ?g1 (bytesC ys) ?g2 ?g3 ?g4 (bytesC_one _) W0.heap.size W0 ?g5 hBs ?_)
  case g1 => rw [Array.toArray_toList]; exact heap_new _ _
  case g2 => rw [bytesC_len, hn.out]; exact (Nat.min_self _).symm
  case g3 =>
    intro hpos
    rw [bytesC_len, hn.out] at hpos
    obtain ⟨g, hg⟩ := ha.out hpos
    exact ⟨⟨g, 0, none⟩, hg, fun j x hj => Lib.cell?_alloc_some _ (hgc.out j x hj g hg)⟩
  case g4 =>
    have e := size_madeCells #[Value.int .u8 0] m
    have e2 := hn.out
    have e3 := hm.out
    have e4 : (madeCells #[Value.int .u8 0] m).toList.length = m := by rw [Array.length_toList]; exact e
    rw [bytesC_len, e4]
    omega
  case g5 => exact hB.alloc hBs _
  intro w1 hg1 hb1
  have hbuf : Lib.OwnBuf W0.heap.size 5 (.slice (some ⟨w.heap.size, 0, none⟩) n m) n (bytesC ys) W0 w1 := by
    have e := size_madeCells #[Value.int .u8 0] m
    have e2 := hn.out
    have e3 := hm.out
    have hlt : w.heap.size < w1.heap.size := (Array.getElem?_eq_some_iff.1 hg1.out).1
    refine ⟨⟨by rw [bytesC_len, e2, Nat.mul_one], .inr ⟨w.heap.size, m, _, (0, 0), rfl, hBs, hg1.out, Nat.zero_le _, by omega, by unfold maxLen; omega, ?_, ?_⟩⟩, hb1, Nat.le_trans hBs (Nat.le_of_lt hlt)⟩
    · simp [splice, e, bytesC_len]; omega
    · simp [splice, bytesC_len, e2]
  have hT1 := Lib.hid hT
  have hq0 := Lib.hid hbuf
  clear hT hbuf hgc ha hg1 hb1 hmk hB hwc hroom' hroom
  go_wp2_with (at_builtin; go_must (refine Lib.wpList_append_byte rfl _ _ 61 rfl W0.heap.size 5 i0 Tryd.underlying61 hi hz0 hz1 hz2 (.slice (some ⟨w.heap.size, 0, none⟩) n m) n (bytesC ys) rfl W0 w1 34 hq0.out rfl (by omega) ?_); intro v2 w2 hb2)
  have hb2' := Lib.hid hb2
  clear hb2
  go_loopw [0, 1, 12, 13] (fun vb vs _ _ wr => ∃ (rest : ByteArray) (acc : List Int) (f : Nat), vs = .string rest ∧ rest.size ≤ f ∧ Hid (Lib.OwnBuf W0.heap.size 5 vb (n + 1 + acc.length) (bytesC ys ++ [.int .u8 34] ++ Lib.intCells acc) W0 wr) ∧ Hid (acc ++ Lib.quoteFrom T f rest = Lib.quoteFrom T s.size s) ∧ acc.length + 10 * rest.size ≤ 10 * s.size) (fun _ vs _ _ _ => strSz vs)
  case atStart => exact ⟨s, [], s.size, rfl, Nat.le_refl _, Lib.hid (by simpa [Lib.intCells] using hb2'.out), Lib.hid rfl, by simp⟩
  case round =>
    obtain ⟨rest, acc, f, rfl, hf, hbr, hq, hl⟩ := hrel
    clear hb2'
    by_cases h0 : 0 < rest.size
    · have h0' : (0 : Int) < (rest.size : Int) := by omega
      obtain ⟨R, hR⟩ : ∃ R, R = (Utf8.decode rest 0).1 := ⟨_, rfl⟩
      obtain ⟨K, hK⟩ : ∃ K, K = (Utf8.decode rest 0).2 := ⟨_, rfl⟩
      have hK1 : 1 ≤ K := by rw [hK]; exact Lib.width_pos _ _
      have hK2 : K ≤ rest.size := by rw [hK]; exact Lib.width_le _ h0
      have hRv : Lib.validRune (R : Int) = true := by rw [hR]; exact Lib.rune_valid _
      have hgo : Lib.decodeGo rest = (R, K) := by
        have hne : ¬ rest.size = 0 := by omega
        rw [hR, hK]; simp [Lib.decodeGo, hne]
      have cD := Tryd.utf8_DecodeRuneInString rest wr (Utf8Tabs_below hT1.out.utf hbr.out.2.1)
      rw [hgo] at cD
      have hnext := Lib.quoteFrom_step T f rest h0 hf
      rw [← hK] at hnext
      have hsl := Lib.quoteStep_length_le T rest
      have hsz : (rest.extract K rest.size).size = rest.size - K := Lib.size_rest rest K
      have hlA : n + 1 + acc.length + 10 ≤ 140737488355328 := by omega
      replace hnext := Lib.hid hnext
      replace hRv := Lib.hid hRv
      by_cases hbad : K = 1 ∧ R = 65533
      · obtain ⟨e1, e2⟩ := hbad
        have hst := Lib.quoteStep_bad T rest h0 (by rw [← e1, hK]) (by rw [← e2, hR])
        subst e1 e2
        have hx255 := UInt8.toNat_lt (rest[0]'h0)
        have hx16 : 0 ≤ (((rest[0]'h0).toNat : Nat) : Int) / 16 ∧ (((rest[0]'h0).toNat : Nat) : Int) / 16 < 16 := by omega
        replace hst := Lib.hid hst
        clear hR hK hgo
        go_wp2_with (first
          | (go_at_call 60; refine cD.mono ?_; rintro e w3 ⟨rfl, hbl⟩; have hb := buf_below hbr.out hbl)
          | (at_builtin; first
          | (refine Lib.wpList_append_byte rfl _ _ 61 rfl W0.heap.size 5 i0 Tryd.underlying61 hi hz0 hz1 hz2 _ _ _ rfl W0 _ _ (by assumption) rfl (by first | omega | (simp only [Lib.size_two]; omega)) ?_; intro _ _ hb)
          | (refine Lib.wpList_append_text rfl _ _ 61 9 rfl W0.heap.size 5 i0 Tryd.underlying61 Tryd.underlying9 hi hz0 hz1 hz2 _ _ _ rfl W0 (by assumption) _ rfl (by first | omega | (simp only [Lib.size_two]; omega)) ?_; intro _ _ hb)))
        go_roundw
        case rel =>
          refine ⟨_, acc ++ Lib.quoteStep T rest, f - 1, rfl, by omega, Lib.hid ?_, Lib.hid ?_, ?_⟩
          · rw [hst.out]
            simpa [Lib.intCells, Lib.strCells, Lib.size_two, Lib.lowerhex_at, List.append_assoc, Nat.add_assoc] using hb
          · rw [← hq.out, hnext.out, List.append_assoc]
          · rw [List.length_append]; omega
        case measure => simp only [strSz]; omega
      · have hst : Lib.quoteStep T rest = Lib.escRune T (R : Int) := by
          rw [hR]; exact Lib.quoteStep_good T rest (by rw [← hK, ← hR]; exact hbad)
        replace hst := Lib.hid hst
        clear hR hK hgo
        have hK2' : (K : Int) ≤ (rest.size : Int) := by omega
        by_cases hK1e : K = 1
        · subst hK1e
          have hR' : ¬ (R : Int) = 65533 := by omega
          have hRB : ((R : Int) == 65533) = false := by simp; omega
          go_wp2_with (first
            | (go_at_call 60; refine cD.mono ?_; rintro e w3 ⟨rfl, hbl⟩; have hb := buf_below hbr.out hbl)
            | (go_at_call 61; refine (Tryd.strconv_appendEscapedRune T W0.heap.size _ _ _ R W0 _ hb hlA (printTabs_below hT1.out.prt hb.2.1) hRv.out).mono ?_; rintro e w4 ⟨v4, rfl, hb4⟩))
          go_roundw
          case rel =>
            refine ⟨_, acc ++ Lib.quoteStep T rest, f - 1, rfl, by omega, Lib.hid ?_, Lib.hid ?_, ?_⟩
            · rw [hst.out]
              simpa [Lib.intCells, List.append_assoc, Nat.add_assoc] using hb4
            · rw [← hq.out, hnext.out, List.append_assoc]
            · rw [List.length_append]; omega
          case measure => simp only [strSz]; omega
        · have hK1' : ¬ (K : Int) = 1 := by omega
          have hKB : ((K : Int) == 1) = false := by simp; omega
          go_wp2_with (first
            | (go_at_call 60; refine cD.mono ?_; rintro e w3 ⟨rfl, hbl⟩; have hb := buf_below hbr.out hbl)
            | (go_at_call 61; refine (Tryd.strconv_appendEscapedRune T W0.heap.size _ _ _ R W0 _ hb hlA (printTabs_below hT1.out.prt hb.2.1) hRv.out).mono ?_; rintro e w4 ⟨v4, rfl, hb4⟩))
          go_roundw
          case rel =>
            refine ⟨_, acc ++ Lib.quoteStep T rest, f - 1, rfl, by omega, Lib.hid ?_, Lib.hid ?_, ?_⟩
            · rw [hst.out]
              simpa [Lib.intCells, List.append_assoc, Nat.add_assoc] using hb4
            · rw [← hq.out, hnext.out, List.append_assoc]
            · rw [List.length_append]; omega
          case measure => simp only [strSz]; omega
    · have h0' : ¬ (0 : Int) < (rest.size : Int) := by omega
      have h0B : decide ((rest.size : Int) > 0) = false := decide_eq_false (by omega)
      have hqe : Lib.quoteFrom T s.size s = acc := by rw [← hq.out, Lib.quoteFrom_end T f rest h0]; simp
      have hlenq : n + (Lib.quoteZ T s).length = n + 1 + acc.length + 1 := by simp [Lib.quoteZ, hqe]; omega
      have hcells : bytesC ys ++ Lib.intCells (Lib.quoteZ T s) = bytesC ys ++ [.int .u8 34] ++ Lib.intCells acc ++ [.int .u8 34] := by simp [Lib.quoteZ, hqe, Lib.intCells]
      have hlA : n + 1 + acc.length + 10 ≤ 140737488355328 := by omega
      replace hlenq := Lib.hid hlenq
      replace hcells := Lib.hid hcells
      clear hqe
      have hbx := hbr.out
      go_wp2_with (at_builtin; go_loud (refine Lib.wpList_append_byte rfl _ _ 61 rfl W0.heap.size 5 i0 Tryd.underlying61 hi hz0 hz1 hz2 _ _ _ rfl W0 _ _ (by assumption) rfl (by first | omega | (simp only [Lib.size_two]; omega)) ?_); intro v5 w5 hb5)
      go_ret
      exact ⟨v5, rfl, by rw [hlenq.out, hcells.out]; exact hb5⟩
end Go.Proofs.YtdapnemcdgjeeaaDoor
