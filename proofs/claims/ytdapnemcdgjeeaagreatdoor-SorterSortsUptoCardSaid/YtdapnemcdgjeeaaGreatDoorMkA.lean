/- Walks: numbers put behind bytes that the call owns (strconv.AppendInt at base 10), whether the bytes ahead are frozen or not. Walks: a text put behind owned bytes as Go writes it (strconv.AppendQuote), with room and without. Walks: the mark of a row (package sorter). -/
import Derived.Test.YtdapnemcdgjeeaaGreatDoorShelf
import Derived.Test.YtdapnemcdgjeeaaGreatDoorBase
import Derived.Test.YtdapnemcdgjeeaaGreatDoorMark
import Derived.Lib.BufSteps
import Derived.Lib.AppendIntMem
import Derived.Lib.ItoaMem
import Derived.Lib.BufferKept
import Derived.BigGuardPart
import Derived.Laws.CopyOwn
import Derived.Lib.QuoteLoop
import Derived.Laws.DeepStrings4
import Derived.Test.YtdapnemcdgjeeaaGreatDoorVals
import Derived.Deep.RegionHeld3
import Derived.Deep.CutRange
import Derived.Deep.AppendLies
set_option maxRecDepth 100000
set_option linter.unusedVariables false
set_option linter.unusedSimpArgs false
namespace Go.Proofs.YtdapnemcdgjeeaaGreatDoor
open Go.RowKit Go.Sort

/-- the bytes so far, in memory of the call's own -/
def Buf (B : Nat) (v : Value) (ys : List UInt8) (W0 w : World) : Prop := Lib.OwnBuf B 5 v ys.length (bytesC ys) W0 w
/-- rows of other elements than bytes stay as they are -/
def Keeps (w w' : World) : Prop := ∀ (b : Nat) (cs : Array Value) (T : TypeId) (fr : Nat × Nat), T ≠ 5 → w.heap[b]? = some (.cells cs T fr) → w'.heap[b]? = some (.cells cs T fr)
theorem Keeps.refl (w : World) : Keeps w w := fun _ _ _ _ _ h => h
theorem Keeps.trans {a b c : World} (h : Keeps a b) (k : Keeps b c) : Keeps a c := fun x cs T fr hT hx => k x cs T fr hT (h x cs T fr hT hx)
theorem Keeps.below {w w' : World} (h : Below w.heap.size w w') : Keeps w w' := fun b cs T fr _ hb => (h.block b (Array.getElem?_eq_some_iff.1 hb).1).trans hb
theorem Keeps.grown {w w' : World} {B n : Nat} {v : Value} {xs : List Value} (ho : w.ownsRowF B 5 1 v n xs) (hg : w.grownBy w' v.ownBlock) : Keeps w w' := by
  intro b cs T fr hT hb
  refine (hg.block b (Array.getElem?_eq_some_iff.1 hb).1 ?_).trans hb
  intro e
  rcases ho.2 with ⟨rfl, _⟩ | ⟨g, cap, cur, fz, rfl, _, hgg, _⟩
  · simp [Value.ownBlock] at e
  · simp [Value.ownBlock] at e
    subst e
    rw [hgg] at hb
    injection hb with hb
    injection hb with _ h2 _
    exact hT h2.symm
/-- so many bytes more -/
def BufP (B : Nat) (ys : List UInt8) (W0 w : World) (e : Ending) (w' : World) : Prop := ∃ v', e = .returned v' ∧ Buf B v' ys W0 w' ∧ Keeps w w'
theorem Buf.below {B : Nat} {v : Value} {ys : List UInt8} {W0 w w' : World} (h : Buf B v ys W0 w) (hb : Below w.heap.size w w') : Buf B v ys W0 w' := buf_below h hb
theorem Buf.alloc {B : Nat} {v : Value} {ys : List UInt8} {W0 w : World} (h : Buf B v ys W0 w) (o : Obj) : Buf B v ys W0 (w.alloc o) := Lib.OwnBuf.alloc h o
theorem bytesC_app (a b : List UInt8) : bytesC (a ++ b) = bytesC a ++ bytesC b := by simp [bytesC]
theorem bytesC_one (l : List UInt8) : ∀ u ∈ bytesC l, u.oneCell' = true := by
  intro u hu
  obtain ⟨c, _, rfl⟩ := List.mem_map.1 hu
  rfl
theorem Buf.of {B n : Nat} {v : Value} {ys zs : List UInt8} {cs : List Value} {W0 w : World} (h : Lib.OwnBuf B 5 v n cs W0 w) (hn : n = (ys ++ zs).length) (hc : cs = bytesC ys ++ bytesC zs) : Buf B v (ys ++ zs) W0 w := by
  unfold Buf
  rw [bytesC_app, ← hn, ← hc]
  exact h
theorem wpList_byteK {P : Program} {W : World} {nz : Nat} (hnz : W.heap.size = nz) {ops : Array Oper} {rest : List Oper} {o : Oper} {a : Act} {Q : Exit → Act → World → Prop} (hgd : o.guard = none) (s x : Operand)
    (ho : o.op = .call { callee := .builtin .append, args := #[s, x], argTypes := #[144, 144] }) (ht : P.underlying 144 = some (.slice 5)) (hinfo : (P.info? 5).map (fun i => (i.zero, i.size, i.bytes)) = some (some (.int .u8 0), 1, 1))
    (B : Nat) (v : Value) (ys : List UInt8) (W0 : World) (c : UInt8) (hs : a.eval s = v) (hb : Buf B v ys W0 W) (hx : a.eval x = .slice (some ⟨nz, 0, none⟩) 1 1) (hlen : ys.length + 1 ≤ 140737488355328)
    (h : ∀ v' w', Buf B v' (ys ++ [c]) W0 w' → Keeps W w' → wpList P ops Q rest (a.put o.dst v') w') : wpList P ops Q (o :: rest) a (W.alloc (.cells #[.int .u8 (c.toNat : Int)] 5)) := by
  subst hnz
  obtain ⟨i, hi, hz, hsize, hby⟩ := info_parts hinfo
  have hb' := hb.alloc (.cells #[.int .u8 (c.toNat : Int)] 5)
  refine wpList_append_ownF _ hgd s x 144 ho B 5 i (.int .u8 0) 1 1 ht hi hz hsize hby rfl (by decide) v ys.length (bytesC ys) hs hb'.1 ⟨W.heap.size, 0, none⟩ 1 1 (bytesC [c]) hx rfl ?_ (bytesC_one _) (by unfold maxLen; omega) (by omega) hb'.2.2 ?_
  · exact cell_one_new _ _ _
  · intro v' w' ho' hg _
    have hbuf : Lib.OwnBuf B 5 v' (ys.length + 1) (bytesC ys ++ bytesC [c]) W0 w' := Lib.OwnBuf.grown hb' ho' hg
    exact h v' w' (Buf.of hbuf (by simp) rfl) ((Keeps.below ((Below.refl _ _).alloc (Nat.le_refl _) _)).trans (Keeps.grown hb'.1 hg))
theorem u8_info : (Tryz.prog.info? 5).map (fun i => (i.zero, i.size, i.bytes)) = some (some (.int .u8 0), 1, 1) := by kernel_rfl
theorem zeros_info : (Tryz.prog.info? 218).map (fun i => i.size) = some 24 := by kernel_rfl

set_option maxHeartbeats 4000000 in
theorem auint_small (B u : Nat) (hu : u < 100) (v : Value) (ys : List UInt8) (W0 w : World) (hb : Buf B v ys W0 w) (hlim : ys.length + 20 ≤ 140737488355328) :
    Calls Tryz.prog 136 #[v, .int .u64 u, .int .i64 10] w (BufP B (ys ++ Lib.decDigits u) W0 w) := by
  obtain ⟨i0, hi, hz0, hz1, hz2⟩ := info_parts u8_info
  have hl : (Lib.decDigits u).length ≤ 20 := by
    rw [Lib.decDigits_length]
    by_cases h10 : u < 10
    · rw [Lib.nDigits_small h10]; omega
    · rw [Lib.nDigits_big h10, Lib.nDigits_small (show u / 10 < 10 by omega)]; omega
  have hsz : (bs (Lib.decDigits u)).size = (Lib.decDigits u).length := bs_size _
  have hB := Lib.hid hb
  clear hb
  go_enter Tryz.func136, Tryz.ntmps136
  go_wp2_with (first
    | (go_at_call 151; refine (Tryz.internal_strconv_small u hu _).mono ?_; rintro e w1 ⟨rfl, rfl⟩)
    | (at_builtin; refine Lib.wpList_append_own_stringF _ rfl _ _ 144 9 rfl B 5 i0 Tryz.underlying144 Tryz.underlying9 hi hz0 hz1 hz2 v ys.length (bytesC ys) rfl hB.out.1 (bs (Lib.decDigits u)) rfl (by rw [hsz]; unfold maxLen; omega) (by rw [hsz]; omega) hB.out.2.2 ?_))
  intro v' w' ho' hg _
  have hb' := Lib.OwnBuf.grown hB.out ho' hg
  have hk := Keeps.grown hB.out.1 hg
  go_wp2
  go_ret
  exact ⟨v', rfl, Buf.of hb' (by rw [List.length_append]) rfl, hk⟩

set_option maxHeartbeats 8000000 in
theorem auint_big (B u : Nat) (hu : 100 ≤ u) (hu64 : u < 18446744073709551616) (v : Value) (ys : List UInt8) (W0 w : World) (hb : Buf B v ys W0 w) (hlim : ys.length + 20 ≤ 140737488355328)
    (htab : Lib.TabIs Tryz.prog w "internal/strconv.uint64pow10" .u64 Lib.pow10Tab) :
    Calls Tryz.prog 136 #[v, .int .u64 u, .int .i64 10] w (BufP B (ys ++ Lib.decDigits u) W0 w) := by
  obtain ⟨i0, hi, hz0, hz1, hz2⟩ := info_parts u8_info
  have h1 : 1 ≤ u := by omega
  have hnd : Lib.nDigits u ≤ 20 := by have := Lib.numDigits_eq u h1 hu64; split at this <;> omega
  obtain ⟨D, hD⟩ : ∃ D, D = Lib.nDigits u := ⟨_, rfl⟩
  have hz := Lib.holds_zero0 w 218 D (by omega)
  have hf := Tryz.internal_strconv_formatBase10 w.heap.size 0 24 u (Array.replicate D 0) (w.alloc (.cells Lib.zeros24 218)) hz (by rw [Array.size_replicate, hD]; exact Lib.lt_pow_nDigits u) hu64 (by rw [Array.size_replicate]; omega)
  rw [Array.size_replicate] at hf
  have hsl : ∀ W, (Instr.sliceAt 218 (.pointer (some ⟨w.heap.size, 0, none⟩)) none (some (.int .i64 (D : Int))) none).run Tryz.prog W = .ok (.slice (some ⟨w.heap.size, 0, none⟩) D 24) W := fun W => by
    have hal : Tryz.prog.arrayLen 218 = 24 := by simp [Program.arrayLen, Tryz.underlying218]
    rw [run_sliceAt_array_h W 218 ⟨w.heap.size, 0, none⟩ (by simp [Program.arrayLen, Program.elem, Tryz.underlying218]) .i64 (D : Int) (by omega) (by rw [hal]; omega)]
    go_simp
  have hB := Lib.hid hb
  have hZ := Lib.hid hz
  have hDD := Lib.hid hD
  have iu : (100 : Int) ≤ (u : Int) := by omega
  clear hb hz hD
  go_enter Tryz.func136, Tryz.ntmps136
  go_wp2_with (first
    | (go_at_call 152; refine (Tryz.internal_strconv_numDigits u h1 hu64 _ (Lib.tabIs_alloc htab _)).mono ?_; rintro e w1 ⟨rfl, rfl⟩; rw [← hDD.out]))
  go_at_call 153
  refine hf.mono ?_
  rintro e w1 ⟨rfl, k, v1, dk, rfl, hF⟩
  -- the world that is left: the old one, draws, new blocks; the block's first bytes are the numeral
  have hdig : ∀ j x, (bytesC (Lib.decDigits u))[j]? = some x → ((putRow (fun (b : UInt8) => Value.int .u8 (b.toNat : Int)) (w.alloc (.cells Lib.zeros24 218)) w.heap.size 0 dk).drewN k).cell? ((⟨w.heap.size, 0, none⟩ : Addr).add j) = some x := by
    intro j x hj
    have hjl : j < (Lib.decDigits u).length := by
      have h5 := (List.getElem?_eq_some_iff.1 hj).1
      rwa [bytesC_len] at h5
    have e5 : (bytesC (Lib.decDigits u))[j]? = some (Value.int .u8 ((Lib.decDigits u)[j].toNat : Int)) := by simp [bytesC, hjl]
    rw [e5] at hj
    cases hj
    rw [hDD.out] at hF
    rw [Lib.row_is_numeral hF j hjl, Lib.add_plain, World.cell?_drewN]
    refine cell?_putRow (fun (b : UInt8) => Value.int .u8 (b.toNat : Int)) _ w.heap.size 0 _ dk hZ.out ?_ j ?_
    · rw [hF.size, Array.size_replicate, hDD.out]
    · rw [hF.size]; rwa [Lib.decDigits_length] at hjl
  obtain ⟨os, eo⟩ := Lib.fin_at w (.cells Lib.zeros24 218) dk k 0
  have hbel : Below w.heap.size w ((putRow (fun (b : UInt8) => Value.int .u8 (b.toNat : Int)) (w.alloc (.cells Lib.zeros24 218)) w.heap.size 0 dk).drewN k) := by rw [eo]; exact Lib.below_grow w.heap.size w (Nat.le_refl _) k os
  generalize (putRow (fun (b : UInt8) => Value.int .u8 (b.toNat : Int)) (w.alloc (.cells Lib.zeros24 218)) w.heap.size 0 dk).drewN k = W2 at hdig hbel ⊢
  have hb2 := hB.out.below hbel
  clear eo hZ hf
  go_wp2_with (at_builtin; refine wpList_append_ownF _ rfl _ _ 144 rfl B 5 i0 (.int .u8 0) 1 1 Tryz.underlying144 hi hz0 hz1 hz2 rfl (by decide) v ys.length (bytesC ys) rfl hb2.1 ⟨w.heap.size, 0, none⟩ D 24 (bytesC (Lib.decDigits u)) rfl ?c0 hdig (bytesC_one _) ?c3 ?c4 hb2.2.2 ?_)
  case c0 => rw [bytesC_len, Lib.decDigits_length, Nat.mul_one, hDD.out]
  case c3 => unfold maxLen; have := hDD.out; omega
  case c4 => have := hDD.out; omega
  intro v2 w3 hown' hgrow _
  have hbuf := Lib.OwnBuf.grown hb2 hown' hgrow
  have hk := (Keeps.below hbel).trans (Keeps.grown hb2.1 hgrow)
  go_wp2
  go_ret
  exact ⟨v2, rfl, Buf.of hbuf (by rw [List.length_append, Lib.decDigits_length, hDD.out]) rfl, hk⟩

theorem tab_below {w w' : World} (h : Lib.TabIs Tryz.prog w "internal/strconv.uint64pow10" .u64 Lib.pow10Tab) (hb : Below w.heap.size w w') : Lib.TabIs Tryz.prog w' "internal/strconv.uint64pow10" .u64 Lib.pow10Tab := (Lib.tabBelow_of_tabIs h) w' hb
theorem auint_any (u : Nat) (hu64 : u < 18446744073709551616) (v : Value) (ys : List UInt8) (W0 w : World) (hb : Buf W0.heap.size v ys W0 w) (hlim : ys.length + 20 ≤ 140737488355328)
    (htab : Lib.TabIs Tryz.prog W0 "internal/strconv.uint64pow10" .u64 Lib.pow10Tab) :
    Calls Tryz.prog 136 #[v, .int .u64 u, .int .i64 10] w (BufP W0.heap.size (ys ++ Lib.decDigits u) W0 w) := by
  by_cases h : u < 100
  · exact auint_small _ u h v ys W0 w hb hlim
  · exact auint_big _ u (by omega) hu64 v ys W0 w hb hlim (tab_below htab hb.2.1)
theorem aint_any (i : Int) (h0 : -9223372036854775808 ≤ i) (h1 : i ≤ 9223372036854775807) (v : Value) (ys : List UInt8) (W0 w : World) (hb : Buf W0.heap.size v ys W0 w) (hlim : ys.length + 21 ≤ 140737488355328)
    (htab : Lib.TabIs Tryz.prog W0 "internal/strconv.uint64pow10" .u64 Lib.pow10Tab) :
    Calls Tryz.prog 110 #[v, .int .i64 i, .int .i64 10] w (BufP W0.heap.size (ys ++ Lib.itoa i) W0 w) := by
  obtain ⟨i0, hi, hz0, hz1, hz2⟩ := info_parts u8_info
  by_cases hneg : i < 0
  · obtain ⟨u, rfl⟩ : ∃ u : Nat, i = -(u : Int) := ⟨i.natAbs, by omega⟩
    have hu64 : u < 18446744073709551616 := by omega
    have hwr : IntKind.u64.wrap (-IntKind.u64.wrap (-(u : Int))) = (u : Int) := by rw [IntKind.wrap_u64, IntKind.wrap_u64]; omega
    have hit := Lib.hid (Lib.itoa_neg u (by omega))
    have hB := Lib.hid hb
    clear hb
    go_enter Tryz.func110, Tryz.ntmps110
    go_wp2_with (first
      | (at_builtin; go_must (refine wpList_byteK rfl rfl _ _ rfl Tryz.underlying144 u8_info W0.heap.size v ys W0 45 rfl hB.out rfl (by omega) ?_); intro v1 w1 hb1' hk1; replace hb1' := Lib.hid hb1'; replace hk1 := Lib.hid hk1)
      | (go_at_call 136; refine (auint_any u hu64 v1 (ys ++ [45]) W0 _ hb1'.out (by simp; omega) htab).mono ?_; rintro e w2 ⟨v2, rfl, hb2, hk2⟩))
    go_ret
    refine ⟨v2, rfl, ?_, hk1.out.trans hk2⟩
    rw [hit.out]
    simpa using hb2
  · obtain ⟨u, rfl⟩ : ∃ u : Nat, i = u := ⟨i.toNat, by omega⟩
    have hu64 : u < 18446744073709551616 := by omega
    have hit := Lib.hid (Lib.itoa_nonneg u)
    have hB := Lib.hid hb
    clear hb
    go_enter Tryz.func110, Tryz.ntmps110
    go_wp2_with (go_at_call 136; refine (auint_any u hu64 v ys W0 _ hB.out (by omega) htab).mono ?_; rintro e w2 ⟨v2, rfl, hb2, hk2⟩)
    go_ret
    exact ⟨v2, rfl, by rw [hit.out]; exact hb2, hk2⟩
theorem sint_any (i : Int) (h0 : -9223372036854775808 ≤ i) (h1 : i ≤ 9223372036854775807) (v : Value) (ys : List UInt8) (W0 w : World) (hb : Buf W0.heap.size v ys W0 w) (hlim : ys.length + 21 ≤ 140737488355328)
    (htab : Lib.TabIs Tryz.prog W0 "internal/strconv.uint64pow10" .u64 Lib.pow10Tab) :
    Calls Tryz.prog 82 #[v, .int .i64 i, .int .i64 10] w (BufP W0.heap.size (ys ++ Lib.itoa i) W0 w) := by
  go_enter Tryz.func82, Tryz.ntmps82
  go_wp2_with (go_at_call 110; refine (aint_any i h0 h1 v ys W0 _ hb hlim htab).mono ?_; rintro e w2 ⟨v2, rfl, hb2, hk2⟩)
  go_ret
  exact ⟨v2, rfl, hb2, hk2⟩
end Go.Proofs.YtdapnemcdgjeeaaGreatDoor

namespace Go.Proofs.YtdapnemcdgjeeaaGreatDoor
open Go.RowKit Go.Sort

/-- what the library's tables hold -/
structure Tabs (T : Lib.PrintTabs) (w : World) : Prop where
  pow : Lib.TabIs Tryz.prog w "internal/strconv.uint64pow10" .u64 Lib.pow10Tab
  prt : Lib.PrintTabsAt 4 5 6 7 T w
  utf : Lib.Utf8Tabs 1 2 w
theorem Tabs.below {T : Lib.PrintTabs} {w w' : World} (h : Tabs T w) (hb : Below w.heap.size w w') : Tabs T w' := ⟨tab_below h.pow hb, printTabs_below h.prt hb, Utf8Tabs_below h.utf hb⟩
/-- bytes out of numbers -/
def toB (l : List Int) : List UInt8 := l.map fun x => x.toNat.toUInt8
theorem toB_cells : ∀ {l : List Int}, (∀ x ∈ l, 0 ≤ x ∧ x ≤ 255) → Lib.intCells l = bytesC (toB l) := by
  intro l
  induction l with
  | nil => intro _; rfl
  | cons x l ih =>
    intro h
    have hx := h x List.mem_cons_self
    have := ih fun y hy => h y (List.mem_cons_of_mem _ hy)
    simp only [Lib.intCells, bytesC, toB, List.map_cons] at this ⊢
    rw [this]
    congr 2
    have e : x.toNat.toUInt8.toNat = x.toNat := by simp [Nat.toUInt8, UInt8.toNat_ofNat']; omega
    rw [e]; omega
theorem toB_len (l : List Int) : (toB l).length = l.length := by simp [toB]
theorem buf_shape {B n : Nat} {v : Value} {xs : List Value} {W0 w : World} (h : Lib.OwnBuf B 5 v n xs W0 w) : ∃ a c, v = .slice a n c ∧ n ≤ c ∧ c ≤ maxLen ∧ (0 < n → ∃ g, a = some ⟨g, 0, none⟩) := by
  rcases h.1.2 with ⟨rfl, rfl⟩ | ⟨g, cap, cur, fz, rfl, _, _, _, hnc, hcm, _⟩
  · exact ⟨none, 0, rfl, Nat.le_refl _, Nat.zero_le _, fun h => by omega⟩
  · exact ⟨_, cap, rfl, hnc, hcm, fun _ => ⟨g, rfl⟩⟩

def strSz : Value → Nat
  | .string s => s.size
  | _ => 0

set_option maxHeartbeats 4000000 in
theorem quoted_tight (T : Lib.PrintTabs) (a : Option Addr) (n c : Nat) (ys : List UInt8) (s : ByteArray) (W0 w : World) (hb : Lib.OwnBuf W0.heap.size 5 (.slice a n c) n (bytesC ys) W0 w) (hn : ys.length = n) (hc : c ≤ 9223372036854775807) (hnc : n ≤ c) (ha : 0 < n → ∃ g, a = some ⟨g, 0, none⟩)
    (hroom : ¬ n + s.size ≤ c) (hlen : n + 10 * s.size + 12 ≤ 140737488355328) (hT : Tabs T W0) :
    Calls Tryz.prog 111 #[.slice a n c, .string s, .int .u8 34, .bool false, .bool false] w fun e w' => ∃ v', e = .returned v' ∧ Lib.OwnBuf W0.heap.size 5 v' (n + (Lib.quoteZ T s).length) (bytesC ys ++ Lib.intCells (Lib.quoteZ T s)) W0 w' := by
  obtain ⟨i0, hi, hz0, hz1, hz2⟩ := info_parts u8_info
  obtain ⟨m, hm⟩ : ∃ m, m = n + 1 + s.size + 1 := ⟨_, rfl⟩
  have hmk : (Instr.makeSlice 144 (.int .i64 (n : Int)) (.int .i64 ((n : Int) + 1 + (s.size : Int) + 1))).run Tryz.prog w = .ok (.slice (some ⟨w.heap.size, 0, none⟩) n m) (w.alloc (.cells (madeCells #[.int .u8 0] m) 5)) := by
    have := run_make (P := Tryz.prog) w 144 5 i0 (.int .u8 0) Tryz.underlying144 hi hz0 .i64 .i64 (n : Int) ((n : Int) + 1 + (s.size : Int) + 1) (by omega) (by omega) (by rw [hz2]; omega) (by omega)
    rw [this, hz1, Nat.mul_one, show ((n : Int) + 1 + (s.size : Int) + 1).toNat = m by omega]
    rfl
  have hwc : wrap64 ((c : Int) - (n : Int)) = (c : Int) - (n : Int) := by unfold wrap64; omega
  have hroom' : (c : Int) - (n : Int) < (s.size : Int) := by omega
  have hgc : ∀ j x, (bytesC ys)[j]? = some x → ∀ g, a = some ⟨g, 0, none⟩ → w.cell? ((⟨g, 0, none⟩ : Addr).add j) = some x := fun j x hj g hg => hb.1.cells (g := g) (by rw [hg]; rfl) j x hj
  have hB := hb.2.1
  have hBs := hb.2.2
  replace hn := Lib.hid hn
  replace hgc := Lib.hid hgc
  replace hm := Lib.hid hm
  replace ha := Lib.hid ha
  clear hb
  go_enter Tryz.func111, Tryz.ntmps111
  go_upto_region 3 with fail
  go_wp2_with (refine wpList_copy_splice rfl (.tmp 32) (.tmp 33) 144 144 rfl 5 Tryz.underlying144 (by kernel_rfl) (some ⟨w.heap.size, 0, none⟩) a n m n c rfl rfl w.heap.size 0 (madeCells #[.int .u8 0] m).toList 5 ?g1 (bytesC ys) ?g2 ?g3 ?g4 (bytesC_one _) W0.heap.size W0 ?g5 hBs ?_)
  case g1 => rw [Array.toArray_toList]; exact heap_new _ _
  case g2 => rw [bytesC_len, hn.out]; exact (Nat.min_self _).symm
  case g3 =>
    intro hpos
    rw [bytesC_len, hn.out] at hpos
    obtain ⟨g, hg⟩ := ha.out hpos
    exact ⟨⟨g, 0, none⟩, hg, fun j x hj => Lib.cell?_alloc_some _ (hgc.out j x hj g hg)⟩
  case g4 =>
    have e := size_madeCells #[Value.int .u8 0] m
    have e2 := hn.out
    have e3 := hm.out
    have e4 : (madeCells #[Value.int .u8 0] m).toList.length = m := by rw [Array.length_toList]; exact e
    rw [bytesC_len, e4]
    omega
  case g5 => exact hB.alloc hBs _
  intro w1 hg1 hb1
  have hbuf : Lib.OwnBuf W0.heap.size 5 (.slice (some ⟨w.heap.size, 0, none⟩) n m) n (bytesC ys) W0 w1 := by
    have e := size_madeCells #[Value.int .u8 0] m
    have e2 := hn.out
    have e3 := hm.out
    have hlt : w.heap.size < w1.heap.size := (Array.getElem?_eq_some_iff.1 hg1.out).1
    refine ⟨⟨by rw [bytesC_len, e2, Nat.mul_one], .inr ⟨w.heap.size, m, _, (0, 0), rfl, hBs, hg1.out, Nat.zero_le _, by omega, by unfold maxLen; omega, ?_, ?_⟩⟩, hb1, Nat.le_trans hBs (Nat.le_of_lt hlt)⟩
    · simp [splice, e, bytesC_len]; omega
    · simp [splice, bytesC_len, e2]
  have hT1 := Lib.hid hT
  have hq0 := Lib.hid hbuf
  clear hT hbuf hgc ha hg1 hb1 hmk hB hwc hroom' hroom
  go_wp2_with (at_builtin; go_must (refine Lib.wpList_append_byte rfl _ _ 144 rfl W0.heap.size 5 i0 Tryz.underlying144 hi hz0 hz1 hz2 (.slice (some ⟨w.heap.size, 0, none⟩) n m) n (bytesC ys) rfl W0 w1 34 hq0.out rfl (by omega) ?_); intro v2 w2 hb2)
  have hb2' := Lib.hid hb2
  clear hb2
  go_loopw [0, 1, 12, 13] (fun vb vs _ _ wr => ∃ (rest : ByteArray) (acc : List Int) (f : Nat), vs = .string rest ∧ rest.size ≤ f ∧ Hid (Lib.OwnBuf W0.heap.size 5 vb (n + 1 + acc.length) (bytesC ys ++ [.int .u8 34] ++ Lib.intCells acc) W0 wr) ∧ Hid (acc ++ Lib.quoteFrom T f rest = Lib.quoteFrom T s.size s) ∧ acc.length + 10 * rest.size ≤ 10 * s.size) (fun _ vs _ _ _ => strSz vs)
  case atStart => exact ⟨s, [], s.size, rfl, Nat.le_refl _, Lib.hid (by simpa [Lib.intCells] using hb2'.out), Lib.hid rfl, by simp⟩
  case round =>
    obtain ⟨rest, acc, f, rfl, hf, hbr, hq, hl⟩ := hrel
    clear hb2'
    by_cases h0 : 0 < rest.size
    · have h0' : (0 : Int) < (rest.size : Int) := by omega
      obtain ⟨R, hR⟩ : ∃ R, R = (Utf8.decode rest 0).1 := ⟨_, rfl⟩
      obtain ⟨K, hK⟩ : ∃ K, K = (Utf8.decode rest 0).2 := ⟨_, rfl⟩
      have hK1 : 1 ≤ K := by rw [hK]; exact Lib.width_pos _ _
      have hK2 : K ≤ rest.size := by rw [hK]; exact Lib.width_le _ h0
      have hRv : Lib.validRune (R : Int) = true := by rw [hR]; exact Lib.rune_valid _
      have hgo : Lib.decodeGo rest = (R, K) := by
        have hne : ¬ rest.size = 0 := by omega
        rw [hR, hK]; simp [Lib.decodeGo, hne]
      have cD := Tryz.utf8_DecodeRuneInString rest wr (Utf8Tabs_below hT1.out.utf hbr.out.2.1)
      rw [hgo] at cD
      have hnext := Lib.quoteFrom_step T f rest h0 hf
      rw [← hK] at hnext
      have hsl := Lib.quoteStep_length_le T rest
      have hsz : (rest.extract K rest.size).size = rest.size - K := Lib.size_rest rest K
      have hlA : n + 1 + acc.length + 10 ≤ 140737488355328 := by omega
      replace hnext := Lib.hid hnext
      replace hRv := Lib.hid hRv
      by_cases hbad : K = 1 ∧ R = 65533
      · obtain ⟨e1, e2⟩ := hbad
        have hst := Lib.quoteStep_bad T rest h0 (by rw [← e1, hK]) (by rw [← e2, hR])
        subst e1 e2
        have hx255 := UInt8.toNat_lt (rest[0]'h0)
        have hx16 : 0 ≤ (((rest[0]'h0).toNat : Nat) : Int) / 16 ∧ (((rest[0]'h0).toNat : Nat) : Int) / 16 < 16 := by omega
        replace hst := Lib.hid hst
        clear hR hK hgo
        go_wp2_with (first
          | (go_at_call 125; refine cD.mono ?_; rintro e w3 ⟨rfl, hbl⟩; have hb := buf_below hbr.out hbl)
          | (at_builtin; first
          | (refine Lib.wpList_append_byte rfl _ _ 144 rfl W0.heap.size 5 i0 Tryz.underlying144 hi hz0 hz1 hz2 _ _ _ rfl W0 _ _ (by assumption) rfl (by first | omega | (simp only [Lib.size_two]; omega)) ?_; intro _ _ hb)
          | (refine Lib.wpList_append_text rfl _ _ 144 9 rfl W0.heap.size 5 i0 Tryz.underlying144 Tryz.underlying9 hi hz0 hz1 hz2 _ _ _ rfl W0 (by assumption) _ rfl (by first | omega | (simp only [Lib.size_two]; omega)) ?_; intro _ _ hb)))
        go_roundw
        case rel =>
          refine ⟨_, acc ++ Lib.quoteStep T rest, f - 1, rfl, by omega, Lib.hid ?_, Lib.hid ?_, ?_⟩
          · rw [hst.out]
            simpa [Lib.intCells, Lib.strCells, Lib.size_two, Lib.lowerhex_at, List.append_assoc, Nat.add_assoc] using hb
          · rw [← hq.out, hnext.out, List.append_assoc]
          · rw [List.length_append]; omega
        case measure => simp only [strSz]; omega
      · have hst : Lib.quoteStep T rest = Lib.escRune T (R : Int) := by
          rw [hR]; exact Lib.quoteStep_good T rest (by rw [← hK, ← hR]; exact hbad)
        replace hst := Lib.hid hst
        clear hR hK hgo
        have hK2' : (K : Int) ≤ (rest.size : Int) := by omega
        by_cases hK1e : K = 1
        · subst hK1e
          have hR' : ¬ (R : Int) = 65533 := by omega
          have hRB : ((R : Int) == 65533) = false := by simp; omega
          go_wp2_with (first
            | (go_at_call 125; refine cD.mono ?_; rintro e w3 ⟨rfl, hbl⟩; have hb := buf_below hbr.out hbl)
            | (go_at_call 137; refine (Tryz.strconv_appendEscapedRune T W0.heap.size _ _ _ R W0 _ hb hlA (printTabs_below hT1.out.prt hb.2.1) hRv.out).mono ?_; rintro e w4 ⟨v4, rfl, hb4⟩))
          go_roundw
          case rel =>
            refine ⟨_, acc ++ Lib.quoteStep T rest, f - 1, rfl, by omega, Lib.hid ?_, Lib.hid ?_, ?_⟩
            · rw [hst.out]
              simpa [Lib.intCells, List.append_assoc, Nat.add_assoc] using hb4
            · rw [← hq.out, hnext.out, List.append_assoc]
            · rw [List.length_append]; omega
          case measure => simp only [strSz]; omega
        · have hK1' : ¬ (K : Int) = 1 := by omega
          have hKB : ((K : Int) == 1) = false := by simp; omega
          go_wp2_with (first
            | (go_at_call 125; refine cD.mono ?_; rintro e w3 ⟨rfl, hbl⟩; have hb := buf_below hbr.out hbl)
            | (go_at_call 137; refine (Tryz.strconv_appendEscapedRune T W0.heap.size _ _ _ R W0 _ hb hlA (printTabs_below hT1.out.prt hb.2.1) hRv.out).mono ?_; rintro e w4 ⟨v4, rfl, hb4⟩))
          go_roundw
          case rel =>
            refine ⟨_, acc ++ Lib.quoteStep T rest, f - 1, rfl, by omega, Lib.hid ?_, Lib.hid ?_, ?_⟩
            · rw [hst.out]
              simpa [Lib.intCells, List.append_assoc, Nat.add_assoc] using hb4
            · rw [← hq.out, hnext.out, List.append_assoc]
            · rw [List.length_append]; omega
          case measure => simp only [strSz]; omega
    · have h0' : ¬ (0 : Int) < (rest.size : Int) := by omega
      have h0B : decide ((rest.size : Int) > 0) = false := decide_eq_false (by omega)
      have hqe : Lib.quoteFrom T s.size s = acc := by rw [← hq.out, Lib.quoteFrom_end T f rest h0]; simp
      have hlenq : n + (Lib.quoteZ T s).length = n + 1 + acc.length + 1 := by simp [Lib.quoteZ, hqe]; omega
      have hcells : bytesC ys ++ Lib.intCells (Lib.quoteZ T s) = bytesC ys ++ [.int .u8 34] ++ Lib.intCells acc ++ [.int .u8 34] := by simp [Lib.quoteZ, hqe, Lib.intCells]
      have hlA : n + 1 + acc.length + 10 ≤ 140737488355328 := by omega
      replace hlenq := Lib.hid hlenq
      replace hcells := Lib.hid hcells
      clear hqe
      have hbx := hbr.out
      go_wp2_with (at_builtin; go_loud (refine Lib.wpList_append_byte rfl _ _ 144 rfl W0.heap.size 5 i0 Tryz.underlying144 hi hz0 hz1 hz2 _ _ _ rfl W0 _ _ (by assumption) rfl (by first | omega | (simp only [Lib.size_two]; omega)) ?_); intro v5 w5 hb5)
      go_ret
      exact ⟨v5, rfl, by rw [hlenq.out, hcells.out]; exact hb5⟩
end Go.Proofs.YtdapnemcdgjeeaaGreatDoor

namespace Go.Proofs.YtdapnemcdgjeeaaGreatDoor
open Go.RowKit Go.Sort

theorem squote_any (T : Lib.PrintTabs) (v : Value) (ys : List UInt8) (s : ByteArray) (W0 w : World) (hb : Buf W0.heap.size v ys W0 w) (hlen : ys.length + 10 * s.size + 12 ≤ 140737488355328) (hT : Tabs T W0) :
    Calls Tryz.prog 83 #[v, .string s] w fun e w' => ∃ v', e = .returned v' ∧ Buf W0.heap.size v' (ys ++ toB (Lib.quoteZ T s)) W0 w' := by
  obtain ⟨a, c, rfl, hnc, hcm, ha⟩ := buf_shape hb
  have hq : Calls Tryz.prog 111 #[.slice a ys.length c, .string s, .int .u8 34, .bool false, .bool false] w fun e w' => ∃ v', e = .returned v' ∧ Buf W0.heap.size v' (ys ++ toB (Lib.quoteZ T s)) W0 w' := by
    have conv : ∀ v' w', Lib.OwnBuf W0.heap.size 5 v' (ys.length + (Lib.quoteZ T s).length) (bytesC ys ++ Lib.intCells (Lib.quoteZ T s)) W0 w' → Buf W0.heap.size v' (ys ++ toB (Lib.quoteZ T s)) W0 w' := fun v' w' h =>
      Buf.of h (by rw [List.length_append, toB_len]) (by rw [toB_cells (Quo.quote_u8 T s)])
    have hcm' : c ≤ 9223372036854775807 := by unfold maxLen at hcm; omega
    by_cases hroom : ys.length + s.size ≤ c
    · exact (Tryz.strconv_appendQuotedWith T a ys.length c (bytesC ys) s W0 w hb hroom hcm' hlen hT.prt hT.utf).mono fun e w' ⟨v', he, h⟩ => ⟨v', he, conv v' w' h⟩
    · exact (quoted_tight T a ys.length c ys s W0 w hb rfl hcm' hnc ha hroom hlen hT).mono fun e w' ⟨v', he, h⟩ => ⟨v', he, conv v' w' h⟩
  replace hq := Lib.hid hq
  go_enter Tryz.func83, Tryz.ntmps83
  go_wp2_with (go_at_call 111; refine hq.out.mono ?_; rintro e w1 ⟨v', rfl, hb1⟩)
  go_ret
  exact ⟨v', rfl, hb1⟩

/-- the cell that a region reads, and its block -/
theorem keepQ {W W' : World} {K : Nat} {x : Value} {cs : Array Value} (h : W.cell? ⟨K, 2, none⟩ = some x ∧ W.heap[K]? = some (.cells cs 33 (0, 0))) (hk : Keeps W W') : W'.cell? ⟨K, 2, none⟩ = some x ∧ W'.heap[K]? = some (.cells cs 33 (0, 0)) := by
  have h2 := hk K cs 33 (0, 0) (by decide) h.2
  exact ⟨(World.cell?_of_block (a := ⟨K, 2, none⟩) (h2.trans h.2.symm)).trans h.1, h2⟩
theorem keepQ0 {W : World} {K : Nat} {x : Value} {cs : Array Value} (h : W.cell? ⟨K, 2, none⟩ = some x ∧ W.heap[K]? = some (.cells cs 33 (0, 0))) : W.drew.cell? ⟨K, 2, none⟩ = some x ∧ W.drew.heap[K]? = some (.cells cs 33 (0, 0)) := h
theorem keepQa {W : World} {K : Nat} {x : Value} {cs : Array Value} {o : Obj} (h : W.cell? ⟨K, 2, none⟩ = some x ∧ W.heap[K]? = some (.cells cs 33 (0, 0))) : (W.alloc o).drew.cell? ⟨K, 2, none⟩ = some x ∧ (W.alloc o).drew.heap[K]? = some (.cells cs 33 (0, 0)) :=
  keepQ h (Keeps.below (((Below.refl _ _).alloc (Nat.le_refl _) _).drew))
theorem step_byteK {P : Program} {W : World} {ops : Array Oper} {o : Oper} {a : Act} {K : Act → World → Prop} {Q : Exit → Act → World → Prop} {E : Prop} (hgd : o.guard = none) (s x : Operand)
    (ho : o.op = .call { callee := .builtin .append, args := #[s, x], argTypes := #[144, 144] }) (ht : P.underlying 144 = some (.slice 5)) (hinfo : (P.info? 5).map (fun i => (i.zero, i.size, i.bytes)) = some (some (.int .u8 0), 1, 1))
    (B : Nat) (v : Value) (ys : List UInt8) (W0 : World) (c : UInt8) (hs : a.eval s = v) (hb : Buf B v ys W0 W) (hx : a.eval x = .slice (some ⟨W.heap.size, 0, none⟩) 1 1) (hlen : ys.length + 1 ≤ 140737488355328)
    (h : ∀ v' w', Buf B v' (ys ++ [c]) W0 w' → Keeps W w' → K (a.put o.dst v') w') :
    if Region.wanted o (yielded ops a.tmps) = true then Oper.wp P o a (W.alloc (.cells #[.int .u8 (c.toNat : Int)] 5)).drew K Q else E := by
  obtain ⟨i, hi, hz, hsize, hby⟩ := info_parts hinfo
  have hb' : Buf B v ys W0 (W.alloc (.cells #[.int .u8 (c.toNat : Int)] 5)).drew := (hb.alloc _).below (Below.refl _ _).drew
  have hw : Region.wanted o (yielded ops a.tmps) = true := by simp [Region.wanted, hgd]
  rw [if_pos hw]
  have hnews : ∀ j u, (bytesC [c])[j]? = some u → (W.alloc (.cells #[.int .u8 (c.toNat : Int)] 5)).drew.cell? ((⟨W.heap.size, 0, none⟩ : Addr).add j) = some u := cell_one_new _ _ _
  obtain ⟨v', w', hr, h2, h3, h4⟩ := run_append_ownF (P := P) _ B 144 o.type 5 i (.int .u8 0) 1 1 ht hi hz hsize hby rfl (by decide) v ys.length (bytesC ys) hb'.1 ⟨W.heap.size, 0, none⟩ 1 1 (bytesC [c]) rfl hnews (bytesC_one _) (by unfold maxLen; omega) (by omega) hb'.2.2
  have hbuf : Lib.OwnBuf B 5 v' (ys.length + 1) (bytesC ys ++ bytesC [c]) W0 w' := Lib.OwnBuf.grown hb' h2 h3
  unfold Oper.wp execOp
  simp only [ho, resolve, invoke, builtin, Sem.run_bind, Sem.run_pure, Result.andThen_ok, List.map_toArray, List.map_cons, List.map_nil, hs, hx, hr]
  exact h v' w' (Buf.of hbuf (by simp) rfl) ((Keeps.below (((Below.refl _ _).alloc (Nat.le_refl _) _).drew)).trans (Keeps.grown hb'.1 h3))
theorem toB_app (a b : List Int) : toB (a ++ b) = toB a ++ toB b := by simp [toB]
theorem toB_ints (l : List UInt8) : toB (Quo.ints l) = l := by
  unfold toB Quo.ints
  rw [List.map_map]
  conv => rhs; rw [← List.map_id l]
  exact List.map_congr_left fun b _ => by simp
/-- the mark of a row, one value more -/
theorem mark_snoc (T : Lib.PrintTabs) (l : List Val.V) (v : Val.V) : Quo.markB T (l ++ [v]) = Quo.markB T l ++ Lib.itoa v.kind ++ [32] ++ Lib.itoa v.int ++ [32] ++ toB (Lib.quoteZ T (bs v.text)) := by
  have e : ∀ l, Quo.markB T l = toB (Quo.markZ T l) := fun _ => rfl
  have e32 : ∀ X : List Int, toB (32 :: X) = [32] ++ toB X := fun X => rfl
  rw [e, e, Quo.markZ_snoc, toB_app, toB_app, e32, toB_app, toB_ints, e32, toB_ints]
  simp [List.append_assoc]
theorem quoteZ_len (T : Lib.PrintTabs) (s : ByteArray) : (Lib.quoteZ T s).length ≤ 10 * s.size + 2 := Lib.quoteZ_length_le T s
theorem mark_len (T : Lib.PrintTabs) : ∀ (l : List Val.V), (∀ v ∈ l, Val.inr v.kind ∧ Val.inr v.int ∧ v.text.length ≤ 1048576) → (Quo.markB T l).length ≤ l.length * 10485806 := by
  intro l
  induction l with
  | nil => intro _; exact Nat.le_refl _
  | cons v l ih =>
    intro h
    obtain ⟨h1, h2, h3⟩ := h v List.mem_cons_self
    have h4 := ih fun u hu => h u (List.mem_cons_of_mem _ hu)
    have a1 := Val.itoa_len v.kind h1.1 h1.2
    have a2 := Val.itoa_len v.int h2.1 h2.2
    have a3 := quoteZ_len T (bs v.text)
    rw [bs_size] at a3
    have e : (Quo.markB T (v :: l)).length = (Lib.itoa v.kind).length + (1 + ((Lib.itoa v.int).length + (1 + ((Lib.quoteZ T (bs v.text)).length + (Quo.markB T l).length)))) := by
      simp only [Quo.markB, Quo.markZ, List.length_map, List.length_append, List.length_cons, Quo.ints]
      omega
    rw [e, List.length_cons]
    omega

theorem run_string_buf {B : Nat} {v : Value} {l : List UInt8} {W0 w : World} (h : Buf B v l W0 w) : (convert 144 9 v).run Tryz.prog w = .ok (.string (bs l)) w := by
  rcases h.1.2 with ⟨rfl, h0⟩ | ⟨g, cap, cur, fz, rfl, hb, hg, hfz, hnc, hcm, hcs, htake⟩
  · have : l = [] := List.eq_nil_of_length_eq_zero h0
    subst this
    exact run_convert_bytes_nil w 144 5 Tryz.underlying144 Tryz.underlying5 0 0 9 Tryz.underlying9
  · have hr := run_convert_bytes_arg (P := Tryz.prog) w 144 5 Tryz.underlying144 Tryz.underlying5 g 0 l.length cap (l.map fun c => (c.toNat : Int)) (by simp) (fun i hi => ?_) 9 Tryz.underlying9
    · rw [hr]
      congr 1
      simp only [bs, strOfNums]
      congr 2
      simp [List.map_map]
      congr 1
      conv => rhs; rw [← List.map_id l]
      exact List.map_congr_left fun c _ => by simp
    · have hx : (bytesC l)[i]? = some (Value.int .u8 ((l[i]'hi).toNat : Int)) := by simp [bytesC, List.getElem?_eq_getElem hi]
      have := h.1.cells (g := g) rfl i _ hx
      rw [Addr.add_lit] at this
      rw [this]
      simp [List.getD, List.getElem?_eq_getElem hi]

set_option maxHeartbeats 4000000 in
theorem mark_any (T : Lib.PrintTabs) (p : Option Addr) (N c : Nat) (vs : List Val.V) (w : World) (hA : ValsAt w p N vs) (hN : N ≤ 1048576) (hI : ∀ v ∈ vs, Val.inr v.kind ∧ Val.inr v.int ∧ v.text.length ≤ 1048576) (hT : Tabs T w) :
    Calls Tryz.prog 55 #[.slice p N c] w fun e w' => e = .returned (.string (bs (Quo.markB T vs))) ∧ Below w.heap.size w w' := by
  have hlen := hA.1
  replace hlen := Lib.hid hlen
  replace hI := Lib.hid hI
  replace hT := Lib.hid hT
  go_enter Tryz.func55, Tryz.ntmps55
  go_wp2
  go_loopw [3, 8] (fun bv iv wr => ∃ i : Nat, iv = .int .i64 (i : Int) ∧ i ≤ N ∧ Hid (Buf w.heap.size bv (Quo.markB T (vs.take i)) w wr)) (fun _ iv _ => N - (intOf iv).toNat)
  case atStart => exact ⟨0, by go_num, by omega, Lib.hid ⟨World.ownsRowF_nil _ _ _ _, Below.refl _ _, Nat.le_refl _⟩⟩
  case round =>
    obtain ⟨i, rfl, hi, hb⟩ := hrel
    by_cases hlt : i < N
    · have hlB : decide ((i : Int) < (N : Int)) = true := by simp; omega
      obtain ⟨v, hv⟩ : ∃ v, vs[i]? = some v := ⟨_, List.getElem?_eq_getElem (by rw [hlen.out]; exact hlt)⟩
      have hvi := hI.out v (List.mem_of_getElem? hv)
      have hml := mark_len T (vs.take i) (fun u hu => hI.out u (List.mem_of_mem_take hu))
      have hsn := mark_snoc T (vs.take i) v
      have hti : vs.take (i + 1) = vs.take i ++ [v] := by rw [List.take_add_one, hv]; rfl
      rw [← hti] at hsn
      rcases (hA.below hb.out.2.1).2 with h0 | ⟨b, off, rfl, hbl, hcell⟩
      · rw [h0] at hv; simp at hv
      obtain ⟨c0, c1, c2⟩ := hcell i v hv
      obtain ⟨kd, n, tx⟩ := v
      obtain ⟨t, rfl⟩ : ∃ t : ByteArray, tx = t.data.toList := ⟨bs tx, rfl⟩
      rw [bs_of] at c2 hsn
      simp only at c0 c1 c2 hvi hsn
      obtain ⟨⟨k0, k1⟩, ⟨n0, n1⟩, ht⟩ := hvi
      have hts : t.size ≤ 1048576 := ht
      have hmi : (Quo.markB T (vs.take i)).length ≤ 10995200000000 := by
        have : (vs.take i).length * 10485806 ≤ 1048576 * 10485806 := Nat.mul_le_mul_right _ (by rw [List.length_take, hlen.out]; omega)
        omega
      obtain ⟨M, hM⟩ : ∃ M, Quo.markB T (vs.take i) = M := ⟨_, rfl⟩
      rw [hM] at hb hsn hmi
      have l1 := Val.itoa_len kd k0 k1
      have l2 := Val.itoa_len n n0 n1
      have i0 : (0 : Int) ≤ (i : Int) := by omega
      have i1 : (i : Int) < (N : Int) := by omega
      have hn := heap_new wr (.cells #[.int .i64 kd, .int .i64 n, .string t] 33)
      have hB1 := hb.out.alloc (.cells #[.int .i64 kd, .int .i64 n, .string t] 33)
      have z1 : M.length + 21 ≤ 140737488355328 := by omega
      have z2 : (M ++ Lib.itoa kd).length + 1 ≤ 140737488355328 := by rw [List.length_append]; omega
      have z3 : (M ++ Lib.itoa kd ++ [32]).length + 21 ≤ 140737488355328 := by rw [List.length_append, List.length_append]; simp; omega
      have z4 : (M ++ Lib.itoa kd ++ [32] ++ Lib.itoa n).length + 1 ≤ 140737488355328 := by rw [List.length_append, List.length_append, List.length_append]; simp; omega
      have z5 : (M ++ Lib.itoa kd ++ [32] ++ Lib.itoa n ++ [32]).length + 10 * t.size + 12 ≤ 140737488355328 := by rw [List.length_append, List.length_append, List.length_append, List.length_append]; simp; omega
      have z6 : (33 : TypeId) ≠ 5 := by decide
      have tok1 : True := trivial
      replace hsn := Lib.hid hsn
      replace hn := Lib.hid hn
      replace hB1 := Lib.hid hB1
      clear hv hti hM hml hcell ht hb hA
      go_upto_region 8 with (first
        | (go_at_call 82; have _t := tok1; refine (sint_any kd k0 k1 _ M w _ hB1.out z1 hT.out.pow).mono ?_; rintro e w1 ⟨v1, rfl, hb1, hk1⟩; clear tok1; replace hb1 := Lib.hid hb1; have hn1 := Lib.hid (hk1 _ _ _ _ z6 hn.out); clear hk1)
        | (at_builtin; go_must (refine wpList_byteK rfl rfl _ _ rfl Tryz.underlying144 u8_info w.heap.size v1 (M ++ Lib.itoa kd) w 32 rfl hb1.out rfl z2 ?_); intro v2 w2 hb2 hk2; replace hb2 := Lib.hid hb2; have hn2 := Lib.hid (hk2 _ _ _ _ z6 hn1.out); clear hk2; have q1 : w2.cell? ⟨wr.heap.size, 1, none⟩ = some (.int .i64 n) := cell_of_row _ _ _ _ _ _ hn2.out)
        | (go_at_call 82; refine (sint_any n n0 n1 v2 (M ++ Lib.itoa kd ++ [32]) w _ hb2.out z3 hT.out.pow).mono ?_; rintro e w3 ⟨v3, rfl, hb3, hk3⟩; replace hb3 := Lib.hid hb3; have hn3 := Lib.hid (hk3 _ _ _ _ z6 hn2.out); clear hk3))
      have q2 : w3.cell? ⟨wr.heap.size, 2, none⟩ = some (.string t) := cell_of_row _ _ _ _ _ _ hn3.out
      have H0 : w3.cell? ⟨wr.heap.size, 2, none⟩ = some (.string t) ∧ w3.heap[wr.heap.size]? = some (.cells #[.int .i64 kd, .int .i64 n, .string t] 33 (0, 0)) := ⟨q2, hn3.out⟩
      clear q1 q2 hn hn1 hn2 hn3 hb1 hb2 hB1
      generalize wr.heap.size = K at H0 ⊢
      have q2 := H0.1
      have hKl : K < w3.heap.size := (Array.getElem?_eq_some_iff.1 H0.2).1
      have q3 : (w3.alloc (.cells #[.int .u8 32] 5)).cell? ⟨K, 2, none⟩ = some (.string t) := Lib.cell?_alloc_some _ q2
      go_region_law (first
        | (refine step_byteK (by rfl) _ _ (by rfl) Tryz.underlying144 u8_info w.heap.size v3 (M ++ Lib.itoa kd ++ [32] ++ Lib.itoa n) w 32 (by rfl) hb3.out (by rfl) z4 ?_; intro v4 w4 hb4 hk4; have q4 := (keepQ H0 hk4).1)
        | (go_simp; go_at_call 83; refine (squote_any T v4 (M ++ Lib.itoa kd ++ [32] ++ Lib.itoa n ++ [32]) t w _ hb4 z5 hT.out).mono ?_; rintro e w5 ⟨v5, rfl, hb5⟩))
      all_goals go_wp2
      all_goals go_roundw
      case rel => exact ⟨i + 1, by go_num, by omega, Lib.hid (by rw [hsn.out]; exact hb5)⟩
      case measure => simp [intOf]; omega
      case rel => exact ⟨i + 1, by go_num, by omega, Lib.hid (by rw [hsn.out]; exact hb5)⟩
      case measure => simp [intOf]; omega
      case rel => exact ⟨i + 1, by go_num, by omega, Lib.hid (by rw [hsn.out]; exact hb5)⟩
      case measure => simp [intOf]; omega
    · have hlB : decide ((i : Int) < (N : Int)) = false := by simp; omega
      have hb' := hb.out
      rw [List.take_of_length_le (by rw [hlen.out]; omega)] at hb'
      have hcv := run_string_buf hb'
      have hbel := hb'.2.1
      clear hb hb' hA
      go_wp2
      go_ret
      exact ⟨rfl, hbel⟩
end Go.Proofs.YtdapnemcdgjeeaaGreatDoor

