/- Walks: numbers put behind bytes that the call owns (strconv.AppendInt at base 10), whether the bytes ahead are frozen or not. -/
import Derived.Test.YtdapnemcdgjeeaaDoorShelf
import Derived.Test.YtdapnemcdgjeeaaDoorBase
import Derived.Test.YtdapnemcdgjeeaaDoorMark
import Derived.Lib.BufSteps
import Derived.Lib.AppendIntMem
import Derived.Lib.ItoaMem
import Derived.Lib.BufferKept
import Derived.BigGuardPart
set_option maxRecDepth 100000
set_option linter.unusedVariables false
set_option linter.unusedSimpArgs false
namespace Go.Proofs.YtdapnemcdgjeeaaDoor
open Go.RowKit Go.Sort

/-- the bytes so far, in memory of the call's own -/
def Buf (B : Nat) (v : Value) (ys : List UInt8) (W0 w : World) : Prop := Lib.OwnBuf B 5 v ys.length (bytesC ys) W0 w
/-- rows of other elements than bytes stay as they are -/
def Keeps (w w' : World) : Prop := ∀ (b : Nat) (cs : Array Value) (T : TypeId) (fr : Nat × Nat), T ≠ 5 → w.heap[b]? = some (.cells cs T fr) → w'.heap[b]? = some (.cells cs T fr)
theorem Keeps.refl (w : World) : Keeps w w := fun _ _ _ _ _ h => h
theorem Keeps.trans {a b c : World} (h : Keeps a b) (k : Keeps b c) : Keeps a c := fun x cs T fr hT hx => k x cs T fr hT (h x cs T fr hT hx)
theorem Keeps.below {w w' : World} (h : Below w.heap.size w w') : Keeps w w' := fun b cs T fr _ hb => (h.block b (Array.getElem?_eq_some_iff.1 hb).1).trans hb
theorem Keeps.grown {w w' : World} {B n : Nat} {v : Value} {xs : List Value} (ho : w.ownsRowF B 5 1 v n xs) (hg : w.grownBy w' v.ownBlock) : Keeps w w' := by
  intro b cs T fr hT hb
  refine (hg.block b (Array.getElem?_eq_some_iff.1 hb).1 ?_).trans hb
  intro e
  rcases ho.2 with ⟨rfl, _⟩ | ⟨g, cap, cur, fz, rfl, _, hgg, _⟩
  · simp [Value.ownBlock] at e
  · simp [Value.ownBlock] at e
    subst e
    rw [hgg] at hb
    injection hb with hb
    injection hb with _ h2 _
    exact hT h2.symm
/-- so many bytes more -/
def BufP (B : Nat) (ys : List UInt8) (W0 w : World) (e : Ending) (w' : World) : Prop := ∃ v', e = .returned v' ∧ Buf B v' ys W0 w' ∧ Keeps w w'
theorem Buf.below {B : Nat} {v : Value} {ys : List UInt8} {W0 w w' : World} (h : Buf B v ys W0 w) (hb : Below w.heap.size w w') : Buf B v ys W0 w' := buf_below h hb
theorem Buf.alloc {B : Nat} {v : Value} {ys : List UInt8} {W0 w : World} (h : Buf B v ys W0 w) (o : Obj) : Buf B v ys W0 (w.alloc o) := Lib.OwnBuf.alloc h o
theorem bytesC_app (a b : List UInt8) : bytesC (a ++ b) = bytesC a ++ bytesC b := by simp [bytesC]
theorem bytesC_one (l : List UInt8) : ∀ u ∈ bytesC l, u.oneCell' = true := by
  intro u hu
  obtain ⟨c, _, rfl⟩ := List.mem_map.1 hu
  rfl
theorem Buf.of {B n : Nat} {v : Value} {ys zs : List UInt8} {cs : List Value} {W0 w : World} (h : Lib.OwnBuf B 5 v n cs W0 w) (hn : n = (ys ++ zs).length) (hc : cs = bytesC ys ++ bytesC zs) : Buf B v (ys ++ zs) W0 w := by
  unfold Buf
  rw [bytesC_app, ← hn, ← hc]
  exact h
theorem wpList_byteK {P : Program} {W : World} {nz : Nat} (hnz : W.heap.size = nz) {ops : Array Oper} {rest : List Oper} {o : Oper} {a : Act} {Q : Exit → Act → World → Prop} (hgd : o.guard = none) (s x : Operand)
    (ho : o.op = .call { callee := .builtin .append, args := #[s, x], argTypes := #[61, 61] }) (ht : P.underlying 61 = some (.slice 5)) (hinfo : (P.info? 5).map (fun i => (i.zero, i.size, i.bytes)) = some (some (.int .u8 0), 1, 1))
    (B : Nat) (v : Value) (ys : List UInt8) (W0 : World) (c : UInt8) (hs : a.eval s = v) (hb : Buf B v ys W0 W) (hx : a.eval x = .slice (some ⟨nz, 0, none⟩) 1 1) (hlen : ys.length + 1 ≤ 140737488355328)
    (h : ∀ v' w', Buf B v' (ys ++ [c]) W0 w' → Keeps W w' → wpList P ops Q rest (a.put o.dst v') w') : wpList P ops Q (o :: rest) a (W.alloc (.cells #[.int .u8 (c.toNat : Int)] 5)) := by
  subst hnz
  obtain ⟨i, hi, hz, hsize, hby⟩ := info_parts hinfo
  have hb' := hb.alloc (.cells #[.int .u8 (c.toNat : Int)] 5)
  refine wpList_append_ownF _ hgd s x 61 ho B 5 i (.int .u8 0) 1 1 ht hi hz hsize hby rfl (by decide) v ys.length (bytesC ys) hs hb'.1 ⟨W.heap.size, 0, none⟩ 1 1 (bytesC [c]) hx rfl ?_ (bytesC_one _) (by unfold maxLen; omega) (by omega) hb'.2.2 ?_
  · exact cell_one_new _ _ _
  · intro v' w' ho' hg _
    have hbuf : Lib.OwnBuf B 5 v' (ys.length + 1) (bytesC ys ++ bytesC [c]) W0 w' := Lib.OwnBuf.grown hb' ho' hg
    exact h v' w' (Buf.of hbuf (by simp) rfl) ((Keeps.below ((Below.refl _ _).alloc (Nat.le_refl _) _)).trans (Keeps.grown hb'.1 hg))
theorem u8_info : (Tryd.prog.info? 5).map (fun i => (i.zero, i.size, i.bytes)) = some (some (.int .u8 0), 1, 1) := by kernel_rfl
theorem zeros_info : (Tryd.prog.info? 101).map (fun i => i.size) = some 24 := by kernel_rfl

set_option maxHeartbeats 4000000 in
theorem auint_small (B u : Nat) (hu : u < 100) (v : Value) (ys : List UInt8) (W0 w : World) (hb : Buf B v ys W0 w) (hlim : ys.length + 20 ≤ 140737488355328) :
    Calls Tryd.prog 59 #[v, .int .u64 u, .int .i64 10] w (BufP B (ys ++ Lib.decDigits u) W0 w) := by
  obtain ⟨i0, hi, hz0, hz1, hz2⟩ := info_parts u8_info
  have hl : (Lib.decDigits u).length ≤ 20 := by
    rw [Lib.decDigits_length]
    by_cases h10 : u < 10
    · rw [Lib.nDigits_small h10]; omega
    · rw [Lib.nDigits_big h10, Lib.nDigits_small (show u / 10 < 10 by omega)]; omega
  have hsz : (bs (Lib.decDigits u)).size = (Lib.decDigits u).length := bs_size _
  have hB := Lib.hid hb
  clear hb
  go_enter Tryd.func59, Tryd.ntmps59
  go_wp2_with (first
    | (go_at_call 74; refine (Tryd.internal_strconv_small u hu _).mono ?_; rintro e w1 ⟨rfl, rfl⟩)
    | (at_builtin; refine Lib.wpList_append_own_stringF _ rfl _ _ 61 9 rfl B 5 i0 Tryd.underlying61 Tryd.underlying9 hi hz0 hz1 hz2 v ys.length (bytesC ys) rfl hB.out.1 (bs (Lib.decDigits u)) rfl (by rw [hsz]; unfold maxLen; omega) (by rw [hsz]; omega) hB.out.2.2 ?_))
  intro v' w' ho' hg _
  have hb' := Lib.OwnBuf.grown hB.out ho' hg
  have hk := Keeps.grown hB.out.1 hg
  go_wp2
  go_ret
  exact ⟨v', rfl, Buf.of hb' (by rw [List.length_append]) rfl, hk⟩

set_option maxHeartbeats 8000000 in
theorem auint_big (B u : Nat) (hu : 100 ≤ u) (hu64 : u < 18446744073709551616) (v : Value) (ys : List UInt8) (W0 w : World) (hb : Buf B v ys W0 w) (hlim : ys.length + 20 ≤ 140737488355328)
    (htab : Lib.TabIs Tryd.prog w "internal/strconv.uint64pow10" .u64 Lib.pow10Tab) :
    Calls Tryd.prog 59 #[v, .int .u64 u, .int .i64 10] w (BufP B (ys ++ Lib.decDigits u) W0 w) := by
  obtain ⟨i0, hi, hz0, hz1, hz2⟩ := info_parts u8_info
  have h1 : 1 ≤ u := by omega
  have hnd : Lib.nDigits u ≤ 20 := by have := Lib.numDigits_eq u h1 hu64; split at this <;> omega
  obtain ⟨D, hD⟩ : ∃ D, D = Lib.nDigits u := ⟨_, rfl⟩
  have hz := Lib.holds_zero0 w 101 D (by omega)
  have hf := Tryd.internal_strconv_formatBase10 w.heap.size 0 24 u (Array.replicate D 0) (w.alloc (.cells Lib.zeros24 101)) hz (by rw [Array.size_replicate, hD]; exact Lib.lt_pow_nDigits u) hu64 (by rw [Array.size_replicate]; omega)
  rw [Array.size_replicate] at hf
  have hsl : ∀ W, (Instr.sliceAt 101 (.pointer (some ⟨w.heap.size, 0, none⟩)) none (some (.int .i64 (D : Int))) none).run Tryd.prog W = .ok (.slice (some ⟨w.heap.size, 0, none⟩) D 24) W := fun W => by
    have hal : Tryd.prog.arrayLen 101 = 24 := by simp [Program.arrayLen, Tryd.underlying101]
    rw [run_sliceAt_array_h W 101 ⟨w.heap.size, 0, none⟩ (by simp [Program.arrayLen, Program.elem, Tryd.underlying101]) .i64 (D : Int) (by omega) (by rw [hal]; omega)]
    go_simp
  have hB := Lib.hid hb
  have hZ := Lib.hid hz
  have hDD := Lib.hid hD
  have iu : (100 : Int) ≤ (u : Int) := by omega
  clear hb hz hD
  go_enter Tryd.func59, Tryd.ntmps59
  go_wp2_with (first
    | (go_at_call 75; refine (Tryd.internal_strconv_numDigits u h1 hu64 _ (Lib.tabIs_alloc htab _)).mono ?_; rintro e w1 ⟨rfl, rfl⟩; rw [← hDD.out]))
  go_at_call 76
  refine hf.mono ?_
  rintro e w1 ⟨rfl, k, v1, dk, rfl, hF⟩
  -- the world that is left: the old one, draws, new blocks; the block's first bytes are the numeral
  have hdig : ∀ j x, (bytesC (Lib.decDigits u))[j]? = some x → ((putRow (fun (b : UInt8) => Value.int .u8 (b.toNat : Int)) (w.alloc (.cells Lib.zeros24 101)) w.heap.size 0 dk).drewN k).cell? ((⟨w.heap.size, 0, none⟩ : Addr).add j) = some x := by
    intro j x hj
    have hjl : j < (Lib.decDigits u).length := by
      have h5 := (List.getElem?_eq_some_iff.1 hj).1
      rwa [bytesC_len] at h5
    have e5 : (bytesC (Lib.decDigits u))[j]? = some (Value.int .u8 ((Lib.decDigits u)[j].toNat : Int)) := by simp [bytesC, hjl]
    rw [e5] at hj
    cases hj
    rw [hDD.out] at hF
    rw [Lib.row_is_numeral hF j hjl, Lib.add_plain, World.cell?_drewN]
    refine cell?_putRow (fun (b : UInt8) => Value.int .u8 (b.toNat : Int)) _ w.heap.size 0 _ dk hZ.out ?_ j ?_
    · rw [hF.size, Array.size_replicate, hDD.out]
    · rw [hF.size]; rwa [Lib.decDigits_length] at hjl
  obtain ⟨os, eo⟩ := Lib.fin_at w (.cells Lib.zeros24 101) dk k 0
  have hbel : Below w.heap.size w ((putRow (fun (b : UInt8) => Value.int .u8 (b.toNat : Int)) (w.alloc (.cells Lib.zeros24 101)) w.heap.size 0 dk).drewN k) := by rw [eo]; exact Lib.below_grow w.heap.size w (Nat.le_refl _) k os
  generalize (putRow (fun (b : UInt8) => Value.int .u8 (b.toNat : Int)) (w.alloc (.cells Lib.zeros24 101)) w.heap.size 0 dk).drewN k = W2 at hdig hbel ⊢
  have hb2 := hB.out.below hbel
  clear eo hZ hf
  go_wp2_with (at_builtin; refine wpList_append_ownF _ rfl _ _ 61 rfl B 5 i0 (.int .u8 0) 1 1 Tryd.underlying61 hi hz0 hz1 hz2 rfl (by decide) v ys.length (bytesC ys) rfl hb2.1 ⟨w.heap.size, 0, none⟩ D 24 (bytesC (Lib.decDigits u)) rfl ?c0 hdig (bytesC_one _) ?c3 ?c4 hb2.2.2 ?_)
  case c0 => rw [bytesC_len, Lib.decDigits_length, Nat.mul_one, hDD.out]
  case c3 => unfold maxLen; have := hDD.out; omega
  case c4 => have := hDD.out; omega
  intro v2 w3 hown' hgrow _
  have hbuf := Lib.OwnBuf.grown hb2 hown' hgrow
  have hk := (Keeps.below hbel).trans (Keeps.grown hb2.1 hgrow)
  go_wp2
  go_ret
  exact ⟨v2, rfl, Buf.of hbuf (by rw [List.length_append, Lib.decDigits_length, hDD.out]) rfl, hk⟩

theorem tab_below {w w' : World} (h : Lib.TabIs Tryd.prog w "internal/strconv.uint64pow10" .u64 Lib.pow10Tab) (hb : Below w.heap.size w w') : Lib.TabIs Tryd.prog w' "internal/strconv.uint64pow10" .u64 Lib.pow10Tab := (Lib.tabBelow_of_tabIs h) w' hb
theorem auint_any (u : Nat) (hu64 : u < 18446744073709551616) (v : Value) (ys : List UInt8) (W0 w : World) (hb : Buf W0.heap.size v ys W0 w) (hlim : ys.length + 20 ≤ 140737488355328)
    (htab : Lib.TabIs Tryd.prog W0 "internal/strconv.uint64pow10" .u64 Lib.pow10Tab) :
    Calls Tryd.prog 59 #[v, .int .u64 u, .int .i64 10] w (BufP W0.heap.size (ys ++ Lib.decDigits u) W0 w) := by
  by_cases h : u < 100
  · exact auint_small _ u h v ys W0 w hb hlim
  · exact auint_big _ u (by omega) hu64 v ys W0 w hb hlim (tab_below htab hb.2.1)
theorem aint_any (i : Int) (h0 : -9223372036854775808 ≤ i) (h1 : i ≤ 9223372036854775807) (v : Value) (ys : List UInt8) (W0 w : World) (hb : Buf W0.heap.size v ys W0 w) (hlim : ys.length + 21 ≤ 140737488355328)
    (htab : Lib.TabIs Tryd.prog W0 "internal/strconv.uint64pow10" .u64 Lib.pow10Tab) :
    Calls Tryd.prog 45 #[v, .int .i64 i, .int .i64 10] w (BufP W0.heap.size (ys ++ Lib.itoa i) W0 w) := by
  obtain ⟨i0, hi, hz0, hz1, hz2⟩ := info_parts u8_info
  by_cases hneg : i < 0
  · obtain ⟨u, rfl⟩ : ∃ u : Nat, i = -(u : Int) := ⟨i.natAbs, by omega⟩
    have hu64 : u < 18446744073709551616 := by omega
    have hwr : IntKind.u64.wrap (-IntKind.u64.wrap (-(u : Int))) = (u : Int) := by rw [IntKind.wrap_u64, IntKind.wrap_u64]; omega
    have hit := Lib.hid (Lib.itoa_neg u (by omega))
    have hB := Lib.hid hb
    clear hb
    go_enter Tryd.func45, Tryd.ntmps45
    go_wp2_with (first
      | (at_builtin; go_must (refine wpList_byteK rfl rfl _ _ rfl Tryd.underlying61 u8_info W0.heap.size v ys W0 45 rfl hB.out rfl (by omega) ?_); intro v1 w1 hb1' hk1; replace hb1' := Lib.hid hb1'; replace hk1 := Lib.hid hk1)
      | (go_at_call 59; refine (auint_any u hu64 v1 (ys ++ [45]) W0 _ hb1'.out (by simp; omega) htab).mono ?_; rintro e w2 ⟨v2, rfl, hb2, hk2⟩))
    go_ret
    refine ⟨v2, rfl, ?_, hk1.out.trans hk2⟩
    rw [hit.out]
    simpa using hb2
  · obtain ⟨u, rfl⟩ : ∃ u : Nat, i = u := ⟨i.toNat, by omega⟩
    have hu64 : u < 18446744073709551616 := by omega
    have hit := Lib.hid (Lib.itoa_nonneg u)
    have hB := Lib.hid hb
    clear hb
    go_enter Tryd.func45, Tryd.ntmps45
    go_wp2_with (go_at_call 59; refine (auint_any u hu64 v ys W0 _ hB.out (by omega) htab).mono ?_; rintro e w2 ⟨v2, rfl, hb2, hk2⟩)
    go_ret
    exact ⟨v2, rfl, by rw [hit.out]; exact hb2, hk2⟩
theorem sint_any (i : Int) (h0 : -9223372036854775808 ≤ i) (h1 : i ≤ 9223372036854775807) (v : Value) (ys : List UInt8) (W0 w : World) (hb : Buf W0.heap.size v ys W0 w) (hlim : ys.length + 21 ≤ 140737488355328)
    (htab : Lib.TabIs Tryd.prog W0 "internal/strconv.uint64pow10" .u64 Lib.pow10Tab) :
    Calls Tryd.prog 35 #[v, .int .i64 i, .int .i64 10] w (BufP W0.heap.size (ys ++ Lib.itoa i) W0 w) := by
  go_enter Tryd.func35, Tryd.ntmps35
  go_wp2_with (go_at_call 45; refine (aint_any i h0 h1 v ys W0 _ hb hlim htab).mono ?_; rintro e w2 ⟨v2, rfl, hb2, hk2⟩)
  go_ret
  exact ⟨v2, rfl, hb2, hk2⟩
end Go.Proofs.YtdapnemcdgjeeaaDoor
