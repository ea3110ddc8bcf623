/- Aggregates: head: Of("Sum", 2, 3), New("nope"), Has("COUNT"). -/
import Derived.Test.YtdapnemcdgjeeaaGreatDoorNew2
import Derived.Test.YtdapnemcdgjeeaaGreatDoorGat3
import Derived.Deep.RegionWith
set_option maxRecDepth 100000
set_option linter.unusedVariables false
set_option linter.unusedSimpArgs false
namespace Go.Proofs.YtdapnemcdgjeeaaGreatDoor
open Go.RowKit

theorem there_is (s : Nat) (st : Bool) (T : TypeId) (p : Value) (W : World) (hB : Blk W s 91 #[.bool st, .iface T p]) :
    Calls Tryz.prog 49 #[.pointer (some ⟨s, 0, none⟩)] W fun e w' => e = .returned (.bool true) ∧ w' = W := by
  have c1 := hB.cell 1
  simp only [List.getElem?_toArray, List.getElem?_cons_zero, List.getElem?_cons_succ] at c1
  go_enter Tryz.func49, Tryz.ntmps49
  go_wp2
  go_ret
  exact ⟨rfl, rfl⟩
theorem meth_answer (b : Nat) (w : World) : (method 393 127 (.pointer (some ⟨b, 0, none⟩)) "bureau/agg.answer").run Tryz.prog w = .ok (206, .pointer (some ⟨b, 0, none⟩)) w := by kernel_rfl
theorem meth_take (b : Nat) (w : World) : (method 393 127 (.pointer (some ⟨b, 0, none⟩)) "bureau/agg.take").run Tryz.prog w = .ok (208, .pointer (some ⟨b, 0, none⟩)) w := by kernel_rfl
set_option maxHeartbeats 1000000 in
theorem value_sum (s b : Nat) (k n : Int) (t : ByteArray) (W : World) (hB : Blk W s 91 #[.bool false, .iface 127 (.pointer (some ⟨b, 0, none⟩))])
    (hA : ∀ W', Below W.heap.size W W' → Calls Tryz.prog 206 #[.pointer (some ⟨b, 0, none⟩)] W' (ValR k n t W')) :
    Calls Tryz.prog 26 #[.pointer (some ⟨s, 0, none⟩)] W (ValR k n t W) := by
  have hb0 := newB W (.cells #[.int .i64 0, .int .i64 0, .string ⟨#[]⟩] 33)
  have hG0 := Blk.new W 33 #[.int .i64 0, .int .i64 0, .string ⟨#[]⟩]
  have hB0 := hB.alloc (.cells #[.int .i64 0, .int .i64 0, .string ⟨#[]⟩] 33)
  obtain ⟨g, hg⟩ : ∃ g, W.heap.size = g := ⟨_, rfl⟩
  obtain ⟨W0, hW0⟩ : ∃ x, W.alloc (.cells #[.int .i64 0, .int .i64 0, .string ⟨#[]⟩] 33) = x := ⟨_, rfl⟩
  rw [hg] at hG0
  rw [hW0] at hG0 hb0 hB0
  have c1 := hB0.cell 1
  simp only [List.getElem?_toArray, List.getElem?_cons_zero, List.getElem?_cons_succ] at c1
  have hg' : W.heap.size ≤ g := by omega
  have hm := meth_answer b
  go_enter Tryz.func26, Tryz.ntmps26
  go_wp2_with (first
    | (go_at_call 49; refine (there_is s _ _ _ _ hB0).mono ?_; rintro e w1 ⟨rfl, rfl⟩)
    | (go_at_call 206; refine (hA _ hb0).mono ?_; rintro e w2 ⟨rfl, hb2⟩; have hG2 := hG0.on hb2; have y0 := hG2.cell 0; have y1 := hG2.cell 1; have y2 := hG2.cell 2; have f0 := hG2.free 0; have f1 := hG2.free 1; have f2 := hG2.free 2; simp only [List.getElem?_toArray, List.getElem?_cons_zero, List.getElem?_cons_succ] at y0 y1 y2))
  refine bodyPost_ret (v := .agg #[.int .i64 k, .int .i64 n, .string t]) (by simp only [results, Tryz.results26]; go_simp) rfl ⟨rfl, ?_⟩
  exact set3_below (stepB hb0 hb2) hg' _ _ _
theorem num_int_is (n : Int) (w : World) : Calls Tryz.prog 209 #[.agg #[.int .i64 1, .int .i64 n, .string ⟨#[]⟩]] w (ValR 1 n ⟨#[]⟩ w) := by
  have e : Val.may ⟨1, n, (⟨#[]⟩ : ByteArray).data.toList⟩ = true := by simp [Val.may]
  have hm := fun W => may_any 1 n ⟨#[]⟩ W
  rw [e] at hm
  clear e
  have hb0 := stepB (newB w (.cells #[.int .i64 1, .int .i64 n, .string ⟨#[]⟩] 33)) (newB _ (.cells #[.int .i64 0, .int .i64 0, .string ⟨#[]⟩] 33))
  have hV0 := (Blk.new w 33 #[.int .i64 1, .int .i64 n, .string ⟨#[]⟩]).alloc (.cells #[.int .i64 0, .int .i64 0, .string ⟨#[]⟩] 33)
  have hG0 := Blk.new (w.alloc (.cells #[.int .i64 1, .int .i64 n, .string ⟨#[]⟩] 33)) 33 #[.int .i64 0, .int .i64 0, .string ⟨#[]⟩]
  have hsz : (w.alloc (.cells #[.int .i64 1, .int .i64 n, .string ⟨#[]⟩] 33)).heap.size = w.heap.size + 1 := by simp
  rw [hsz] at hG0
  go_enter Tryz.func209, Tryz.ntmps209
  go_wp2_with (go_at_call 50; refine (hm _).mono ?_; rintro e w1 ⟨rfl, hb1⟩; have hV1 := hV0.on hb1; have hG1 := hG0.on hb1; have v0 := hV1.cell 0; have v1 := hV1.cell 1; have v2 := hV1.cell 2; have y0 := hG1.cell 0; have y1 := hG1.cell 1; have y2 := hG1.cell 2; have f0 := hG1.free 0; have f1 := hG1.free 1; have f2 := hG1.free 2; simp only [List.getElem?_toArray, List.getElem?_cons_zero, List.getElem?_cons_succ] at v0 v1 v2 y0 y1 y2)
  refine bodyPost_ret (v := .agg #[.int .i64 1, .int .i64 n, .string ⟨#[]⟩]) (by simp only [results, Tryz.results209]; go_simp) rfl ⟨rfl, ?_⟩
  exact set3_below (stepB hb0 hb1) (by omega) _ _ _
set_option maxHeartbeats 1000000 in
theorem step_sum (s b m n : Nat) (x : Bool) (W : World) (hm : m < 1000) (hn : n < 1000) (hsb : s ≠ b) (hB : Blk W s 91 #[.bool false, .iface 127 (.pointer (some ⟨b, 0, none⟩))]) (hS : Blk W b 130 #[.int .u64 0, .int .u64 (m : Int), .bool x]) :
    Calls Tryz.prog 25 #[.pointer (some ⟨s, 0, none⟩), .agg #[.int .i64 1, .int .i64 (n : Int), .string ⟨#[]⟩]] W fun e w' => e = .returned (.int .i64 0) ∧ Blk w' b 130 #[.int .u64 0, .int .u64 ((m + n : Nat) : Int), .bool true] ∧ Turned (· = b) W w' := by
  have hmt := meth_take b
  have e : Val.may ⟨1, (n : Int), (⟨#[]⟩ : ByteArray).data.toList⟩ = true := by simp [Val.may]
  have hmay := fun W => may_any 1 (n : Int) ⟨#[]⟩ W
  rw [e] at hmay
  clear e
  have hb0 := newB W (.cells #[.int .i64 1, .int .i64 (n : Int), .string ⟨#[]⟩] 33)
  have hV0 := Blk.new W 33 #[.int .i64 1, .int .i64 (n : Int), .string ⟨#[]⟩]
  have hB0 := hB.on hb0
  have hS0 := hS.on hb0
  obtain ⟨v, hv⟩ : ∃ v, W.heap.size = v := ⟨_, rfl⟩
  obtain ⟨W0, hW0⟩ : ∃ x, W.alloc (.cells #[.int .i64 1, .int .i64 (n : Int), .string ⟨#[]⟩] 33) = x := ⟨_, rfl⟩
  rw [hv] at hV0
  rw [hW0] at hb0 hV0 hB0 hS0
  go_enter Tryz.func25, Tryz.ntmps25
  go_wp2_with (first
    | (go_at_call 49; refine (there_is s _ _ _ _ hB0).mono ?_; rintro e w1 ⟨rfl, rfl⟩; have x0 := hV0.cell 0; have x1 := hV0.cell 1; have x2 := hV0.cell 2; simp only [List.getElem?_toArray, List.getElem?_cons_zero, List.getElem?_cons_succ] at x0 x1 x2)
    | (go_at_call 50; refine (hmay _).mono ?_; rintro e w2 ⟨rfl, hb2⟩; have hV2 := hV0.on hb2; have hB2 := hB0.on hb2; have hS2 := hS0.on hb2; have v0 := hV2.cell 0; have v1 := hV2.cell 1; have v2 := hV2.cell 2; have y0 := hB2.cell 0; have y1 := hB2.cell 1; simp only [List.getElem?_toArray, List.getElem?_cons_zero, List.getElem?_cons_succ] at v0 v1 v2 y0 y1))
  have w1 : IntKind.u64.wrap (n : Int) = ((n : Nat) : Int) := by simp [IntKind.wrap, IntKind.bits, IntKind.signed]; omega
  have w2' : IntKind.u64.wrap ((n : Int) / 9223372036854775808) = ((0 : Nat) : Int) := by
    have : (n : Int) / 9223372036854775808 = 0 := by omega
    rw [this]; rfl
  have hTk := fun W' (h : Blk W' b 130 #[.int .u64 ((0 : Nat) : Int), .int .u64 (m : Int), .bool x]) => sum_take_some b 0 m x 1 (n : Int) ⟨#[]⟩ (n : Int) n 0 (m + n) 0 0 w1 w2' (by omega) (by omega) (by omega) (by omega) (by omega) (by omega) (by omega) (by omega) W' h (fun W'' _ => num_int_is (n : Int) W'')
  clear w1 w2'
  go_region_with (go_at_call 208; refine (hTk _ hS2.drew).mono ?_; rintro e w3 ⟨rfl, hS3, hT3⟩)
  all_goals (
    have hT4 : Turned (· = b) W w3 := ((Turned.of (stepB hb0 hb2)).drew).trans hT3
    go_wp2
    go_ret
    exact ⟨rfl, hS3, hT4⟩)
theorem Blk.ne {W : World} {s b : Nat} {T T' : TypeId} {vs vs' : Array Value} (h : Blk W s T vs) (h' : Blk W b T' vs') (hT : T ≠ T') : s ≠ b := by
  intro e
  subst e
  unfold Blk at h h'
  rw [h] at h'
  injection h' with h'
  injection h' with _ h'
  exact hT h'
/-- the sum of the first i of 2 and 3 -/
def sum23 (i : Nat) : Nat := if i = 0 then 0 else if i = 1 then 2 else 5
set_option maxHeartbeats 2000000 in
theorem of_sum_is (b0 c : Nat) (w : World) (hA : Blk w b0 33 #[.int .i64 1, .int .i64 2, .string ⟨#[]⟩, .int .i64 1, .int .i64 3, .string ⟨#[]⟩])
    (hN : ∀ W, Below w.heap.size w W → Calls Tryz.prog 18 #[.string ⟨#[83, 117, 109]⟩, .bool false, .bool false, .int .i64 0] W (NewP (some 1) false false 0 W)) :
    Calls Tryz.prog 14 #[.string ⟨#[83, 117, 109]⟩, .bool false, .int .i64 0, .slice (some ⟨b0, 0, none⟩) 2 c] w fun e w' => e = .returned (.tuple #[.agg #[.int .i64 1, .int .i64 5, .string ⟨#[]⟩], .int .i64 0]) ∧ Below w.heap.size w w' := by
  have hb0 := newB w (.cells #[.int .i64 0, .int .i64 0, .string ⟨#[]⟩] 33)
  have hG0 := Blk.new w 33 #[.int .i64 0, .int .i64 0, .string ⟨#[]⟩]
  have hA0 := hA.on hb0
  have hlA := hA.lt
  obtain ⟨g, hg⟩ : ∃ g, w.heap.size = g := ⟨_, rfl⟩
  obtain ⟨W0, hW0⟩ : ∃ x, w.alloc (.cells #[.int .i64 0, .int .i64 0, .string ⟨#[]⟩] 33) = x := ⟨_, rfl⟩
  rw [hg] at hG0
  rw [hW0] at hG0 hb0 hA0
  have hg' : w.heap.size ≤ g := by omega
  go_enter Tryz.func14, Tryz.ntmps14
  go_wp2_with (go_at_call 18; refine (hN _ hb0).mono ?_; rintro e w1 ⟨sp, rfl, hb1, _, hy⟩; obtain ⟨s, rfl, hs, gv, hB1, hgn⟩ := hy rfl; obtain ⟨k, hk, hgn⟩ := hgn rfl; obtain rfl : 1 = k := Option.some.inj hk; obtain ⟨b, hbb, rfl, hS1⟩ := hgn; have hE : newE (some 1) false false = 0 := rfl; have hG1 := hG0.on hb1; have hA1 := hA0.on hb1; have hb01 := stepB hb0 hb1)
  have hsb : s ≠ b := Blk.ne hB1 hS1 (by decide)
  have hbb0 : b ≠ b0 := by have := hb0.size; omega
  have hbg : b ≠ g := by have := hG0.lt; omega
  have hwb : w.heap.size ≤ b := by have := hb0.size; omega
  clear hN hA hA0 hG0 hb0 hb1 hE
  go_loopw [28] (fun iv wr => ∃ i : Nat, iv = .int .i64 (i : Int) ∧ i ≤ 2 ∧ Blk wr s 91 #[.bool false, .iface 127 (.pointer (some ⟨b, 0, none⟩))] ∧ Blk wr b 130 #[.int .u64 0, .int .u64 (sum23 i : Int), .bool (decide (0 < i))] ∧ Blk wr b0 33 #[.int .i64 1, .int .i64 2, .string ⟨#[]⟩, .int .i64 1, .int .i64 3, .string ⟨#[]⟩] ∧ Blk wr g 33 #[.int .i64 0, .int .i64 0, .string ⟨#[]⟩] ∧ Below w.heap.size w wr) (fun iv _ => 2 - (intOf iv).toNat)
  case atStart => exact ⟨0, rfl, by omega, hB1, hS1, hA1, hG1, hb01⟩
  case round =>
    obtain ⟨i, rfl, hi, hB, hS, hA, hG, hb⟩ := hrel
    have hlA2 := hA.lt
    have a0 := hA.cell 0
    have a1 := hA.cell 1
    have a2 := hA.cell 2
    have a3 := hA.cell 3
    have a4 := hA.cell 4
    have a5 := hA.cell 5
    simp only [List.getElem?_toArray, List.getElem?_cons_zero, List.getElem?_cons_succ] at a0 a1 a2 a3 a4 a5
    rcases (by omega : i = 0 ∨ i = 1 ∨ i = 2) with rfl | rfl | rfl
    · replace hS : Blk wr b 130 #[.int .u64 0, .int .u64 ((0 : Nat) : Int), .bool false] := by simpa [sum23] using hS
      have hst := fun W' (h1 : Blk W' s 91 #[.bool false, .iface 127 (.pointer (some ⟨b, 0, none⟩))]) (h2 : Blk W' b 130 #[.int .u64 0, .int .u64 ((0 : Nat) : Int), .bool false]) => step_sum s b 0 2 false W' (by omega) (by omega) hsb h1 h2
      have hB2 := hB.on (newB wr (.cells #[.int .i64 1, .int .i64 2, .string ⟨#[]⟩] 33))
      have hS2 := hS.on (newB wr (.cells #[.int .i64 1, .int .i64 2, .string ⟨#[]⟩] 33))
      go_wp2_with (go_at_call 25; refine (hst _ hB2 hS2).mono ?_; rintro e w3 ⟨rfl, hS3, hT3⟩)
      go_roundw
      case rel => exact ⟨1, rfl, by omega, hB2.turned hT3 hsb, by simpa [sum23] using hS3, (hA.alloc _).turned hT3 hbb0.symm, (hG.alloc _).turned hT3 hbg.symm, ((hb.alloc (by exact hb.size) _).trans (hT3.below (by have := hb.size; simp; omega) (fun k _ hk => by rw [hk]; exact hwb)))⟩
      case measure => simp [intOf]
    · replace hS : Blk wr b 130 #[.int .u64 0, .int .u64 ((2 : Nat) : Int), .bool true] := by simpa [sum23] using hS
      have hst := fun W' (h1 : Blk W' s 91 #[.bool false, .iface 127 (.pointer (some ⟨b, 0, none⟩))]) (h2 : Blk W' b 130 #[.int .u64 0, .int .u64 ((2 : Nat) : Int), .bool true]) => step_sum s b 2 3 true W' (by omega) (by omega) hsb h1 h2
      have hB2 := hB.on (newB wr (.cells #[.int .i64 1, .int .i64 3, .string ⟨#[]⟩] 33))
      have hS2 := hS.on (newB wr (.cells #[.int .i64 1, .int .i64 3, .string ⟨#[]⟩] 33))
      go_wp2_with (go_at_call 25; refine (hst _ hB2 hS2).mono ?_; rintro e w3 ⟨rfl, hS3, hT3⟩)
      go_roundw
      case rel => exact ⟨2, rfl, by omega, hB2.turned hT3 hsb, by simpa [sum23] using hS3, (hA.alloc _).turned hT3 hbb0.symm, (hG.alloc _).turned hT3 hbg.symm, ((hb.alloc (by exact hb.size) _).trans (hT3.below (by have := hb.size; simp; omega) (fun k _ hk => by rw [hk]; exact hwb)))⟩
      case measure => simp [intOf]
    · replace hS : Blk wr b 130 #[.int .u64 ((0 : Nat) : Int), .int .u64 ((5 : Nat) : Int), .bool true] := by simpa [sum23] using hS
      have hr : Hid ((((0 : Nat) : Int) == ((0 : Nat) : Int)) = true) := Lib.hid rfl
      have hans := fun W' (h : Blk W' b 130 #[.int .u64 ((0 : Nat) : Int), .int .u64 ((5 : Nat) : Int), .bool true]) => sum_answer_some b 0 5 5 0 W' (by rfl) (by rfl) true hr h
      go_wp2_with (go_at_call 26; refine (value_sum s b 1 5 ⟨#[]⟩ _ hB (fun W' hW' => by have h := hans W' (hS.on hW'); rw [if_pos rfl] at h; exact h)).mono ?_; rintro e w4 ⟨rfl, hb4⟩; have hG4 := hG.on hb4; have y0 := hG4.cell 0; have y1 := hG4.cell 1; have y2 := hG4.cell 2; have f0 := hG4.free 0; have f1 := hG4.free 1; have f2 := hG4.free 2; simp only [List.getElem?_toArray, List.getElem?_cons_zero, List.getElem?_cons_succ] at y0 y1 y2)
      refine bodyPost_ret (v := .tuple #[.agg #[.int .i64 1, .int .i64 5, .string ⟨#[]⟩], .int .i64 0]) (by simp only [results, Tryz.results14]; go_simp) rfl ⟨rfl, ?_⟩
      exact set3_below (stepB hb hb4) hg' _ _ _

/-! by any name -/
abbrev U8 (w : World) : Prop := Lib.Utf8Tabs 1 2 w
theorem kind_at (s : ByteArray) (c : Int) (w : World) (hs : s.size ≤ 1048576) (hT : U8 w) : Calls Tryz.prog 44 #[.string s, .int .i64 c] w (KindP (kindN (s.data.toList.map Txt.lower)) c w) := by
  have h := kind_is s c w hs hT _ (Lib.hid rfl)
  have e : (bs (Lib.mapD Quo.lowerR s.data.toList)).toList = Lib.mapD Quo.lowerR s.data.toList := by rw [Lib.toList_data]; rfl
  rw [e, kindN_map] at h
  exact h
theorem counts_at (s : ByteArray) (hs : s.size ≤ 1048576) (w : World) : Calls Tryz.prog 45 #[.string s] w fun e w' => e = .returned (.bool (decide (kindN (s.data.toList.map Txt.lower) = some 0))) ∧ Below w.heap.size w w' :=
  counts_is s w hs _ (Lib.hid (by rw [decide_eq_decide]; exact (kindN_count _).symm))
theorem new_at (s : ByteArray) (d st : Bool) (c : Int) (w : World) (hs : s.size ≤ 1048576) (hT : U8 w) : Calls Tryz.prog 18 #[.string s, .bool d, .bool st, .int .i64 c] w (NewP (kindN (s.data.toList.map Txt.lower)) d st c w) := by
  have hK := kind_at s c w hs hT
  have hC := counts_at s hs
  cases ho : kindN (s.data.toList.map Txt.lower) with
  | none =>
    rw [ho] at hK
    exact new_none s d st c w hs hK
  | some k =>
    rw [ho] at hK
    refine new_some s d st c k w hK fun W => ?_
    have := hC W
    rw [ho] at this
    have e : decide (some k = some 0) = decide (k = 0) := by simp
    rw [e] at this
    exact this
theorem has_at (s : ByteArray) (args : Int) (st : Bool) (w : World) (hs : s.size ≤ 1048576) (hT : U8 w) (r : Bool) (hr : Hid (hasV (kindN (s.data.toList.map Txt.lower)) args st = r)) :
    Calls Tryz.prog 20 #[.string s, .int .i64 args, .bool st] w fun e w' => e = .returned (.bool r) ∧ Below w.heap.size w w' := by
  cases st with
  | true => exact has_star s args w _ (counts_at s hs) r (Lib.hid (by rw [← hr.out]; unfold hasV; rw [if_pos rfl]))
  | false => exact has_none s args w _ (kind_at s 0 w hs hT) r (Lib.hid (by rw [← hr.out]; unfold hasV; rw [if_neg (by decide)]))
theorem rint19_is (n : Int) (w : World) : Calls Tryz.prog 30 #[.int .i64 n] w (ValR 1 n ⟨#[]⟩ w) := by
  have hb0 := newB w (.cells #[.int .i64 0, .int .i64 0, .string ⟨#[]⟩] 33)
  go_enter Tryz.func30, Tryz.ntmps30
  go_wp2
  refine bodyPost_ret (v := .agg #[.int .i64 1, .int .i64 n, .string ⟨#[]⟩]) (by simp only [results, Tryz.results30]; go_simp) rfl ⟨rfl, ?_⟩
  first | exact hb0 | exact newB _ _ | exact set3_below hb0 (Nat.le_refl _) _ _ _
theorem keepV3 {w W W' : World} {v : Nat} {x5 x6 x7 : Value} (lv : v < w.heap.size)
    (h : W.cell? ⟨v, 0, none⟩ = some x5 ∧ W.cell? ⟨v, 1, none⟩ = some x6 ∧ W.cell? ⟨v, 2, none⟩ = some x7 ∧ Below w.heap.size w W) (hb : Below W.heap.size W W') :
    W'.cell? ⟨v, 0, none⟩ = some x5 ∧ W'.cell? ⟨v, 1, none⟩ = some x6 ∧ W'.cell? ⟨v, 2, none⟩ = some x7 ∧ Below w.heap.size w W' := by
  obtain ⟨h5, h6, h7, hB⟩ := h
  have lv' := Nat.lt_of_lt_of_le lv hB.size
  exact ⟨(hb.cell (p := ⟨v, 0, none⟩) lv').trans h5, (hb.cell (p := ⟨v, 1, none⟩) lv').trans h6, (hb.cell (p := ⟨v, 2, none⟩) lv').trans h7, hB.trans (hb.mono hB.size)⟩
theorem keepV30 {w W : World} {v : Nat} {x5 x6 x7 : Value}
    (h : W.cell? ⟨v, 0, none⟩ = some x5 ∧ W.cell? ⟨v, 1, none⟩ = some x6 ∧ W.cell? ⟨v, 2, none⟩ = some x7 ∧ Below w.heap.size w W) :
    W.drew.cell? ⟨v, 0, none⟩ = some x5 ∧ W.drew.cell? ⟨v, 1, none⟩ = some x6 ∧ W.drew.cell? ⟨v, 2, none⟩ = some x7 ∧ Below w.heap.size w W.drew := ⟨h.1, h.2.1, h.2.2.1, h.2.2.2.drew⟩
set_option maxHeartbeats 2000000 in
theorem head19_is (w : World) (hT : U8 w) : Calls Tryz.prog 17 #[] w fun e w' => e = .returned (.bool true) ∧ Below w.heap.size w w' := by
  have k1 : kindN ((⟨#[83, 117, 109]⟩ : ByteArray).data.toList.map Txt.lower) = some 1 := by decide
  have k2 : kindN ((⟨#[110, 111, 112, 101]⟩ : ByteArray).data.toList.map Txt.lower) = none := by decide
  have k3 : hasV (kindN ((⟨#[67, 79, 85, 78, 84]⟩ : ByteArray).data.toList.map Txt.lower)) 0 true = true := by decide
  have hN1 := fun W (h : Below w.heap.size w W) => new_at ⟨#[83, 117, 109]⟩ false false 0 W (by decide) (Utf8Tabs_below hT h)
  have hN2 := fun W (h : Below w.heap.size w W) => new_at ⟨#[110, 111, 112, 101]⟩ false false 0 W (by decide) (Utf8Tabs_below hT h)
  have hH := fun W (h : Below w.heap.size w W) => has_at ⟨#[67, 79, 85, 78, 84]⟩ 0 true W (by decide) (Utf8Tabs_below hT h) true (Lib.hid k3)
  simp only [k1] at hN1
  simp only [k2] at hN2
  clear k1 k2 k3
  have hE : newE none false false = 4 := rfl
  go_enter Tryz.func17, Tryz.ntmps17
  go_wp2_with (first
    | (go_at_call 30; first
      | (have _q := hb1; refine (rint19_is 3 _).mono ?_; rintro e w2 ⟨rfl, hb2⟩; have hb12 := stepB hb1 hb2; have hA2 := Blk.new w2 33 #[.int .i64 1, .int .i64 2, .string ⟨#[]⟩, .int .i64 1, .int .i64 3, .string ⟨#[]⟩]; have hbA := stepB hb12 (newB w2 (.cells #[.int .i64 1, .int .i64 2, .string ⟨#[]⟩, .int .i64 1, .int .i64 3, .string ⟨#[]⟩] 33)); clear hb1)
      | (refine (rint19_is 2 _).mono ?_; rintro e w1 ⟨rfl, hb1⟩))
    | (go_at_call 14; refine (of_sum_is _ _ _ hA2 (fun W hW => hN1 W (stepB hbA hW))).mono ?_; rintro e w3 ⟨rfl, hb3⟩; have hb13 := stepB hbA hb3; have hV3 := Blk.new w3 33 #[.int .i64 1, .int .i64 5, .string ⟨#[]⟩]; have hbV := stepB hb13 (newB w3 (.cells #[.int .i64 1, .int .i64 5, .string ⟨#[]⟩] 33)))
    | (go_at_call 18; refine (hN2 _ hbV).mono ?_; rintro e w4 ⟨sp, rfl, hb4, _, _⟩; have hV4 := hV3.on hb4; have hb14 := stepB hbV hb4))
  have lv := hV4.lt
  have H4 : w4.cell? ⟨w3.heap.size, 0, none⟩ = some (.int .i64 1) ∧ w4.cell? ⟨w3.heap.size, 1, none⟩ = some (.int .i64 5) ∧ w4.cell? ⟨w3.heap.size, 2, none⟩ = some (.string ⟨#[]⟩) ∧ Below w4.heap.size w4 w4 := ⟨hV4.cell 0, hV4.cell 1, hV4.cell 2, Below.refl _ _⟩
  go_region_held3 (fun W' => W'.cell? ⟨w3.heap.size, 0, none⟩ = some (.int .i64 1) ∧ W'.cell? ⟨w3.heap.size, 1, none⟩ = some (.int .i64 5) ∧ W'.cell? ⟨w3.heap.size, 2, none⟩ = some (.string ⟨#[]⟩) ∧ Below w4.heap.size w4 W') (first | assumption | exact keepV3 lv (by assumption) (by assumption) | exact keepV30 (by assumption)) (first
    | (go_at_call 30; refine (rint19_is 5 _).mono ?_; rintro e w5 ⟨rfl, hb5⟩)
    | (go_at_call 20; have hSS := (by assumption : _ ∧ _ ∧ _ ∧ Below w4.heap.size w4 _); refine (hH _ (stepB hb14 hSS.2.2.2)).mono ?_; rintro e w6 ⟨rfl, hb6⟩; clear hSS))
  rename_i hS9
  have hb9 := stepB hb14 hS9.2.2.2
  go_wp2
  go_ret
  exact ⟨rfl, hb9⟩
end Go.Proofs.YtdapnemcdgjeeaaGreatDoor
