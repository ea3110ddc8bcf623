/- Walks: the mark of a row (package sorter). -/
import Derived.Test.YtdapnemcdgjeeaaDoorMk2
import Derived.Test.YtdapnemcdgjeeaaDoorVals
import Derived.Deep.RegionHeld3
import Derived.Deep.CutRange
import Derived.Deep.AppendLies
set_option maxRecDepth 100000
set_option linter.unusedVariables false
set_option linter.unusedSimpArgs false
namespace Go.Proofs.YtdapnemcdgjeeaaDoor
open Go.RowKit Go.Sort

theorem squote_any (T : Lib.PrintTabs) (v : Value) (ys : List UInt8) (s : ByteArray) (W0 w : World) (hb : Buf W0.heap.size v ys W0 w) (hlen : ys.length + 10 * s.size + 12 ≤ 140737488355328) (hT : Tabs T W0) :
    Calls Tryd.prog 36 #[v, .string s] w fun e w' => ∃ v', e = .returned v' ∧ Buf W0.heap.size v' (ys ++ toB (Lib.quoteZ T s)) W0 w' := by
  obtain ⟨a, c, rfl, hnc, hcm, ha⟩ := buf_shape hb
  have hq : Calls Tryd.prog 46 #[.slice a ys.length c, .string s, .int .u8 34, .bool false, .bool false] w fun e w' => ∃ v', e = .returned v' ∧ Buf W0.heap.size v' (ys ++ toB (Lib.quoteZ T s)) W0 w' := by
    have conv : ∀ v' w', Lib.OwnBuf W0.heap.size 5 v' (ys.length + (Lib.quoteZ T s).length) (bytesC ys ++ Lib.intCells (Lib.quoteZ T s)) W0 w' → Buf W0.heap.size v' (ys ++ toB (Lib.quoteZ T s)) W0 w' := fun v' w' h =>
      Buf.of h (by rw [List.length_append, toB_len]) (by rw [toB_cells (Quo.quote_u8 T s)])
    have hcm' : c ≤ 9223372036854775807 := by unfold maxLen at hcm; omega
    by_cases hroom : ys.length + s.size ≤ c
    · exact (Tryd.strconv_appendQuotedWith T a ys.length c (bytesC ys) s W0 w hb hroom hcm' hlen hT.prt hT.utf).mono fun e w' ⟨v', he, h⟩ => ⟨v', he, conv v' w' h⟩
    · exact (quoted_tight T a ys.length c ys s W0 w hb rfl hcm' hnc ha hroom hlen hT).mono fun e w' ⟨v', he, h⟩ => ⟨v', he, conv v' w' h⟩
  replace hq := Lib.hid hq
  go_enter Tryd.func36, Tryd.ntmps36
  go_wp2_with (go_at_call 46; refine hq.out.mono ?_; rintro e w1 ⟨v', rfl, hb1⟩)
  go_ret
  exact ⟨v', rfl, hb1⟩

/-- the cell that a region reads, and its block -/
theorem keepQ {W W' : World} {K : Nat} {x : Value} {cs : Array Value} (h : W.cell? ⟨K, 2, none⟩ = some x ∧ W.heap[K]? = some (.cells cs 52 (0, 0))) (hk : Keeps W W') : W'.cell? ⟨K, 2, none⟩ = some x ∧ W'.heap[K]? = some (.cells cs 52 (0, 0)) := by
  have h2 := hk K cs 52 (0, 0) (by decide) h.2
  exact ⟨(World.cell?_of_block (a := ⟨K, 2, none⟩) (h2.trans h.2.symm)).trans h.1, h2⟩
theorem keepQ0 {W : World} {K : Nat} {x : Value} {cs : Array Value} (h : W.cell? ⟨K, 2, none⟩ = some x ∧ W.heap[K]? = some (.cells cs 52 (0, 0))) : W.drew.cell? ⟨K, 2, none⟩ = some x ∧ W.drew.heap[K]? = some (.cells cs 52 (0, 0)) := h
theorem keepQa {W : World} {K : Nat} {x : Value} {cs : Array Value} {o : Obj} (h : W.cell? ⟨K, 2, none⟩ = some x ∧ W.heap[K]? = some (.cells cs 52 (0, 0))) : (W.alloc o).drew.cell? ⟨K, 2, none⟩ = some x ∧ (W.alloc o).drew.heap[K]? = some (.cells cs 52 (0, 0)) :=
  keepQ h (Keeps.below (((Below.refl _ _).alloc (Nat.le_refl _) _).drew))
theorem step_byteK {P : Program} {W : World} {ops : Array Oper} {o : Oper} {a : Act} {K : Act → World → Prop} {Q : Exit → Act → World → Prop} {E : Prop} (hgd : o.guard = none) (s x : Operand)
    (ho : o.op = .call { callee := .builtin .append, args := #[s, x], argTypes := #[61, 61] }) (ht : P.underlying 61 = some (.slice 5)) (hinfo : (P.info? 5).map (fun i => (i.zero, i.size, i.bytes)) = some (some (.int .u8 0), 1, 1))
    (B : Nat) (v : Value) (ys : List UInt8) (W0 : World) (c : UInt8) (hs : a.eval s = v) (hb : Buf B v ys W0 W) (hx : a.eval x = .slice (some ⟨W.heap.size, 0, none⟩) 1 1) (hlen : ys.length + 1 ≤ 140737488355328)
    (h : ∀ v' w', Buf B v' (ys ++ [c]) W0 w' → Keeps W w' → K (a.put o.dst v') w') :
    if Region.wanted o (yielded ops a.tmps) = true then Oper.wp P o a (W.alloc (.cells #[.int .u8 (c.toNat : Int)] 5)).drew K Q else E := by
  obtain ⟨i, hi, hz, hsize, hby⟩ := info_parts hinfo
  have hb' : Buf B v ys W0 (W.alloc (.cells #[.int .u8 (c.toNat : Int)] 5)).drew := (hb.alloc _).below (Below.refl _ _).drew
  have hw : Region.wanted o (yielded ops a.tmps) = true := by simp [Region.wanted, hgd]
  rw [if_pos hw]
  have hnews : ∀ j u, (bytesC [c])[j]? = some u → (W.alloc (.cells #[.int .u8 (c.toNat : Int)] 5)).drew.cell? ((⟨W.heap.size, 0, none⟩ : Addr).add j) = some u := cell_one_new _ _ _
  obtain ⟨v', w', hr, h2, h3, h4⟩ := run_append_ownF (P := P) _ B 61 o.type 5 i (.int .u8 0) 1 1 ht hi hz hsize hby rfl (by decide) v ys.length (bytesC ys) hb'.1 ⟨W.heap.size, 0, none⟩ 1 1 (bytesC [c]) rfl hnews (bytesC_one _) (by unfold maxLen; omega) (by omega) hb'.2.2
  have hbuf : Lib.OwnBuf B 5 v' (ys.length + 1) (bytesC ys ++ bytesC [c]) W0 w' := Lib.OwnBuf.grown hb' h2 h3
  unfold Oper.wp execOp
  simp only [ho, resolve, invoke, builtin, Sem.run_bind, Sem.run_pure, Result.andThen_ok, List.map_toArray, List.map_cons, List.map_nil, hs, hx, hr]
  exact h v' w' (Buf.of hbuf (by simp) rfl) ((Keeps.below (((Below.refl _ _).alloc (Nat.le_refl _) _).drew)).trans (Keeps.grown hb'.1 h3))
theorem toB_app (a b : List Int) : toB (a ++ b) = toB a ++ toB b := by simp [toB]
theorem toB_ints (l : List UInt8) : toB (Quo.ints l) = l := by
  unfold toB Quo.ints
  rw [List.map_map]
  conv => rhs; rw [← List.map_id l]
  exact List.map_congr_left fun b _ => by simp
/-- the mark of a row, one value more -/
theorem mark_snoc (T : Lib.PrintTabs) (l : List Val.V) (v : Val.V) : Quo.markB T (l ++ [v]) = Quo.markB T l ++ Lib.itoa v.kind ++ [32] ++ Lib.itoa v.int ++ [32] ++ toB (Lib.quoteZ T (bs v.text)) := by
  have e : ∀ l, Quo.markB T l = toB (Quo.markZ T l) := fun _ => rfl
  have e32 : ∀ X : List Int, toB (32 :: X) = [32] ++ toB X := fun X => rfl
  rw [e, e, Quo.markZ_snoc, toB_app, toB_app, e32, toB_app, toB_ints, e32, toB_ints]
  simp [List.append_assoc]
theorem quoteZ_len (T : Lib.PrintTabs) (s : ByteArray) : (Lib.quoteZ T s).length ≤ 10 * s.size + 2 := Lib.quoteZ_length_le T s
theorem mark_len (T : Lib.PrintTabs) : ∀ (l : List Val.V), (∀ v ∈ l, Val.inr v.kind ∧ Val.inr v.int ∧ v.text.length ≤ 1048576) → (Quo.markB T l).length ≤ l.length * 10485806 := by
  intro l
  induction l with
  | nil => intro _; exact Nat.le_refl _
  | cons v l ih =>
    intro h
    obtain ⟨h1, h2, h3⟩ := h v List.mem_cons_self
    have h4 := ih fun u hu => h u (List.mem_cons_of_mem _ hu)
    have a1 := Val.itoa_len v.kind h1.1 h1.2
    have a2 := Val.itoa_len v.int h2.1 h2.2
    have a3 := quoteZ_len T (bs v.text)
    rw [bs_size] at a3
    have e : (Quo.markB T (v :: l)).length = (Lib.itoa v.kind).length + (1 + ((Lib.itoa v.int).length + (1 + ((Lib.quoteZ T (bs v.text)).length + (Quo.markB T l).length)))) := by
      simp only [Quo.markB, Quo.markZ, List.length_map, List.length_append, List.length_cons, Quo.ints]
      omega
    rw [e, List.length_cons]
    omega

theorem run_string_buf {B : Nat} {v : Value} {l : List UInt8} {W0 w : World} (h : Buf B v l W0 w) : (convert 61 9 v).run Tryd.prog w = .ok (.string (bs l)) w := by
  rcases h.1.2 with ⟨rfl, h0⟩ | ⟨g, cap, cur, fz, rfl, hb, hg, hfz, hnc, hcm, hcs, htake⟩
  · have : l = [] := List.eq_nil_of_length_eq_zero h0
    subst this
    exact run_convert_bytes_nil w 61 5 Tryd.underlying61 Tryd.underlying5 0 0 9 Tryd.underlying9
  · have hr := run_convert_bytes_arg (P := Tryd.prog) w 61 5 Tryd.underlying61 Tryd.underlying5 g 0 l.length cap (l.map fun c => (c.toNat : Int)) (by simp) (fun i hi => ?_) 9 Tryd.underlying9
    · rw [hr]
      congr 1
      simp only [bs, strOfNums]
      congr 2
      simp [List.map_map]
      congr 1
      conv => rhs; rw [← List.map_id l]
      exact List.map_congr_left fun c _ => by simp
    · have hx : (bytesC l)[i]? = some (Value.int .u8 ((l[i]'hi).toNat : Int)) := by simp [bytesC, List.getElem?_eq_getElem hi]
      have := h.1.cells (g := g) rfl i _ hx
      rw [Addr.add_lit] at this
      rw [this]
      simp [List.getD, List.getElem?_eq_getElem hi]

set_option maxHeartbeats 4000000 in
theorem mark_any (T : Lib.PrintTabs) (p : Option Addr) (N c : Nat) (vs : List Val.V) (w : World) (hA : ValsAt w p N vs) (hN : N ≤ 1048576) (hI : ∀ v ∈ vs, Val.inr v.kind ∧ Val.inr v.int ∧ v.text.length ≤ 1048576) (hT : Tabs T w) :
    Calls Tryd.prog 21 #[.slice p N c] w fun e w' => e = .returned (.string (bs (Quo.markB T vs))) ∧ Below w.heap.size w w' := by
  have hlen := hA.1
  replace hlen := Lib.hid hlen
  replace hI := Lib.hid hI
  replace hT := Lib.hid hT
  go_enter Tryd.func21, Tryd.ntmps21
  go_wp2
  go_loopw [3, 8] (fun bv iv wr => ∃ i : Nat, iv = .int .i64 (i : Int) ∧ i ≤ N ∧ Hid (Buf w.heap.size bv (Quo.markB T (vs.take i)) w wr)) (fun _ iv _ => N - (intOf iv).toNat)
  case atStart => exact ⟨0, by go_num, by omega, Lib.hid ⟨World.ownsRowF_nil _ _ _ _, Below.refl _ _, Nat.le_refl _⟩⟩
  case round =>
    obtain ⟨i, rfl, hi, hb⟩ := hrel
    by_cases hlt : i < N
    · have hlB : decide ((i : Int) < (N : Int)) = true := by simp; omega
      obtain ⟨v, hv⟩ : ∃ v, vs[i]? = some v := ⟨_, List.getElem?_eq_getElem (by rw [hlen.out]; exact hlt)⟩
      have hvi := hI.out v (List.mem_of_getElem? hv)
      have hml := mark_len T (vs.take i) (fun u hu => hI.out u (List.mem_of_mem_take hu))
      have hsn := mark_snoc T (vs.take i) v
      have hti : vs.take (i + 1) = vs.take i ++ [v] := by rw [List.take_add_one, hv]; rfl
      rw [← hti] at hsn
      rcases (hA.below hb.out.2.1).2 with h0 | ⟨b, off, rfl, hbl, hcell⟩
      · rw [h0] at hv; simp at hv
      obtain ⟨c0, c1, c2⟩ := hcell i v hv
      obtain ⟨kd, n, tx⟩ := v
      obtain ⟨t, rfl⟩ : ∃ t : ByteArray, tx = t.data.toList := ⟨bs tx, rfl⟩
      rw [bs_of] at c2 hsn
      simp only at c0 c1 c2 hvi hsn
      obtain ⟨⟨k0, k1⟩, ⟨n0, n1⟩, ht⟩ := hvi
      have hts : t.size ≤ 1048576 := ht
      have hmi : (Quo.markB T (vs.take i)).length ≤ 10995200000000 := by
        have : (vs.take i).length * 10485806 ≤ 1048576 * 10485806 := Nat.mul_le_mul_right _ (by rw [List.length_take, hlen.out]; omega)
        omega
      obtain ⟨M, hM⟩ : ∃ M, Quo.markB T (vs.take i) = M := ⟨_, rfl⟩
      rw [hM] at hb hsn hmi
      have l1 := Val.itoa_len kd k0 k1
      have l2 := Val.itoa_len n n0 n1
      have i0 : (0 : Int) ≤ (i : Int) := by omega
      have i1 : (i : Int) < (N : Int) := by omega
      have hn := heap_new wr (.cells #[.int .i64 kd, .int .i64 n, .string t] 52)
      have hB1 := hb.out.alloc (.cells #[.int .i64 kd, .int .i64 n, .string t] 52)
      have z1 : M.length + 21 ≤ 140737488355328 := by omega
      have z2 : (M ++ Lib.itoa kd).length + 1 ≤ 140737488355328 := by rw [List.length_append]; omega
      have z3 : (M ++ Lib.itoa kd ++ [32]).length + 21 ≤ 140737488355328 := by rw [List.length_append, List.length_append]; simp; omega
      have z4 : (M ++ Lib.itoa kd ++ [32] ++ Lib.itoa n).length + 1 ≤ 140737488355328 := by rw [List.length_append, List.length_append, List.length_append]; simp; omega
      have z5 : (M ++ Lib.itoa kd ++ [32] ++ Lib.itoa n ++ [32]).length + 10 * t.size + 12 ≤ 140737488355328 := by rw [List.length_append, List.length_append, List.length_append, List.length_append]; simp; omega
      have z6 : (52 : TypeId) ≠ 5 := by decide
      have tok1 : True := trivial
      replace hsn := Lib.hid hsn
      replace hn := Lib.hid hn
      replace hB1 := Lib.hid hB1
      clear hv hti hM hml hcell ht hb hA
      go_upto_region 8 with (first
        | (go_at_call 35; have _t := tok1; refine (sint_any kd k0 k1 _ M w _ hB1.out z1 hT.out.pow).mono ?_; rintro e w1 ⟨v1, rfl, hb1, hk1⟩; clear tok1; replace hb1 := Lib.hid hb1; have hn1 := Lib.hid (hk1 _ _ _ _ z6 hn.out); clear hk1)
        | (at_builtin; go_must (refine wpList_byteK rfl rfl _ _ rfl Tryd.underlying61 u8_info w.heap.size v1 (M ++ Lib.itoa kd) w 32 rfl hb1.out rfl z2 ?_); intro v2 w2 hb2 hk2; replace hb2 := Lib.hid hb2; have hn2 := Lib.hid (hk2 _ _ _ _ z6 hn1.out); clear hk2; have q1 : w2.cell? ⟨wr.heap.size, 1, none⟩ = some (.int .i64 n) := cell_of_row _ _ _ _ _ _ hn2.out)
        | (go_at_call 35; refine (sint_any n n0 n1 v2 (M ++ Lib.itoa kd ++ [32]) w _ hb2.out z3 hT.out.pow).mono ?_; rintro e w3 ⟨v3, rfl, hb3, hk3⟩; replace hb3 := Lib.hid hb3; have hn3 := Lib.hid (hk3 _ _ _ _ z6 hn2.out); clear hk3))
      have q2 : w3.cell? ⟨wr.heap.size, 2, none⟩ = some (.string t) := cell_of_row _ _ _ _ _ _ hn3.out
      have H0 : w3.cell? ⟨wr.heap.size, 2, none⟩ = some (.string t) ∧ w3.heap[wr.heap.size]? = some (.cells #[.int .i64 kd, .int .i64 n, .string t] 52 (0, 0)) := ⟨q2, hn3.out⟩
      clear q1 q2 hn hn1 hn2 hn3 hb1 hb2 hB1
      generalize wr.heap.size = K at H0 ⊢
      have q2 := H0.1
      have hKl : K < w3.heap.size := (Array.getElem?_eq_some_iff.1 H0.2).1
      have q3 : (w3.alloc (.cells #[.int .u8 32] 5)).cell? ⟨K, 2, none⟩ = some (.string t) := Lib.cell?_alloc_some _ q2
      go_region_law (first
        | (refine step_byteK (by rfl) _ _ (by rfl) Tryd.underlying61 u8_info w.heap.size v3 (M ++ Lib.itoa kd ++ [32] ++ Lib.itoa n) w 32 (by rfl) hb3.out (by rfl) z4 ?_; intro v4 w4 hb4 hk4; have q4 := (keepQ H0 hk4).1)
        | (go_simp; go_at_call 36; refine (squote_any T v4 (M ++ Lib.itoa kd ++ [32] ++ Lib.itoa n ++ [32]) t w _ hb4 z5 hT.out).mono ?_; rintro e w5 ⟨v5, rfl, hb5⟩))
      all_goals go_wp2
      all_goals go_roundw
      case rel => exact ⟨i + 1, by go_num, by omega, Lib.hid (by rw [hsn.out]; exact hb5)⟩
      case measure => simp [intOf]; omega
      case rel => exact ⟨i + 1, by go_num, by omega, Lib.hid (by rw [hsn.out]; exact hb5)⟩
      case measure => simp [intOf]; omega
      case rel => exact ⟨i + 1, by go_num, by omega, Lib.hid (by rw [hsn.out]; exact hb5)⟩
      case measure => simp [intOf]; omega
    · have hlB : decide ((i : Int) < (N : Int)) = false := by simp; omega
      have hb' := hb.out
      rw [List.take_of_length_le (by rw [hlen.out]; omega)] at hb'
      have hcv := run_string_buf hb'
      have hbel := hb'.2.1
      clear hb hb' hA
      go_wp2
      go_ret
      exact ⟨rfl, hbel⟩
end Go.Proofs.YtdapnemcdgjeeaaDoor
