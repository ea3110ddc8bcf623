/- Walks: Digit and Print of the reference of layer 2. -/
import Derived.Test.YtmkgalcojoeniaaGreatDoorValW4
set_option maxRecDepth 100000
set_option linter.unusedVariables false
set_option linter.unusedSimpArgs false
namespace Go.Proofs.YtmkgalcojoeniaaGreatDoor
open Go.RowKit

/-- SEVERAL ELEMENTS ARE APPENDED TO A SLICE THAT THE CALL OWNS -/
theorem wpList_pushN {P : Program} {W : World} {ops : Array Oper} {rest : List Oper} {o : Oper} {a : Act} {Q : Exit → Act → World → Prop} (hgd : o.guard = none) (s x : Operand) (t : TypeId)
    (ho : o.op = .call { callee := .builtin .append, args := #[s, x], argTypes := #[t, t] }) (m : Nat)
    (base : Nat) (e : TypeId) {z : Value} {size bytes : Nat} (ht : P.underlying t = some (.slice e)) (hinfo : (P.info? e).map (fun i => (i.zero, i.size, i.bytes)) = some (some z, size, bytes))
    (hzs : z.cells.size = size) (hsz : 0 < size)
    (v : Value) (n : Nat) (xs : List Value) (hs : a.eval s = v) (hown : W.ownsRow base e size v n xs)
    (cs : Array Value) (hx : a.eval x = .slice (some ⟨W.heap.size, 0, none⟩) m m) (hl : cs.size = m * size) (h1 : ∀ u ∈ cs.toList, u.oneCell' = true) (hm : 0 < m)
    (hbytes : (n + m) * bytes ≤ 140737488355328) (hb0 : 0 < bytes) (hbase : base ≤ W.heap.size)
    (h : ∀ v' w1, w1.ownsRow base e size v' (n + m) (xs ++ cs.toList) → Below base W w1 → (∃ g cap, v' = .slice (some ⟨g, 0, none⟩) (n + m) cap) → wpList P ops Q rest (a.put o.dst v') w1) :
    wpList P ops Q (o :: rest) a (W.alloc (.cells cs e)) := by
  obtain ⟨i, hi, hz, hsize, hby⟩ := info_parts hinfo
  have hn : n + m ≤ 140737488355328 := Nat.le_trans (Nat.le_mul_of_pos_right _ hb0) hbytes
  refine wpList_append_own _ hgd s x t ho base e i z size bytes ht hi hz hsize hby hzs hsz v n xs hs (hown.alloc _) ⟨W.heap.size, 0, none⟩ m m cs.toList hx (by simpa using hl) ?_ h1 (by simp only [maxLen]; omega) hbytes (by simp; omega) ?_
  · intro j u hu
    have hj : (⟨W.heap.size, 0, none⟩ : Addr).add j = ⟨W.heap.size, j, none⟩ := by rw [Addr.add_lit]; simp
    rw [hj, World.cell?_alloc_at _ _ _ _ rfl]
    simpa using hu
  · intro v' w1 hown' hg _
    have hg' : W.grownBy w1 v.ownBlock := ⟨hg.os, hg.tape, hg.output, Nat.le_trans (by simp) hg.size, fun k hk hne => (hg.block k (by simp; omega) hne).trans (Below.heap_alloc W _ k hk)⟩
    refine h v' w1 hown' ((Below.refl base W).grown hg' hbase fun k hk => (hown.lt k hk).1) ?_
    obtain ⟨g, cap, hv, _⟩ := hown'.form (by omega)
    exact ⟨g, cap, hv⟩

theorem rdigit_any (n : Nat) (w : World) (h : n < 16) :
    Calls Tryz.prog 119 #[.int .u8 (n : Int)] w fun e w' => e = .returned (.int .u8 ((Tok.dig n).toNat : Int)) ∧ w = w' := by
  by_cases hn : n < 10
  · have hd : ((Tok.dig n).toNat : Int) = 48 + (n : Int) := by
      rw [Tok.dig, if_pos hn, UInt8.toNat_ofNat']; omega
    have b1 : decide ((n : Int) < 10) = true := by simp; omega
    rw [hd]
    clear hd
    go_enter Tryz.func119, Tryz.ntmps119
    go_wp2
    go_ret
    exact ⟨ret_int (by first | rfl | omega), rfl⟩
  · have hd : ((Tok.dig n).toNat : Int) = 87 + (n : Int) := by
      rw [Tok.dig, if_neg hn, UInt8.toNat_ofNat']; omega
    have b1 : decide ((n : Int) < 10) = false := by simp; omega
    rw [hd]
    clear hd
    go_enter Tryz.func119, Tryz.ntmps119
    go_wp2
    go_ret
    exact ⟨ret_int (by omega), rfl⟩

theorem rdigit_eq (x : Int) (n : Nat) (w : World) (hx : x = (n : Int)) (h : n < 16) :
    Calls Tryz.prog 119 #[.int .u8 x] w fun e w' => e = .returned (.int .u8 ((Tok.dig n).toNat : Int)) ∧ w = w' := by
  rw [hx]; exact rdigit_any n w h
theorem bytesC_hexs2 (l : List UInt8) (c : UInt8) : bytesC ([120, 39] ++ Tok.hexs (l ++ [c])) = bytesC ([120, 39] ++ Tok.hexs l) ++ [.int .u8 ((Tok.dig (c.toNat / 16)).toNat : Int), .int .u8 ((Tok.dig (c.toNat % 16)).toNat : Int)] := by
  rw [Tok.hexs_append]
  simp [Tok.hexs, bytesC]

/-- what the reference's Print answers -/
def RPrintP (k n : Int) (t : ByteArray) (w : World) (e : Ending) (w' : World) : Prop :=
  e = .returned (.tuple #[.string (bs (Val.print ⟨k, n, t.data.toList⟩).1), .int .i64 ((Val.print ⟨k, n, t.data.toList⟩).2 : Int)]) ∧ Below w.heap.size w w'
theorem rprint_no (k n : Int) (t : ByteArray) (w : World) (h : Val.may ⟨k, n, t.data.toList⟩ = false) :
    Calls Tryz.prog 60 #[.agg #[.int .i64 k, .int .i64 n, .string t]] w (RPrintP k n t w) := by
  have hp := Val.print_no h
  replace hp := Lib.hid hp
  replace h := Lib.hid h
  go_enter Tryz.func60, Tryz.ntmps60
  go_wp2_with (go_at_call 57; refine (rmay_is _ _ _ _ h).mono ?_; rintro e w1 ⟨rfl, hb⟩)
  go_ret2
  exact ⟨by rw [hp.out]; rfl, ((Below.refl _ w).alloc (Nat.le_refl _) _).trans (hb.mono (by simp))⟩

theorem rprint_null (n : Int) (t : ByteArray) (w : World) (h : Val.may ⟨0, n, t.data.toList⟩ = true) :
    Calls Tryz.prog 60 #[.agg #[.int .i64 0, .int .i64 n, .string t]] w (RPrintP 0 n t w) := by
  have hp := Val.print_null h rfl
  replace hp := Lib.hid hp
  replace h := Lib.hid h
  go_enter Tryz.func60, Tryz.ntmps60
  go_wp2_with (go_at_call 57; refine (rmay_is _ _ _ _ h).mono ?_; rintro e w1 ⟨rfl, hb⟩; obtain ⟨c0, c1, c2, f0, f1, f2⟩ := cells3 hb (by simp) (heap_new _ _))
  go_ret2
  exact ⟨by rw [hp.out]; rfl, ((Below.refl _ w).alloc (Nat.le_refl _) _).trans (hb.mono (by simp))⟩

theorem rprint_int (n : Int) (t : ByteArray) (w : World) (h : Val.may ⟨1, n, t.data.toList⟩ = true) (h0 : -9223372036854775808 ≤ n) (h1 : n ≤ 9223372036854775807) (hL : Lits w) :
    Calls Tryz.prog 60 #[.agg #[.int .i64 1, .int .i64 n, .string t]] w (RPrintP 1 n t w) := by
  have hp := Val.print_int h rfl
  replace hp := Lib.hid hp
  replace h := Lib.hid h
  go_enter Tryz.func60, Tryz.ntmps60
  go_wp2_with (first
    | (go_at_call 57; refine (rmay_is _ _ _ _ h).mono ?_; rintro e w1 ⟨rfl, hb⟩; obtain ⟨c0, c1, c2, f0, f1, f2⟩ := cells3 hb (by simp) (heap_new _ _))
    | (go_at_call 100; refine (format_any n _ h0 h1 ((hL.alloc _).below hb)).mono ?_; rintro e w2 ⟨rfl, hb2⟩))
  go_ret2
  exact ⟨by rw [hp.out]; rfl, (((Below.refl _ w).alloc (Nat.le_refl _) _).trans (hb.mono (by simp))).trans (hb2.mono (Nat.le_trans (by simp) hb.size))⟩

theorem byte2_u8 (c d : Int) : ∀ u ∈ (#[Value.int .u8 c, Value.int .u8 d] : Array Value).toList, u.oneCell' = true := by
  intro u hu; simp at hu; rcases hu with rfl | rfl <;> rfl

set_option maxHeartbeats 1000000 in
theorem rprint_blob (n : Int) (t : ByteArray) (w : World) (h : Val.may ⟨3, n, t.data.toList⟩ = true) (hs : t.size ≤ 1048576) :
    Calls Tryz.prog 60 #[.agg #[.int .i64 3, .int .i64 n, .string t]] w (RPrintP 3 n t w) := by
  have hp := Val.print_blob h rfl
  replace hp := Lib.hid hp
  replace h := Lib.hid h
  go_enter Tryz.func60, Tryz.ntmps60
  go_wp2_with (first
    | (go_at_call 57; refine (rmay_is _ _ _ _ h).mono ?_; rintro e w1 ⟨rfl, hb⟩; obtain ⟨c0, c1, c2, f0, f1, f2⟩ := cells3 hb (by simp) (heap_new _ _); have hcell : w1.heap[w.heap.size]? = some (.cells #[.int .i64 3, .int .i64 n, .string t] 25 (0, 0)) := (hb.block w.heap.size (by simp)).trans (heap_new _ _); have hz1 : w.heap.size < w1.heap.size := (by have := hb.size; simp at this; omega); have hB1 : Below w.heap.size w w1 := ((Below.refl _ w).alloc (Nat.le_refl _) _).trans (hb.mono (by simp)); have hown0 : w1.ownsRow w1.heap.size 5 1 (.slice none 0 0) 0 (bytesC []) := World.ownsRow_nil _ _ _ _)
    | (at_builtin; refine wpList_push rfl _ _ 99 rfl w1.heap.size 5 Tryz.underlying99 vbyte_info rfl (by decide) _ _ _ rfl hown0 _ rfl rfl (byte_u8 _) (by omega) (by decide) (Nat.le_refl _) ?_))
  intro v2 w2 hown2 hb2 _ _ _ _
  obtain ⟨d0, d1, d2, g0, g1, g2⟩ := cells3 hb2 hz1 hcell
  go_wp2_with (at_builtin; go_must (refine wpList_push rfl _ _ 99 rfl w1.heap.size 5 Tryz.underlying99 vbyte_info rfl (by decide) _ _ _ rfl hown2 _ rfl rfl (byte_u8 _) (by omega) (by decide) hb2.size ?_); intro v3 w3 hown3 hb3 hv3 _; obtain ⟨e0, e1, e2, i0, i1, i2⟩ := cells3 (hb2.trans hb3) hz1 hcell)
  have hB3 := hb2.trans hb3
  go_loopw [4, 5] (fun vv i wr => ∃ (v : Value) (k : Nat), v = vv ∧ k ≤ t.size ∧ i = .int .i64 (k : Int) ∧ wr.ownsRow w1.heap.size 5 1 v (2 + 2 * k) (bytesC ([120, 39] ++ Tok.hexs (t.data.toList.take k))) ∧ Below w1.heap.size w1 wr) (fun _ i _ => t.size - (intOf i).toNat)
  case atStart => exact ⟨_, 0, rfl, by omega, by go_num, by simpa [Tok.hexs, bytesC] using hown3, hB3⟩
  case round =>
    obtain ⟨v, k, rfl, hk, rfl, hown, hB⟩ := hrel
    obtain ⟨x0, x1, x2, y0, y1, y2⟩ := cells3 hB hz1 hcell
    by_cases hlt : k < t.size
    · have hlB : decide ((k : Int) < (t.size : Int)) = true := by simp; omega
      have hc8 := t[k].toNat_lt
      have hbB : w1.heap.size ≤ wr.heap.size := hB.size
      go_wp2_with (first
        | (go_at_call 119; refine (rdigit_eq _ (t[k].toNat / 16) _ (by omega) (by omega)).mono ?_; rintro e w' ⟨rfl, rfl⟩)
        | (go_at_call 119; refine (rdigit_eq _ (t[k].toNat % 16) _ (by omega) (by omega)).mono ?_; rintro e w' ⟨rfl, rfl⟩)
        | (at_builtin; go_must (refine wpList_pushN rfl _ _ 99 rfl 2 w1.heap.size 5 Tryz.underlying99 vbyte_info rfl (by decide) _ _ _ rfl hown _ rfl rfl (byte2_u8 _ _) (by decide) (by omega) (by decide) hbB ?_); intro v4 w4 hown4 hb4 hv4))
      go_roundw
      case rel =>
        refine ⟨_, k + 1, rfl, by omega, by go_num, ?_, hB.trans hb4⟩
        rw [take_next t k hlt, bytesC_hexs2]
        simpa [Nat.mul_add, Nat.add_assoc] using hown4
      case measure => simp [intOf]; omega
    · have hkt : t.data.toList.take k = t.data.toList := List.take_of_length_le (Nat.le_of_not_lt hlt)
      rw [hkt] at hown
      have hlB : decide ((k : Int) < (t.size : Int)) = false := by simp; omega
      have hbB : w1.heap.size ≤ wr.heap.size := hB.size
      have hend : bytesC ([120, 39] ++ Tok.hexs t.data.toList) ++ [.int .u8 39] = bytesC (120 :: 39 :: (Tok.hexs t.data.toList ++ [39])) := by simp [bytesC]
      have hlen : (120 :: 39 :: (Tok.hexs t.data.toList ++ [39]) : List UInt8).length = 2 + 2 * k + 1 := by
        have h1 := Tok.hexs_len t.data.toList
        have h2 : t.data.toList.length = t.size := rfl
        simp only [List.length_cons, List.length_append, List.length_nil]; omega
      replace hend := Lib.hid hend
      replace hlen := Lib.hid hlen
      go_wp2_with (at_builtin; go_must (refine wpList_push rfl _ _ 99 rfl w1.heap.size 5 Tryz.underlying99 vbyte_info rfl (by decide) _ _ _ rfl hown _ rfl rfl (byte_u8 _) (by omega) (by decide) hbB ?_); intro v4 w4 hown4 hb4 hv4 _; have hown5 : w4.ownsRow w1.heap.size 5 1 v4 (120 :: 39 :: (Tok.hexs t.data.toList ++ [39]) : List UInt8).length (bytesC (120 :: 39 :: (Tok.hexs t.data.toList ++ [39]))) := (by rw [hlen.out, ← hend.out]; simpa using hown4); have hcv := run_string_own (P := Tryz.prog) 99 9 5 Tryz.underlying99 Tryz.underlying5 Tryz.underlying9 hown5)
      go_ret2
      exact ⟨by rw [hp.out]; rfl, hB1.trans ((hB.trans hb4).mono (Nat.le_of_lt hz1))⟩

end Go.Proofs.YtmkgalcojoeniaaGreatDoor
