/- Walks: May of package value and of the reference of layer 2. Walks: Print of package value. Walks: hex, guess and Read of package value. Walks: Read of package value. Walks: Digit and Print of the reference of layer 2. Walks: Print of the reference of layer 2 at a text, and whatever the kind; head of the statements of layer 2. -/
import Derived.Test.YtdapnemcdgjeeaaGreatDoorPlain
import Derived.Test.YtdapnemcdgjeeaaGreatDoorProg
import Derived.Test.YtdapnemcdgjeeaaGreatDoorShelf
import Derived.Test.YtdapnemcdgjeeaaGreatDoorBase
import Derived.Test.YtdapnemcdgjeeaaGreatDoorLits
set_option maxRecDepth 100000
set_option linter.unusedVariables false
set_option linter.unusedSimpArgs false
namespace Go.Proofs.YtdapnemcdgjeeaaGreatDoor
open Go.RowKit

theorem may_any (k n : Int) (t : ByteArray) (w : World) :
    Calls Tryz.prog 50 #[.agg #[.int .i64 k, .int .i64 n, .string t]] w fun e w' => e = .returned (.bool (Val.may ⟨k, n, t.data.toList⟩)) ∧ Below w.heap.size w w' := by
  have hl : t.data.toList.length = t.size := rfl
  go_enter Tryz.func50, Tryz.ntmps50
  go_wp2
  all_goals go_ret
  all_goals (refine ⟨ret_bool ?_, (Below.refl _ w).alloc (Nat.le_refl _) _⟩; rw [Bool.eq_iff_iff])
  all_goals simp_all [Val.may, Lib.toList_data]
  all_goals (try omega)

theorem rmay_any (k n : Int) (t : ByteArray) (w : World) :
    Calls Tryz.prog 29 #[.agg #[.int .i64 k, .int .i64 n, .string t]] w fun e w' => e = .returned (.bool (Val.may ⟨k, n, t.data.toList⟩)) ∧ Below w.heap.size w w' := by
  have hl : t.data.toList.length = t.size := rfl
  go_enter Tryz.func29, Tryz.ntmps29
  go_wp2
  all_goals go_ret
  all_goals (refine ⟨ret_bool ?_, (Below.refl _ w).alloc (Nat.le_refl _) _⟩; rw [Bool.eq_iff_iff])
  all_goals simp_all [Val.may, Lib.toList_data]
  all_goals (try omega)

theorem may_is {b : Bool} (k n : Int) (t : ByteArray) (w : World) (h : Hid (Val.may ⟨k, n, t.data.toList⟩ = b)) :
    Calls Tryz.prog 50 #[.agg #[.int .i64 k, .int .i64 n, .string t]] w fun e w' => e = .returned (.bool b) ∧ Below w.heap.size w w' :=
  (may_any k n t w).mono fun _ _ ⟨h1, h2⟩ => ⟨by rw [h1, h.out], h2⟩

theorem rmay_is {b : Bool} (k n : Int) (t : ByteArray) (w : World) (h : Hid (Val.may ⟨k, n, t.data.toList⟩ = b)) :
    Calls Tryz.prog 29 #[.agg #[.int .i64 k, .int .i64 n, .string t]] w fun e w' => e = .returned (.bool b) ∧ Below w.heap.size w w' :=
  (rmay_any k n t w).mono fun _ _ ⟨h1, h2⟩ => ⟨by rw [h1, h.out], h2⟩

end Go.Proofs.YtdapnemcdgjeeaaGreatDoor

namespace Go.Proofs.YtdapnemcdgjeeaaGreatDoor
open Go.RowKit

/-- what Print answers -/
def VPrintP (k n : Int) (t : ByteArray) (w : World) (e : Ending) (w' : World) : Prop :=
  e = .returned (.tuple #[.string (bs (Val.print ⟨k, n, t.data.toList⟩).1), .int .i64 ((Val.print ⟨k, n, t.data.toList⟩).2 : Int)]) ∧ Below w.heap.size w w'

theorem byteC_app (a b : List UInt8) : Lib.byteCells (a ++ b) = Lib.byteCells a ++ Lib.byteCells b := by simp [Lib.byteCells]
theorem byteC_hexs2 (l : List UInt8) (c : UInt8) : Lib.byteCells ([120, 39] ++ Tok.hexs (l ++ [c])) = Lib.byteCells ([120, 39] ++ Tok.hexs l) ++ [.int .u8 ((Tok.dig (c.toNat / 16)).toNat : Int)] ++ [.int .u8 ((Tok.dig (c.toNat % 16)).toNat : Int)] := by
  rw [Tok.hexs_append]
  simp [Tok.hexs, Lib.byteCells]
theorem take_next (t : ByteArray) (k : Nat) (h : k < t.size) : t.data.toList.take (k + 1) = t.data.toList.take k ++ [t[k]] := by
  have h' : k < t.data.toList.length := h
  rw [List.take_add_one, List.getElem?_eq_getElem h']
  rfl
theorem lit_digit (n : Nat) (h : n < (⟨#[48, 49, 50, 51, 52, 53, 54, 55, 56, 57, 97, 98, 99, 100, 101, 102]⟩ : ByteArray).size) : (⟨#[48, 49, 50, 51, 52, 53, 54, 55, 56, 57, 97, 98, 99, 100, 101, 102]⟩ : ByteArray)[n] = Tok.dig n := by
  have all : ∀ m : Fin 16, (⟨#[48, 49, 50, 51, 52, 53, 54, 55, 56, 57, 97, 98, 99, 100, 101, 102]⟩ : ByteArray)[m.val] = Tok.dig m.val := by decide
  exact all ⟨n, h⟩

end Go.Proofs.YtdapnemcdgjeeaaGreatDoor

namespace Go.Proofs.YtdapnemcdgjeeaaGreatDoor
open Go.RowKit

theorem idx_nib (c : UInt8) : Lib.indexByte [48, 49, 50, 51, 52, 53, 54, 55, 56, 57, 97, 98, 99, 100, 101, 102] c = Txt.nib c := by
  have all : ∀ n : Fin 256, Lib.indexByte [48, 49, 50, 51, 52, 53, 54, 55, 56, 57, 97, 98, 99, 100, 101, 102] (UInt8.ofNat n.val) = Txt.nib (UInt8.ofNat n.val) := by decide +kernel
  have := all ⟨c.toNat, c.toNat_lt⟩
  simpa using this
theorem index_lit (c : UInt8) (w : World) :
    Calls Tryz.prog 174 #[.string ⟨#[48, 49, 50, 51, 52, 53, 54, 55, 56, 57, 97, 98, 99, 100, 101, 102]⟩, .int .u8 (c.toNat : Int)] w fun e w' => e = .returned (.int .i64 (Txt.nib c)) ∧ w = w' :=
  (Tryz.strings_IndexByte _ _ w).mono fun _ _ ⟨h, h'⟩ => ⟨by rw [h, Int.toNat_natCast, ← idx_nib c]; simp, h'.symm⟩
theorem vbyte_info : (Tryz.prog.info? 5).map (fun i => (i.zero, i.size, i.bytes)) = some (some (.int .u8 0), 1, 1) := by kernel_rfl
theorem drop_next (s : ByteArray) (k : Nat) (h : k < s.size) : s.data.toList.drop k = s[k] :: s.data.toList.drop (k + 1) := by
  have h' : k < s.data.toList.length := h
  rw [List.drop_eq_getElem_cons h']; rfl

/-- what hex answers, as far as its caller looks -/
def HexP (s : ByteArray) (w : World) (e : Ending) (w' : World) : Prop :=
  ∃ x, e = .returned (.tuple #[.string x, .bool (Txt.unhex s.data.toList []).2]) ∧ ((Txt.unhex s.data.toList []).2 = true → x = bs (Txt.unhex s.data.toList []).1) ∧ Below w.heap.size w w'

/-- two digits to the base 16 as one byte -/
theorem nib16 (a b : Int) (ha : 0 ≤ a) (ha' : a ≤ 15) (hb : 0 ≤ b) (hb' : b ≤ 15) : bits .or .i64 (a * 16) b % 256 = ((UInt8.ofNat (a.toNat * 16 + b.toNat)).toNat : Int) := by
  obtain ⟨x, rfl⟩ := Int.eq_ofNat_of_zero_le ha
  obtain ⟨y, rfl⟩ := Int.eq_ofNat_of_zero_le hb
  have hx : x < 16 := by omega
  have hy : y < 16 := by omega
  have h : ∀ i : Fin 16, ∀ j : Fin 16, bits .or .i64 ((i.val : Int) * 16) (j.val : Int) % 256 = ((UInt8.ofNat (i.val * 16 + j.val)).toNat : Int) := by decide +kernel
  simpa using h ⟨x, hx⟩ ⟨y, hy⟩

theorem hexP_of {s : ByteArray} {w w' : World} {q : List UInt8 × Bool} {x : ByteArray} {b : Bool} (hq : Hid (Txt.unhex s.data.toList [] = q)) (hb : b = q.2) (hx : q.2 = true → x = bs q.1) (hB : Below w.heap.size w w') : HexP s w (.returned (.tuple #[.string x, .bool b])) w' := by
  refine ⟨x, ?_, ?_, hB⟩
  · rw [hq.out, hb]
  · rw [hq.out]; exact hx

theorem vint_any (n : Int) (w : World) :
    Calls Tryz.prog 205 #[.int .i64 n] w fun e w' => e = .returned (.agg #[.int .i64 1, .int .i64 n, .string ⟨#[]⟩]) ∧ Below w.heap.size w w' := by
  go_enter Tryz.func205, Tryz.ntmps205
  go_wp2
  refine bodyPost_ret (v := .agg #[.int .i64 1, .int .i64 n, .string ⟨#[]⟩]) (by simp only [results, Tryz.results205]; go_simp) rfl ?_
  refine ⟨rfl, ?_⟩
  repeat (first | exact Below.refl _ _ | refine Below.setCell ?_ (by simp) _ | refine Below.alloc ?_ (by simp) _)

/-- what guess answers -/
def GuessP (s : ByteArray) (w : World) (e : Ending) (w' : World) : Prop :=
  e = .returned (.agg #[.int .i64 (Val.guess s.data.toList).kind, .int .i64 (Val.guess s.data.toList).int, .string (bs (Val.guess s.data.toList).text)]) ∧ Below w.heap.size w w'

theorem parse_ok {n : Int} (s : ByteArray) (w : World) (h : Hid (Lib.parseIntB 64 s.data.toList = .ok n)) (hs : s.size ≤ 1048576) (hL : Lits w) :
    Calls Tryz.prog 218 #[.string s, .int .i64 10, .int .i64 64] w fun e w' => e = .returned (.tuple #[.int .i64 n, .nilIface]) ∧ Below w.heap.size w w' :=
  (parse_any s w hs hL).mono fun e w' ⟨hb, hc⟩ => by
    rcases hc with ⟨m, hm, he⟩ | ⟨hn, _⟩
    · rw [h.out] at hm; cases hm; exact ⟨he, hb⟩
    · exact absurd h.out (hn n)
theorem parse_bad (s : ByteArray) (w : World) (h : Hid (∀ n, Lib.parseIntB 64 s.data.toList ≠ .ok n)) (hs : s.size ≤ 1048576) (hL : Lits w) :
    Calls Tryz.prog 218 #[.string s, .int .i64 10, .int .i64 64] w fun e w' => ∃ n T v, e = .returned (.tuple #[.int .i64 n, .iface T v]) ∧ Below w.heap.size w w' :=
  (parse_any s w hs hL).mono fun e w' ⟨hb, hc⟩ => by
    rcases hc with ⟨m, hm, he⟩ | ⟨_, n, T, v, he⟩
    · exact absurd hm (h.out m)
    · exact ⟨n, T, v, he, hb⟩
theorem vcut (s : ByteArray) (i e : Nat) : (s.extract i e).data.toList = Tok.cut s.data.toList i e := by rw [Lib.extract_data]; rfl

theorem below_set3 {w w2 : World} {a b c : Value} (h : Below w.heap.size w w2) : Below w.heap.size w (((w2.setCell ⟨w.heap.size, 0, none⟩ a).setCell ⟨w.heap.size, 1, none⟩ b).setCell ⟨w.heap.size, 2, none⟩ c) :=
  ((h.setCell (p := ⟨w.heap.size, 0, none⟩) (Nat.le_refl _) a).setCell (p := ⟨w.heap.size, 1, none⟩) (Nat.le_refl _) b).setCell (p := ⟨w.heap.size, 2, none⟩) (Nat.le_refl _) c

end Go.Proofs.YtdapnemcdgjeeaaGreatDoor

namespace Go.Proofs.YtdapnemcdgjeeaaGreatDoor
open Go.RowKit

/-- what Read answers -/
def ReadP (s : ByteArray) (w : World) (e : Ending) (w' : World) : Prop :=
  e = .returned (.tuple #[.agg #[.int .i64 (Val.read s.data.toList).1.kind, .int .i64 (Val.read s.data.toList).1.int, .string (bs (Val.read s.data.toList).1.text)], .int .i64 ((Val.read s.data.toList).2 : Int)]) ∧ Below w.heap.size w w'

end Go.Proofs.YtdapnemcdgjeeaaGreatDoor

namespace Go.Proofs.YtdapnemcdgjeeaaGreatDoor
open Go.RowKit

/-- SEVERAL ELEMENTS ARE APPENDED TO A SLICE THAT THE CALL OWNS -/
theorem wpList_pushN {P : Program} {W : World} {ops : Array Oper} {rest : List Oper} {o : Oper} {a : Act} {Q : Exit → Act → World → Prop} (hgd : o.guard = none) (s x : Operand) (t : TypeId)
    (ho : o.op = .call { callee := .builtin .append, args := #[s, x], argTypes := #[t, t] }) (m : Nat)
    (base : Nat) (e : TypeId) {z : Value} {size bytes : Nat} (ht : P.underlying t = some (.slice e)) (hinfo : (P.info? e).map (fun i => (i.zero, i.size, i.bytes)) = some (some z, size, bytes))
    (hzs : z.cells.size = size) (hsz : 0 < size)
    (v : Value) (n : Nat) (xs : List Value) (hs : a.eval s = v) (hown : W.ownsRow base e size v n xs)
    (cs : Array Value) (hx : a.eval x = .slice (some ⟨W.heap.size, 0, none⟩) m m) (hl : cs.size = m * size) (h1 : ∀ u ∈ cs.toList, u.oneCell' = true) (hm : 0 < m)
    (hbytes : (n + m) * bytes ≤ 140737488355328) (hb0 : 0 < bytes) (hbase : base ≤ W.heap.size)
    (h : ∀ v' w1, w1.ownsRow base e size v' (n + m) (xs ++ cs.toList) → Below base W w1 → (∃ g cap, v' = .slice (some ⟨g, 0, none⟩) (n + m) cap) → wpList P ops Q rest (a.put o.dst v') w1) :
    wpList P ops Q (o :: rest) a (W.alloc (.cells cs e)) := by
  obtain ⟨i, hi, hz, hsize, hby⟩ := info_parts hinfo
  have hn : n + m ≤ 140737488355328 := Nat.le_trans (Nat.le_mul_of_pos_right _ hb0) hbytes
  refine wpList_append_own _ hgd s x t ho base e i z size bytes ht hi hz hsize hby hzs hsz v n xs hs (hown.alloc _) ⟨W.heap.size, 0, none⟩ m m cs.toList hx (by simpa using hl) ?_ h1 (by simp only [maxLen]; omega) hbytes (by simp; omega) ?_
  · intro j u hu
    have hj : (⟨W.heap.size, 0, none⟩ : Addr).add j = ⟨W.heap.size, j, none⟩ := by rw [Addr.add_lit]; simp
    rw [hj, World.cell?_alloc_at _ _ _ _ rfl]
    simpa using hu
  · intro v' w1 hown' hg _
    have hg' : W.grownBy w1 v.ownBlock := ⟨hg.os, hg.tape, hg.output, Nat.le_trans (by simp) hg.size, fun k hk hne => (hg.block k (by simp; omega) hne).trans (Below.heap_alloc W _ k hk)⟩
    refine h v' w1 hown' ((Below.refl base W).grown hg' hbase fun k hk => (hown.lt k hk).1) ?_
    obtain ⟨g, cap, hv, _⟩ := hown'.form (by omega)
    exact ⟨g, cap, hv⟩

theorem bytesC_hexs2 (l : List UInt8) (c : UInt8) : bytesC ([120, 39] ++ Tok.hexs (l ++ [c])) = bytesC ([120, 39] ++ Tok.hexs l) ++ [.int .u8 ((Tok.dig (c.toNat / 16)).toNat : Int), .int .u8 ((Tok.dig (c.toNat % 16)).toNat : Int)] := by
  rw [Tok.hexs_append]
  simp [Tok.hexs, bytesC]

/-- what the reference's Print answers -/
def RPrintP (k n : Int) (t : ByteArray) (w : World) (e : Ending) (w' : World) : Prop :=
  e = .returned (.tuple #[.string (bs (Val.print ⟨k, n, t.data.toList⟩).1), .int .i64 ((Val.print ⟨k, n, t.data.toList⟩).2 : Int)]) ∧ Below w.heap.size w w'
theorem byte2_u8 (c d : Int) : ∀ u ∈ (#[Value.int .u8 c, Value.int .u8 d] : Array Value).toList, u.oneCell' = true := by
  intro u hu; simp at hu; rcases hu with rfl | rfl <;> rfl

end Go.Proofs.YtdapnemcdgjeeaaGreatDoor

namespace Go.Proofs.YtdapnemcdgjeeaaGreatDoor
open Go.RowKit

theorem dbl_one (c : UInt8) : Tok.dbl [c] = if c.toNat = 39 then [39, 39] else [c] := by rw [Tok.dbl]; rfl
theorem bytesC_dbl (l : List UInt8) (c : UInt8) (h : c.toNat ≠ 39) : bytesC (39 :: Tok.dbl (l ++ [c])) = bytesC (39 :: Tok.dbl l) ++ [.int .u8 (c.toNat : Int)] ∧ (Tok.dbl (l ++ [c])).length = (Tok.dbl l).length + 1 := by
  rw [Tok.dbl_append, dbl_one, if_neg h]
  simp [bytesC]
theorem bytesC_dbl2 (l : List UInt8) (c : UInt8) (h : c.toNat = 39) : bytesC (39 :: Tok.dbl (l ++ [c])) = bytesC (39 :: Tok.dbl l) ++ [.int .u8 (c.toNat : Int)] ++ [.int .u8 39] ∧ (Tok.dbl (l ++ [c])).length = (Tok.dbl l).length + 1 + 1 := by
  rw [Tok.dbl_append, dbl_one, if_pos h]
  simp [bytesC, h]

theorem read_its : Val.read [39, 105, 116, 39, 39, 115, 39] = (⟨2, 0, [105, 116, 39, 115]⟩, 0) := by
  have hg : Val.guess [39, 105, 116, 39, 39, 115, 39] = ⟨2, 0, [105, 116, 39, 115]⟩ := by decide +kernel
  have hp : Val.print ⟨2, 0, [105, 116, 39, 115]⟩ = ([39, 105, 116, 39, 39, 115, 39], 0) := by decide +kernel
  rw [Val.read, if_neg (by decide), hg, hp]; rfl
theorem read_05 : Val.read [48, 53] = (Val.zero, 120) := by
  have hg : Val.guess [48, 53] = ⟨1, 5, []⟩ := by decide +kernel
  have hi : Lib.itoa 5 = [53] := by
    rw [Lib.itoa, if_neg (by decide)]
    show Lib.decDigits 5 = _
    rw [Lib.decDigits, dif_pos (by decide)]; rfl
  have hp : Val.print ⟨1, 5, []⟩ = ([53], 0) := by rw [Val.print_int (by decide) rfl, hi]
  rw [Val.read, if_neg (by decide), hg, hp]; rfl

theorem may1 (w : World) : Calls Tryz.prog 50 #[.agg #[.int .i64 2, .int .i64 0, .string ⟨#[105, 116, 39, 115]⟩]] w fun e w' => e = .returned (.bool true) ∧ Below w.heap.size w w' :=
  (may_any 2 0 _ w).mono fun _ _ ⟨h1, h2⟩ => ⟨by
    have e : Val.may ⟨2, 0, (ByteArray.mk #[105, 116, 39, 115]).data.toList⟩ = true := by decide
    rw [h1, e], h2⟩

theorem run_fld (a b c : Value) (w : World) : (Instr.field 33 (.agg #[a, b, c]) 1).run Tryz.prog w = .ok b w := by
  simp [Instr.field, run_underlying Tryz.underlying33, asAgg, part, Tryz.isAgg2]


end Go.Proofs.YtdapnemcdgjeeaaGreatDoor

