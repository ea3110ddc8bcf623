/- Walks: fold (package funcs). Walks: the parts of a pattern; like (package funcs). Walks: fits (package funcs): does a text fit parts? -/
import Derived.Test.YtmkgalcojoeniaaGreatDoorBlk
import Derived.Test.YtmkgalcojoeniaaGreatDoorBelow
import Derived.Test.YtmkgalcojoeniaaGreatDoorFitP
import Derived.RangeFuncBox
import Derived.Shelf.Abstract
import Derived.Deep.RegionHeld3
import Derived.Laws.MakeOwn
set_option maxRecDepth 100000
set_option linter.unusedVariables false
set_option linter.unusedSimpArgs false
namespace Go.Proofs.YtmkgalcojoeniaaGreatDoor
open Go.RowKit

/-- bytes in memory, in a block of their own -/
def RowB (W : World) (g : Nat) (l : List UInt8) : Prop := g < W.heap.size ∧ ∀ j (h : j < l.length), W.cell? ⟨g, j, none⟩ = some (.int .u8 (l[j].toNat : Int)) ∧ W.frozen? ⟨g, j, none⟩ = false
theorem RowB.set {W : World} {g : Nat} {l : List UInt8} (h : RowB W g l) (k : Nat) (c : UInt8) : RowB (W.setCell ⟨g, k, none⟩ (.int .u8 (c.toNat : Int))) g (l.set k c) := by
  refine ⟨by simp [World.setCell]; exact h.1, fun j hj => ?_⟩
  have hj' : j < l.length := by simpa using hj
  obtain ⟨h1, h2⟩ := h.2 j hj'
  refine ⟨?_, by rw [World.frozen?_setCell]; exact h2⟩
  by_cases e : k = j
  · subst e
    rw [cs h1]; simp
  · rw [co (by intro h; apply e; cases h; rfl), h1, List.getElem_set_ne e]
theorem map_next {l : List UInt8} {k : Nat} (F : UInt8 → UInt8) (h : k < l.length) : ((l.take k).map F ++ l.drop k).set k (F l[k]) = (l.take (k + 1)).map F ++ l.drop (k + 1) := by
  rw [List.drop_eq_getElem_cons h, List.set_append_right _ _ (by simp; omega)]
  have e : k - ((l.take k).map F).length = 0 := by simp; omega
  rw [e, List.set_cons_zero, List.take_add_one, List.getElem?_eq_getElem h]
  simp only [Option.toList, List.map_append, List.map_cons, List.map_nil, List.append_assoc, List.cons_append, List.nil_append]
theorem map_same {l : List UInt8} {k : Nat} (F : UInt8 → UInt8) (h : k < l.length) (hF : F l[k] = l[k]) : (l.take k).map F ++ l.drop k = (l.take (k + 1)).map F ++ l.drop (k + 1) := by
  rw [← map_next F h, hF]
  rw [List.set_append_right _ _ (by simp; omega)]
  have e : k - ((l.take k).map F).length = 0 := by simp; omega
  rw [e, List.drop_eq_getElem_cons h, List.set_cons_zero]
theorem map_at {l : List UInt8} {k : Nat} (F : UInt8 → UInt8) (h : k < l.length) : ∃ h2 : k < ((l.take k).map F ++ l.drop k).length, ((l.take k).map F ++ l.drop k)[k] = l[k] := by
  refine ⟨by simp; omega, ?_⟩
  rw [List.getElem_append_right (by simp; omega)]
  simp [Nat.min_eq_left (Nat.le_of_lt h)]
theorem row_string {W : World} {g cap n : Nat} {l : List UInt8} (h : RowB W g l) (hn : l.length = n) : (convert 99 9 (.slice (some ⟨g, 0, none⟩) n cap)).run Tryz.prog W = .ok (.string (bs l)) W := by
  subst hn
  exact run_convert_bytes_back W _ _ 5 ⟨g, 0, none⟩ cap l Tryz.underlying99 Tryz.underlying5 Tryz.underlying9 (fun j hj => by
    rw [Addr.add_lit, Nat.zero_add]; exact (h.2 j hj).1)

set_option maxHeartbeats 1000000 in
theorem fold_low (s : ByteArray) (w : World) (hs : s.size ≤ 1048576) : Calls Tryz.prog 47 #[.string s, .int .u8 65, .int .u8 97] w fun e w' => e = .returned (.string (bs (s.data.toList.map Txt.lower))) ∧ Below w.heap.size w w' := by
  have hcv : ∀ W : World, (convert 9 99 (.string s)).run Tryz.prog W = .ok (.slice (some ⟨W.heap.size, 0, none⟩) s.size (grownCap W s.size 0 5)) (W.drew.alloc (.cells (bytesRow s (grownCap W s.size 0 5)) 5 ((bytesRow s (grownCap W s.size 0 5)).size, (bytesRow s (grownCap W s.size 0 5)).size + 1))) := fun W => run_bytes_of_string W _ _ _ s Tryz.underlying9 Tryz.underlying99 Tryz.underlying5
  have hsz : s.data.toList.length = s.size := rfl
  obtain ⟨cap, hcap⟩ : ∃ cap, grownCap w s.size 0 5 = cap := ⟨_, rfl⟩
  have hge : s.size ≤ cap := by rw [← hcap]; exact grownCap_ge w s.size 0 5
  obtain ⟨W0, hW0⟩ : ∃ W0, w.drew.alloc (.cells (bytesRow s cap) 5 ((bytesRow s cap).size, (bytesRow s cap).size + 1)) = W0 := ⟨_, rfl⟩
  have hB0 : Below w.heap.size w W0 := by rw [← hW0]; exact (Below.refl _ w).drew.alloc (Nat.le_refl _) _
  have hR0 : RowB W0 w.heap.size s.data.toList := by
    have hh : W0.heap[w.heap.size]? = some (.cells (bytesRow s cap) 5 ((bytesRow s cap).size, (bytesRow s cap).size + 1)) := by rw [← hW0]; exact heap_new w.drew _
    refine ⟨(Array.getElem?_eq_some_iff.1 hh).1, fun j hj => ⟨?_, ?_⟩⟩
    · rw [cell_of_row _ _ j _ _ _ hh, bytesRow_at s cap j hj]; rfl
    · have hb := bytesRow_at s cap j hj
      have := (Array.getElem?_eq_some_iff.1 hb).1
      simp [World.frozen?, hh]; omega
  go_enter Tryz.func47, Tryz.ntmps47
  go_wp2
  go_loopw [14] (fun iv wr => ∃ k : Nat, iv = .int .i64 (k : Int) ∧ k ≤ s.size ∧ Hid (RowB wr w.heap.size ((s.data.toList.take k).map Txt.lower ++ s.data.toList.drop k)) ∧ Below w.heap.size w wr) (fun iv _ => s.size - (Go.RowKit.intOf iv).toNat)
  case atStart => exact ⟨0, by go_num, by omega, Lib.hid (by simpa using hR0), hB0⟩
  case round =>
    obtain ⟨k, rfl, hk, hR, hB⟩ := hrel
    by_cases hlt : k < s.size
    · obtain ⟨hk2, hat⟩ := map_at Txt.lower (l := s.data.toList) (k := k) hlt
      obtain ⟨c0, f0⟩ := hR.out.2 k hk2
      rw [hat] at c0
      have hlB : decide ((k : Int) < (s.size : Int)) = true := by simp; omega
      have i0 : (0 : Int) ≤ (k : Int) := by omega
      have i1 : (k : Int) < (s.size : Int) := by omega
      obtain ⟨c, hc⟩ : ∃ c, s.data.toList[k] = c := ⟨_, rfl⟩
      rw [hc] at c0
      have hcl := c.toNat_lt
      by_cases hu : 65 ≤ c.toNat ∧ c.toNat ≤ 90
      · have b1 : decide ((c.toNat : Int) ≥ 65) = true := by simp; omega
        have b2 : decide ((c.toNat : Int) < 91) = true := by simp; omega
        have e1 : IntKind.u8.wrap ((c.toNat : Int) - 65) = (c.toNat : Int) - 65 := by simp [IntKind.wrap, IntKind.bits, IntKind.signed]; omega
        have e2 : IntKind.u8.wrap ((c.toNat : Int) - 65 + 97) = ((Txt.lower c).toNat : Int) := by rw [Txt.lower_up hu]; simp [IntKind.wrap, IntKind.bits, IntKind.signed]; omega
        have hR2 : RowB (wr.setCell ⟨w.heap.size, k, none⟩ (.int .u8 ((Txt.lower c).toNat : Int))) w.heap.size ((s.data.toList.take (k + 1)).map Txt.lower ++ s.data.toList.drop (k + 1)) := by
          rw [← map_next Txt.lower hlt, hc]; exact hR.out.set k _
        replace hR2 := Lib.hid hR2
        clear hR hat hk2 hu hc
        generalize (Txt.lower c).toNat = m at *
        go_wp2
        go_roundw
        case rel => exact ⟨k + 1, by go_num, by omega, hR2, hB.setCell (Nat.le_refl _) _⟩
        case measure => simp [Go.RowKit.intOf]; omega
      · have hR2 : RowB wr w.heap.size ((s.data.toList.take (k + 1)).map Txt.lower ++ s.data.toList.drop (k + 1)) := by
          rw [← map_same Txt.lower hlt (by rw [hc]; exact Txt.lower_no hu)]; exact hR.out
        replace hR2 := Lib.hid hR2
        clear hR hat hk2 hc
        by_cases h65 : 65 ≤ c.toNat
        · have b1 : decide ((c.toNat : Int) ≥ 65) = true := by simp; omega
          have b2 : decide ((c.toNat : Int) < 91) = false := by simp; omega
          clear hu
          go_wp2
          go_roundw
          case rel => exact ⟨k + 1, by go_num, by omega, hR2, hB⟩
          case measure => simp [Go.RowKit.intOf]; omega
        · have b1 : decide ((c.toNat : Int) ≥ 65) = false := by simp; omega
          clear hu
          go_wp2
          go_roundw
          case rel => exact ⟨k + 1, by go_num, by omega, hR2, hB⟩
          case measure => simp [Go.RowKit.intOf]; omega
    · obtain rfl : k = s.size := by omega
      have hR2 : RowB wr w.heap.size (s.data.toList.map Txt.lower) := by
        have := hR.out
        rwa [List.take_of_length_le (by omega), List.drop_eq_nil_of_le (by omega), List.append_nil] at this
      have hst : ∀ cap, (convert 99 9 (.slice (some ⟨w.heap.size, 0, none⟩) s.size cap)).run Tryz.prog wr = .ok (.string (bs (s.data.toList.map Txt.lower))) wr := fun cap => row_string hR2 (by simp)
      clear hR2 hR
      generalize hRR : bs (s.data.toList.map Txt.lower) = R at hst
      replace hRR := Lib.hid hRR
      go_wp2
      go_ret
      exact ⟨by rw [hRR.out]; rfl, hB⟩

end Go.Proofs.YtmkgalcojoeniaaGreatDoor

namespace Go.Proofs.YtmkgalcojoeniaaGreatDoor
open Go.RowKit

theorem run_store_fn2 {P : Program} {w : World} (a : Addr) (m : Mode) (fn : Fn) (x y : Array Value) : (store a (.func fn x y) m).run P w = stored P w a (.func fn x y) m := run_store P w a _ m rfl
theorem run_store_nofn2 {P : Program} {w : World} (a : Addr) (m : Mode) : (store a .nilFunc m).run P w = stored P w a .nilFunc m := run_store P w a _ m rfl
attribute [local go_sem] run_store_fn2 run_store_nofn2

/-- an object that is no row of parts -/
def NoPart (o : Obj) : Prop := ∀ cs z, o ≠ .cells cs 124 z
/-- a function value that takes a byte or not, whatever becomes of the memory beside the blocks that it holds -/
def Takes (W : World) (v : Value) (f : UInt8 → Bool) : Prop := ∃ fid lb, v = .func (.func fid) #[] lb ∧ (∀ args w, (callFunc fid args).run Tryz.prog w = .ok (.enter fid args) w) ∧ ∃ bl : List Nat, (∀ b ∈ bl, ∃ o, W.heap[b]? = some o ∧ NoPart o) ∧ ∀ W', (∀ b ∈ bl, W'.heap[b]? = W.heap[b]?) → ∀ c : UInt8, Calls Tryz.prog fid (#[.int .u8 (c.toNat : Int)] ++ lb) W' fun e w' => e = .returned (.bool (f c)) ∧ Below W'.heap.size W' w'
theorem Takes.kept {W W' : World} {v : Value} {f : UInt8 → Bool} (h : Takes W v f) (hk : ∀ (b : Nat) o, W.heap[b]? = some o → NoPart o → W'.heap[b]? = some o) : Takes W' v f := by
  obtain ⟨fid, lb, rfl, eg, bl, hb, hc⟩ := h
  refine ⟨fid, lb, rfl, eg, bl, fun b hm => ?_, fun W2 h2 => hc W2 fun b hm => ?_⟩
  · obtain ⟨o, ho, hn⟩ := hb b hm
    exact ⟨o, hk b o ho hn, hn⟩
  · obtain ⟨o, ho, hn⟩ := hb b hm
    rw [h2 b hm, hk b o ho hn, ho]
theorem kept_below {W W' : World} (hb : Below W.heap.size W W') : ∀ (b : Nat) o, W.heap[b]? = some o → NoPart o → W'.heap[b]? = some o := fun b o ho _ => (hb.block b (Array.getElem?_eq_some_iff.1 ho).1).trans ho
theorem kept_grown {W W' : World} {base size k : Nat} {v : Value} {xs : List Value} (hr : W.ownsRow base 124 size v k xs) (hg : W.grownBy W' v.ownBlock) : ∀ (b : Nat) o, W.heap[b]? = some o → NoPart o → W'.heap[b]? = some o := by
  intro b o ho hn
  refine (hg.block b (Array.getElem?_eq_some_iff.1 ho).1 ?_).trans ho
  rcases hr.2 with ⟨rfl, _⟩ | ⟨g, cap, cur, rfl, _, h, _⟩
  · simp [Value.ownBlock]
  · intro e
    have e2 : b = g := by simpa [Value.ownBlock] using e
    subst e2
    rw [h] at ho
    exact hn _ _ (Option.some.inj ho).symm
def PartAt (W : World) (x : Bool × Value) : Fit.P → Prop
  | .any => x = (true, .nilFunc)
  | .takes f => x.1 = false ∧ Takes W x.2 f
theorem PartAt.kept {W W' : World} {x : Bool × Value} {p : Fit.P} (h : PartAt W x p) (hk : ∀ (b : Nat) o, W.heap[b]? = some o → NoPart o → W'.heap[b]? = some o) : PartAt W' x p := by
  cases p with
  | any => exact h
  | takes f => exact ⟨h.1, h.2.kept hk⟩
def PartsAt (W : World) (xs : List (Bool × Value)) (ps : List Fit.P) : Prop := xs.length = ps.length ∧ ∀ (k : Nat) x p, xs[k]? = some x → ps[k]? = some p → PartAt W x p
theorem PartsAt.nil (W : World) : PartsAt W [] [] := ⟨rfl, fun k x p h => by simp at h⟩
theorem PartsAt.kept {W W' : World} {xs : List (Bool × Value)} {ps : List Fit.P} (h : PartsAt W xs ps) (hk : ∀ (b : Nat) o, W.heap[b]? = some o → NoPart o → W'.heap[b]? = some o) : PartsAt W' xs ps := ⟨h.1, fun k x p h1 h2 => (h.2 k x p h1 h2).kept hk⟩
theorem PartsAt.snoc {W : World} {xs : List (Bool × Value)} {ps : List Fit.P} {x : Bool × Value} {p : Fit.P} (h : PartsAt W xs ps) (hx : PartAt W x p) : PartsAt W (xs ++ [x]) (ps ++ [p]) := by
  refine ⟨by simp [h.1], fun k y q h1 h2 => ?_⟩
  rcases Nat.lt_or_ge k xs.length with hl | hl
  · rw [List.getElem?_append_left hl] at h1
    rw [List.getElem?_append_left (by rw [← h.1]; exact hl)] at h2
    exact h.2 k y q h1 h2
  · rw [List.getElem?_append_right hl] at h1
    rw [List.getElem?_append_right (by rw [← h.1]; exact hl)] at h2
    have e : k - xs.length = 0 := by
      rcases Nat.eq_zero_or_pos (k - xs.length) with e | e
      · exact e
      · rw [List.getElem?_eq_none (by simp; omega)] at h1; cases h1
    have e2 : k - ps.length = 0 := by rw [← h.1]; exact e
    rw [e] at h1; rw [e2] at h2
    cases h1; cases h2
    exact hx
/-- the cells of parts -/
def flat (l : List (Bool × Value)) : List Value := l.flatMap fun x => [.bool x.1, x.2]
theorem flat_snoc (l : List (Bool × Value)) (b : Bool) (v : Value) : flat (l ++ [(b, v)]) = flat l ++ [.bool b, v] := by simp [flat]
theorem part_info : (Tryz.prog.info? 124).map (fun i => (i.zero, i.size, i.bytes)) = some (some (.agg #[.bool false, .nilFunc]), 2, 16) := by kernel_rfl
theorem one_part_any : ∀ u ∈ (#[Value.bool true, Value.nilFunc] : Array Value).toList, u.oneCell' = true := by intro u hu; simp at hu; rcases hu with rfl | rfl <;> rfl
theorem one_part_fn (f : Fn) (x y : Array Value) : ∀ u ∈ (#[Value.bool false, Value.func f x y] : Array Value).toList, u.oneCell' = true := by intro u hu; simp at hu; rcases hu with rfl | rfl <;> rfl

theorem wpList_pushZ {P : Program} {W : World} {nz : Nat} (hnz : W.heap.size = nz) {ops : Array Oper} {rest : List Oper} {o : Oper} {a : Act} {Q : Exit → Act → World → Prop} (hgd : o.guard = none) (s x : Operand) (t : TypeId)
    (ho : o.op = .call { callee := .builtin .append, args := #[s, x], argTypes := #[t, t] })
    (base : Nat) (e : TypeId) {z : Value} {size bytes : Nat} (ht : P.underlying t = some (.slice e)) (hinfo : (P.info? e).map (fun i => (i.zero, i.size, i.bytes)) = some (some z, size, bytes))
    (hzs : z.cells.size = size) (hsz : 0 < size)
    (v : Value) (n : Nat) (xs : List Value) (hs : a.eval s = v) (hown : W.ownsRow base e size v n xs)
    (cs : Array Value) (hx : a.eval x = .slice (some ⟨nz, 0, none⟩) 1 1) (hl : cs.size = size) (h1 : ∀ u ∈ cs.toList, u.oneCell' = true)
    (hbytes : (n + 1) * bytes ≤ 140737488355328) (hb0 : 0 < bytes) (hbase : base ≤ W.heap.size)
    (h : ∀ v' w1, w1.ownsRow base e size v' (n + 1) (xs ++ cs.toList) → Below base W w1 → (∃ g cap, v' = .slice (some ⟨g, 0, none⟩) (n + 1) cap) → W.grownBy w1 v.ownBlock → wpList P ops Q rest (a.put o.dst v') w1) :
    wpList P ops Q (o :: rest) a (W.alloc (.cells cs e)) := by
  subst hnz
  exact wpList_push hgd s x t ho base e ht hinfo hzs hsz v n xs hs hown cs hx hl h1 hbytes hb0 hbase h

theorem like1_any (c : UInt8) (W : World) : Calls Tryz.prog 106 #[.int .u8 (c.toNat : Int)] W fun e w' => e = .returned (.bool true) ∧ Below W.heap.size W w' := by
  go_enter Tryz.func106, Tryz.ntmps106
  go_wp2
  go_ret
  exact ⟨rfl, Below.refl _ _⟩
theorem byte_beq (c d : UInt8) : (((c.toNat : Int) == (d.toNat : Int)) : Bool) = (c == d) := by
  rw [Bool.eq_iff_iff, beq_iff_eq, beq_iff_eq]
  constructor
  · intro h; exact UInt8.toNat_inj.1 (by omega)
  · rintro rfl; rfl
theorem like2_any (c d : UInt8) (B : Nat) (W : World) (hB : Boxed W B 5 (.int .u8 (c.toNat : Int))) : Calls Tryz.prog 107 #[.int .u8 (d.toNat : Int), .pointer (some ⟨B, 0, none⟩)] W fun e w' => e = .returned (.bool (c == d)) ∧ Below W.heap.size W w' := by
  have c0 := hB.cell
  go_enter Tryz.func107, Tryz.ntmps107
  go_wp2
  go_ret
  exact ⟨ret_bool (byte_beq c d), Below.refl _ _⟩
theorem takes_one (W : World) : Takes W (.func (.func 106) #[] #[]) (fun _ => true) :=
  ⟨_, _, rfl, enters_of Tryz.func106 (by kernel_rfl) rfl, [], by simp, fun W' _ c => like1_any c W'⟩
theorem takes_byte {W : World} {B : Nat} {c : UInt8} (hB : Boxed W B 5 (.int .u8 (c.toNat : Int))) : Takes W (.func (.func 107) #[] #[.pointer (some ⟨B, 0, none⟩)]) (fun d => c == d) :=
  ⟨_, _, rfl, enters_of Tryz.func107 (by kernel_rfl) rfl, [B], fun b hb => by
    obtain rfl : b = B := by simpa using hb
    exact ⟨_, hB, fun cs z h => by cases h⟩, fun W' h d => like2_any c d B W' ((h B (by simp)).trans hB)⟩

theorem like_snoc (R : List UInt8) (k : Nat) (h : k < R.length) : Fit.like (R.take (k + 1)) = Fit.like (R.take k) ++ [Fit.likePart R[k]] := by
  unfold Fit.like
  rw [List.take_succ_eq_append_getElem h, List.map_append]
  rfl

set_option maxHeartbeats 2000000 in
theorem like_any (p : ByteArray) (w : World) (hp : p.size ≤ 1048576) : Calls Tryz.prog 45 #[.string p] w fun e w' => ∃ v xs, e = .returned v ∧ w'.ownsRow w.heap.size 124 2 v xs.length (flat xs) ∧ PartsAt w' xs (Fit.like (p.data.toList.map Txt.lower)) ∧ Below w.heap.size w w' := by
  obtain ⟨R, hR⟩ : ∃ R : ByteArray, bs (p.data.toList.map Txt.lower) = R := ⟨_, rfl⟩
  have hRl : p.data.toList.map Txt.lower = R.data.toList := by rw [← hR]; rfl
  have hRs : R.size ≤ 1048576 := by rw [← hR, bs_size, List.length_map]; exact hp
  rw [hRl]
  have hf := fold_low p w hp
  rw [hR] at hf
  clear hR hRl
  have hcv : ∀ W : World, (convert 9 99 (.string R)).run Tryz.prog W = .ok (.slice (some ⟨W.heap.size, 0, none⟩) R.size (grownCap W R.size 0 5)) (W.drew.alloc (.cells (bytesRow R (grownCap W R.size 0 5)) 5 ((bytesRow R (grownCap W R.size 0 5)).size, (bytesRow R (grownCap W R.size 0 5)).size + 1))) := fun W => run_bytes_of_string W _ _ _ R Tryz.underlying9 Tryz.underlying99 Tryz.underlying5
  go_enter Tryz.func45, Tryz.ntmps45
  go_wp2_with (go_at_call 47; refine hf.mono ?_; rintro e w1 ⟨rfl, hb1⟩)
  obtain ⟨cap, hcap⟩ : ∃ cap, grownCap w1 R.size 0 5 = cap := ⟨_, rfl⟩
  try rw [hcap]
  obtain ⟨W0, hW0⟩ : ∃ W0, (w1.alloc (.cells (bytesRow R cap) 5 ((bytesRow R cap).size, (bytesRow R cap).size + 1))).drew = W0 := ⟨_, rfl⟩
  have hB0 : Below w.heap.size w W0 := by rw [← hW0]; exact (hb1.alloc hb1.size _).drew
  have hh0 : W0.heap[w1.heap.size]? = some (.cells (bytesRow R cap) 5 ((bytesRow R cap).size, (bytesRow R cap).size + 1)) := by rw [← hW0]; exact heap_new w1 _
  obtain ⟨g, hg⟩ : ∃ g, w1.heap.size = g := ⟨_, rfl⟩
  rw [hg] at hh0
  rw [hg]
  try rw [hW0]
  clear hcv hf hcap hb1
  go_loopw [3, 10] (fun ov iv wr => ∃ (k : Nat) (xs : List (Bool × Value)), iv = .int .i64 (k : Int) ∧ k ≤ R.size ∧ wr.ownsRow w.heap.size 124 2 ov xs.length (flat xs) ∧ Hid (xs.length = k) ∧ Hid (PartsAt wr xs (Fit.like (R.data.toList.take k))) ∧ Hid (wr.heap[g]? = some (.cells (bytesRow R cap) 5 ((bytesRow R cap).size, (bytesRow R cap).size + 1))) ∧ Below w.heap.size w wr) (fun _ iv _ => R.size - (intOf iv).toNat)
  case atStart => exact ⟨0, [], by go_num, by omega, World.ownsRow_nil _ _ _ _, Lib.hid rfl, Lib.hid (by simpa [Fit.like] using PartsAt.nil W0), Lib.hid hh0, hB0⟩
  case round =>
    obtain ⟨k, xs, rfl, hk, hown, hlen, hP, hh, hB⟩ := hrel
    clear hB0 hh0
    by_cases hlt : k < R.size
    · have hl' : k < R.data.toList.length := hlt
      have hsn := like_snoc R.data.toList k hl'
      have c0 := (cell_of_row _ _ k _ _ _ hh.out).trans (bytesRow_at R cap k hlt)
      obtain ⟨c, hc⟩ : ∃ c, R.data[k] = c := ⟨_, rfl⟩
      have hc' : R.data.toList[k] = c := by rw [← hc]; simp
      rw [hc] at c0
      rw [hc'] at hsn
      have hlB : decide ((k : Int) < (R.size : Int)) = true := by simp; omega
      have i0 : (0 : Int) ≤ (k : Int) := by omega
      have i1 : (k : Int) < (R.size : Int) := by omega
      have hzB := hB.size
      have hb2 := hB.alloc hzB (.cells #[.int .u8 (c.toNat : Int)] 5)
      have hown2 := hown.alloc (.cells #[.int .u8 (c.toNat : Int)] 5)
      have hbox := Boxed.new wr 5 (.int .u8 (c.toNat : Int))
      have hk2 := kept_below (W := wr) (W' := wr.alloc (.cells #[.int .u8 (c.toNat : Int)] 5)) ((Below.refl _ wr).alloc (Nat.le_refl _) _)
      have hlx : (xs.length + 1) * 16 ≤ 140737488355328 := by rw [hlen.out]; omega
      have hP2 := hP.out.kept hk2
      have hh2 := hk2 _ _ hh.out (fun cs z h => by cases h)
      replace hsn := Lib.hid hsn
      replace hh2 := Lib.hid hh2
      replace hP2 := Lib.hid hP2
      replace hk2 := Lib.hid hk2
      clear hc hc' hl' hP hh hown
      by_cases h37 : c = 37
      · have q1 : ((c.toNat : Int) == 37) = true := by rw [h37]; rfl
        have hpt : Fit.likePart c = .any := by rw [h37]; rfl
        rw [hpt] at hsn
        clear h37 hpt
        replace hbox := Lib.hid hbox
        go_wp2_with (at_builtin; go_must (refine wpList_pushZ (World.size_alloc _ _) rfl _ _ 121 rfl w.heap.size 124 Tryz.underlying121 part_info rfl (by decide) _ _ _ rfl hown2 _ rfl rfl one_part_any hlx (by decide) hb2.size ?_); intro v' w1 hown' hb' hv' hg'; have hk3 := kept_grown hown2 hg'; obtain ⟨g', cap', rfl⟩ := hv'; clear hg')
        go_roundw
        case rel => exact ⟨k + 1, xs ++ [(true, .nilFunc)], by go_num, by omega, by rw [flat_snoc, List.length_append]; simpa using hown', Lib.hid (by simp [hlen.out]), Lib.hid (by rw [hsn.out]; exact (hP2.out.kept hk3).snoc rfl), Lib.hid (hk3 _ _ hh2.out (fun cs z h => by cases h)), hb2.trans hb'⟩
        case measure => simp [intOf]; omega
      · have q1 : ((c.toNat : Int) == 37) = false := by
          rw [beq_eq_false_iff_ne]; intro h; apply h37; exact UInt8.toNat_inj.1 (by simp; omega)
        by_cases h95 : c = 95
        · have q2 : ((c.toNat : Int) == 95) = true := by rw [h95]; rfl
          have hpt : Fit.likePart c = .takes (fun _ => true) := by rw [h95]; rfl
          rw [hpt] at hsn
          clear h37 h95 hpt
          replace hbox := Lib.hid hbox
          go_wp2_with (at_builtin; go_must (refine wpList_pushZ (World.size_alloc _ _) rfl _ _ 121 rfl w.heap.size 124 Tryz.underlying121 part_info rfl (by decide) _ _ _ rfl hown2 _ rfl rfl (one_part_fn _ _ _) hlx (by decide) hb2.size ?_); intro v' w1 hown' hb' hv' hg'; have hk3 := kept_grown hown2 hg'; obtain ⟨g', cap', rfl⟩ := hv'; clear hg')
          go_roundw
          case rel => exact ⟨k + 1, xs ++ [(false, .func (.func 106) #[] #[])], by go_num, by omega, by rw [flat_snoc, List.length_append]; simpa using hown', Lib.hid (by simp [hlen.out]), Lib.hid (by rw [hsn.out]; exact (hP2.out.kept hk3).snoc ⟨rfl, takes_one _⟩), Lib.hid (hk3 _ _ hh2.out (fun cs z h => by cases h)), hb2.trans hb'⟩
          case measure => simp [intOf]; omega
        · have q2 : ((c.toNat : Int) == 95) = false := by
            rw [beq_eq_false_iff_ne]; intro h; apply h95; exact UInt8.toNat_inj.1 (by simp; omega)
          have hpt : Fit.likePart c = .takes (fun d => c == d) := by rw [Fit.likePart, if_neg h37, if_neg h95]
          rw [hpt] at hsn
          clear h37 h95 hpt
          replace hbox := Lib.hid hbox
          go_wp2_with (at_builtin; go_must (refine wpList_pushZ (World.size_alloc _ _) rfl _ _ 121 rfl w.heap.size 124 Tryz.underlying121 part_info rfl (by decide) _ _ _ rfl hown2 _ rfl rfl (one_part_fn _ _ _) hlx (by decide) hb2.size ?_); intro v' w1 hown' hb' hv' hg'; have hk3 := kept_grown hown2 hg'; obtain ⟨g', cap', rfl⟩ := hv'; clear hg')
          go_roundw
          case rel => exact ⟨k + 1, xs ++ [(false, .func (.func 107) #[] #[.pointer (some ⟨wr.heap.size, 0, none⟩)])], by go_num, by omega, by rw [flat_snoc, List.length_append]; simpa using hown', Lib.hid (by simp [hlen.out]), Lib.hid (by rw [hsn.out]; exact (hP2.out.kept hk3).snoc ⟨rfl, takes_byte (hk3 _ _ hbox.out (fun cs z h => by cases h))⟩), Lib.hid (hk3 _ _ hh2.out (fun cs z h => by cases h)), hb2.trans hb'⟩
          case measure => simp [intOf]; omega
    · obtain rfl : k = R.size := by omega
      have hP2 := hP.out
      rw [List.take_of_length_le (by simp)] at hP2
      replace hP2 := Lib.hid hP2
      go_wp2
      go_ret
      exact ⟨_, xs, rfl, hown, hP2.out, hB⟩

end Go.Proofs.YtmkgalcojoeniaaGreatDoor

namespace Go.Proofs.YtmkgalcojoeniaaGreatDoor
open Go.RowKit
attribute [local go_sem] run_store_fn2 run_store_nofn2

theorem bool_info : (Tryz.prog.info? 4).map (fun i => (i.zero, i.size, i.bytes)) = some (some (.bool false), 1, 1) := by kernel_rfl
def madeB (n : Nat) : Array Value := madeCells #[.bool false] (n + 1)
theorem madeB_at (n j : Nat) (h : j ≤ n) : (madeB n)[j]? = some (.bool false) := by
  unfold madeB madeCells
  have : j < n + 1 := by omega
  simp [this, Nat.mod_one]
theorem madeB_size (n : Nat) : (madeB n).size = n + 1 := size_madeCells _ _
theorem make_bools (n : Nat) (hn : n ≤ 1048576) (W : World) : (Instr.makeSlice 144 (.int .i64 ((n : Int) + 1)) (.int .i64 ((n : Int) + 1))).run Tryz.prog W = .ok (.slice (some ⟨W.heap.size, 0, none⟩) (n + 1) (n + 1)) (W.alloc (.cells (madeB n) 4)) := by
  obtain ⟨i, hi, hz, hs, hb⟩ := info_parts bool_info
  have := run_make (P := Tryz.prog) W 144 4 i (.bool false) Tryz.underlying144 hi hz .i64 .i64 ((n : Int) + 1) ((n : Int) + 1) (by omega) (Int.le_refl _) (by rw [hb]; omega) (by omega)
  rw [this, hs]
  have e : ((n : Int) + 1).toNat = n + 1 := by omega
  rw [e, Nat.mul_one]
  rfl

/-- a row of n + 1 truths in a block of its own -/
def RowF (W : World) (g n : Nat) (row : Nat → Bool) : Prop := g < W.heap.size ∧ ∀ j, j ≤ n → W.cell? ⟨g, j, none⟩ = some (.bool (row j)) ∧ W.frozen? ⟨g, j, none⟩ = false
theorem RowF.of {W : World} {g n : Nat} {row row' : Nat → Bool} (h : RowF W g n row) (he : ∀ j, j ≤ n → row j = row' j) : RowF W g n row' :=
  ⟨h.1, fun j hj => by rw [← he j hj]; exact h.2 j hj⟩
theorem RowF.kept {W W' : World} {g n : Nat} {row : Nat → Bool} (h : RowF W g n row) (hs : W.heap.size ≤ W'.heap.size) (hb : W'.heap[g]? = W.heap[g]?) : RowF W' g n row :=
  ⟨Nat.lt_of_lt_of_le h.1 hs, fun j hj => by rw [World.cell?_of_block (w := W) (w' := W') hb, World.frozen?_of_block (w := W) (w' := W') hb]; exact h.2 j hj⟩
theorem RowF.on {W W' : World} {g n : Nat} {row : Nat → Bool} (h : RowF W g n row) (hb : Below W.heap.size W W') : RowF W' g n row := h.kept hb.size (hb.block g h.1)
theorem RowF.set {W : World} {g n : Nat} {row row' : Nat → Bool} (h : RowF W g n row) (i : Nat) (b : Bool) (hi : i ≤ n) (he : ∀ j, j ≤ n → row' j = if j = i then b else row j) : RowF (W.setCell ⟨g, i, none⟩ (.bool b)) g n row' := by
  refine ⟨by simp [World.setCell]; exact h.1, fun j hj => ⟨?_, by rw [World.frozen?_setCell]; exact (h.2 j hj).2⟩⟩
  rw [he j hj]
  by_cases e : j = i
  · subst e
    rw [if_pos rfl]; exact cs (h.2 j hj).1
  · rw [if_neg e, co (by intro h; apply e; cases h; rfl)]; exact (h.2 j hj).1
theorem RowF.new (W : World) (n : Nat) : RowF (W.alloc (.cells (madeB n) 4)) W.heap.size n (fun _ => false) := by
  have hh := heap_new W (.cells (madeB n) 4)
  obtain ⟨W', hW'⟩ : ∃ W', W.alloc (.cells (madeB n) 4) = W' := ⟨_, rfl⟩
  rw [hW'] at hh ⊢
  refine ⟨(Array.getElem?_eq_some_iff.1 hh).1, fun j hj => ⟨?_, ?_⟩⟩
  · rw [cell_of_row _ _ j _ _ _ hh]; exact madeB_at n j hj
  · simp [World.frozen?, hh]

theorem flat_at {xs : List (Bool × Value)} {k : Nat} {x : Bool × Value} (h : xs[k]? = some x) : (flat xs)[k * 2]? = some (.bool x.1) ∧ (flat xs)[k * 2 + 1]? = some x.2 := by
  induction xs generalizing k with
  | nil => simp at h
  | cons y ys ih =>
    have e : flat (y :: ys) = .bool y.1 :: y.2 :: flat ys := rfl
    rw [e]
    cases k with
    | zero => simp at h; subst h; exact ⟨rfl, rfl⟩
    | succ k =>
      have := ih (k := k) (by simpa using h)
      have e1 : (k + 1) * 2 = k * 2 + 1 + 1 := by omega
      rw [e1]
      simpa using this
theorem row_at {w : World} {base : Nat} {e : TypeId} {size : Nat} {g : Nat} {n c : Nat} {xs : List Value} (h : w.ownsRow base e size (.slice (some ⟨g, 0, none⟩) n c) n xs) {j : Nat} {v : Value} (hv : xs[j]? = some v) : w.cell? ⟨g, j, none⟩ = some v := by
  rcases h.2 with ⟨h0, _⟩ | ⟨g', cap, cur, h0, _, hh, _, _, _, ht⟩
  · cases h0
  · cases h0
    rw [cell_of_row w g j cur e _ hh, ← Array.getElem?_toList]
    have hj : j < xs.length := (List.getElem?_eq_some_iff.1 hv).1
    rw [← ht, List.getElem?_take] at hv
    rw [if_pos (by rw [← h.1]; exact hj)] at hv
    exact hv
theorem row_form {w : World} {base : Nat} {e : TypeId} {size : Nat} {v : Value} {n : Nat} {xs : List Value} (h : w.ownsRow base e size v n xs) : (v = .slice none 0 0 ∧ n = 0) ∨ ∃ g c, v = .slice (some ⟨g, 0, none⟩) n c ∧ g < w.heap.size := by
  rcases h.2 with h0 | ⟨g, cap, cur, rfl, _, hh, _⟩
  · exact .inl h0
  · exact .inr ⟨g, cap, rfl, (Array.getElem?_eq_some_iff.1 hh).1⟩

/-- what a round's drawn region reads -/
def Round12 (w W : World) (gp ga m : Nat) (r : Bool) (pv : Value) : Prop := gp + 1 < W.heap.size ∧ ga < W.heap.size ∧ Below w.heap.size w W ∧ W.cell? ⟨ga, m, none⟩ = some (.bool r) ∧ W.cell? ⟨gp, 1, none⟩ = some pv
theorem Round12.on {w W W' : World} {gp ga m : Nat} {r : Bool} {pv : Value} (h : Round12 w W gp ga m r pv) (hb : Below W.heap.size W W') : Round12 w W' gp ga m r pv :=
  ⟨Nat.lt_of_lt_of_le h.1 hb.size, Nat.lt_of_lt_of_le h.2.1 hb.size, below_step h.2.2.1 h.2.2.1.size hb, (hb.cell (p := ⟨ga, m, none⟩) h.2.1).trans h.2.2.2.1, (hb.cell (p := ⟨gp, 1, none⟩) (Nat.lt_trans (Nat.lt_succ_self _) h.1)).trans h.2.2.2.2⟩
theorem Round12.set {w W : World} {gp ga m : Nat} {r : Bool} {pv : Value} (h : Round12 w W gp ga m r pv) (hg : gp + 1 ≠ ga) (hw : w.heap.size ≤ gp + 1) (i : Nat) (v : Value) : Round12 w (W.setCell ⟨gp + 1, i, none⟩ v) gp ga m r pv :=
  ⟨by simp [World.setCell]; exact h.1, by simp [World.setCell]; exact h.2.1, h.2.2.1.setCell hw _, (co (by intro e; cases e; exact hg rfl)).trans h.2.2.2.1, (co (by intro e; injection e with e _; omega)).trans h.2.2.2.2⟩

theorem below_of {w W W' : World} {gp ga m : Nat} {r : Bool} {pv : Value} (hb : Below W.heap.size W W') (_ : Round12 w W gp ga m r pv) : Below W.heap.size W W' := hb

theorem rows_snoc (S : List UInt8) (l : List Fit.P) (p : Fit.P) (row : Nat → Bool) : Fit.rows S (l ++ [p]) row = Fit.step S (Fit.rows S l row) p := by
  induction l generalizing row with
  | nil => rfl
  | cons q l ih => simp only [List.cons_append, Fit.rows]; exact ih _
theorem upto_next {f : Nat → Bool} {i j : Nat} {b : Bool} (h : f i = b) : (decide (j < i + 1) && f j) = if j = i then b else (decide (j < i) && f j) := by
  by_cases e : j = i
  · subst e; simp [h]
  · rw [if_neg e]
    have : decide (j < i + 1) = decide (j < i) := by by_cases h2 : j < i <;> simp [h2] <;> omega
    rw [this]

set_option maxHeartbeats 16000000 in
theorem fits_any (s : ByteArray) (v : Value) (xs : List (Bool × Value)) (ps : List Fit.P) (base : Nat) (w : World) (hs : s.size ≤ 1048576) (hN : xs.length ≤ 1048576) (hr : w.ownsRow base 124 2 v xs.length (flat xs)) (hP : PartsAt w xs ps) :
    Calls Tryz.prog 105 #[.string s, v] w fun e w' => e = .returned (.bool (Fit.fit ps s.data.toList)) ∧ Below w.heap.size w w' := by
  have hmk := make_bools s.size hs
  have h00 := madeB_at s.size 0 (Nat.zero_le _)
  have hsl : s.data.toList.length = s.size := rfl
  obtain ⟨c, p, hv⟩ : ∃ c p, v = .slice p xs.length c := by
    rcases row_form hr with ⟨rfl, h0⟩ | ⟨g, c, rfl, _⟩
    · exact ⟨_, _, by rw [h0]⟩
    · exact ⟨_, _, rfl⟩
  subst hv
  have hlen : xs.length = ps.length := hP.1
  have hcells : ∀ k x, xs[k]? = some x → ∃ g, p = some ⟨g, 0, none⟩ ∧ g < w.heap.size ∧ w.cell? ⟨g, k * 2, none⟩ = some (.bool x.1) ∧ w.cell? ⟨g, k * 2 + 1, none⟩ = some x.2 := by
    intro k x hx
    rcases row_form hr with ⟨h0, h1⟩ | ⟨g, c', h0, hg⟩
    · rw [List.eq_nil_of_length_eq_zero h1] at hx; simp at hx
    · cases h0
      exact ⟨g, rfl, hg, row_at hr (flat_at hx).1, row_at hr (flat_at hx).2⟩
  obtain ⟨N, hNx⟩ : ∃ N, xs.length = N := ⟨_, rfl⟩
  rw [hNx] at hN hlen ⊢
  replace hNx := Lib.hid hNx
  replace hlen := Lib.hid hlen
  replace hcells := Lib.hid hcells
  replace hP := Lib.hid hP
  replace hsl := Lib.hid hsl
  clear hr
  go_enter Tryz.func105, Tryz.ntmps105
  go_wp2
  obtain ⟨W0, hW0⟩ : ∃ W0, W0 = (w.alloc (.cells ((madeB s.size).setIfInBounds 0 (.bool true)) 4)) := ⟨_, rfl⟩
  have hB0 : Below w.heap.size w W0 := by rw [hW0]; exact (Below.refl _ w).alloc (Nat.le_refl _) _
  have hR0 : RowF W0 w.heap.size s.size (Fit.rows s.data.toList (ps.take 0) Fit.start) := by
    have hh := heap_new w (.cells ((madeB s.size).setIfInBounds 0 (.bool true)) 4)
    rw [← hW0] at hh
    refine ⟨(Array.getElem?_eq_some_iff.1 hh).1, fun j hj => ⟨?_, by simp [World.frozen?, hh]⟩⟩
    rw [cell_of_row _ _ j _ _ _ hh, Array.getElem?_setIfInBounds]
    cases j with
    | zero => simp [madeB_size, Fit.rows, Fit.start]
    | succ j => simp [madeB_at s.size (j + 1) hj, Fit.rows, Fit.start]
  rw [← hW0]
  clear hW0 h00
  go_loopw [5, 18] (fun av kv wr => ∃ (k ga : Nat), av = .slice (some ⟨ga, 0, none⟩) (s.size + 1) (s.size + 1) ∧ kv = .int .i64 (k : Int) ∧ k ≤ N ∧ Hid (RowF wr ga s.size (Fit.rows s.data.toList (ps.take k) Fit.start)) ∧ Below w.heap.size w wr) (fun _ kv _ => N - (intOf kv).toNat)
  case atStart => exact ⟨0, w.heap.size, by go_num, by go_num, by omega, Lib.hid hR0, hB0⟩
  case round =>
    obtain ⟨k, ga, rfl, rfl, hk, hR, hB⟩ := hrel
    clear hR0 hB0
    obtain ⟨wo, rfl⟩ : ∃ wo : World, wo = wr := ⟨_, rfl⟩
    have hzB := hB.size
    by_cases hlt : k < N
    · obtain ⟨x, hx⟩ : ∃ x, xs[k]? = some x := ⟨_, List.getElem?_eq_getElem (by rw [hNx.out]; exact hlt)⟩
      obtain ⟨q, hq⟩ : ∃ q, ps[k]? = some q := ⟨_, List.getElem?_eq_getElem (by rw [← hlen.out]; exact hlt)⟩
      obtain ⟨g, rfl, hgl, e0, e1⟩ := hcells.out k x hx
      have c0 := (hB.cell (p := ⟨g, k * 2, none⟩) hgl).trans e0
      have c1 := (hB.cell (p := ⟨g, k * 2 + 1, none⟩) hgl).trans e1
      have hpa := (hP.out.2 k x q hx hq).kept (kept_below hB)
      have hnext : Fit.rows s.data.toList (ps.take (k + 1)) Fit.start = Fit.step s.data.toList (Fit.rows s.data.toList (ps.take k) Fit.start) q := by
        rw [List.take_add_one, hq]; exact rows_snoc _ _ _ _
      obtain ⟨row, hrow⟩ : ∃ row, Fit.rows s.data.toList (ps.take k) Fit.start = row := ⟨_, rfl⟩
      rw [hrow] at hR hnext
      obtain ⟨nrow, hnrow⟩ : ∃ nrow, Fit.step s.data.toList row q = nrow := ⟨_, rfl⟩
      rw [hnrow] at hnext
      have hga := hR.out.1
      have hlB : decide ((k : Int) < (N : Int)) = true := by simp; omega
      have i0 : (0 : Int) ≤ (k : Int) := by omega
      have i1 : (k : Int) < (N : Int) := by omega
      have hgn : wo.heap.size + 1 ≠ ga := by omega
      have hgw : w.heap.size ≤ wo.heap.size + 1 := by omega
      replace hnext := Lib.hid hnext
      replace hgn := Lib.hid hgn
      obtain ⟨xb, xv⟩ := x
      simp only at c0 c1
      clear hx hq e0 e1 hrow hcells hP hlen hNx
      cases q with
      | any =>
        cases hpa
        have hnr : ∀ i, nrow i = Fit.anyRow row i := fun i => by rw [← hnrow]; rfl
        replace hnr := Lib.hid hnr
        clear hnrow
        obtain ⟨pv, hpv⟩ : ∃ pv : Value, pv = .nilFunc := ⟨_, rfl⟩
        go_wp2
        rw [← hpv]
        go_loopw [28] (fun iv wi => ∃ i : Nat, iv = .int .i64 (i : Int) ∧ i ≤ s.size + 1 ∧ Hid (RowF wi (wo.heap.size + 1) s.size (fun j => decide (j < i) && nrow j)) ∧ Hid (wi.heap[wo.heap.size]? = some (.cells #[.bool true, pv] 124 (0, 0))) ∧ Below wo.heap.size wo wi) (fun iv _ => s.size + 1 - (intOf iv).toNat)
        case atStart => exact ⟨0, by go_num, by omega, Lib.hid ((show RowF _ _ _ (fun _ => false) by have := RowF.new (wo.alloc (.cells #[.bool true, pv] 124)) s.size; rw [World.size_alloc] at this; exact this).of (fun j _ => by simp)), Lib.hid ((Below.heap_alloc _ _ _ (by simp)).trans (heap_new wo _)), ((Below.refl _ wo).alloc (Nat.le_refl _) _).alloc (by simp) _⟩
        case round =>
          obtain ⟨i, rfl, hi, hRn, hhp, hBi⟩ := hrel
          by_cases hil : i < s.size + 1
          · have p0 := cell_of_row _ _ 0 _ _ _ hhp.out
            have hRa := hR.out.on hBi
            obtain ⟨ca, fa⟩ := hRa.2 i (by omega)
            obtain ⟨cn, fn⟩ := hRn.out.2 i (by omega)
            dsimp only at cn
            have lB : decide ((i : Int) < (s.size : Int) + 1) = true := by simp; omega
            have j0 : (0 : Int) ≤ (i : Int) := by omega
            have j1 : (i : Int) < (s.size : Int) + 1 := by omega
            have hBs : ∀ b : Bool, Below wo.heap.size wo (wr.setCell ⟨wo.heap.size + 1, i, none⟩ (.bool b)) := fun b => hBi.setCell (by simp) _
            have hps : ∀ b : Bool, (wr.setCell ⟨wo.heap.size + 1, i, none⟩ (.bool b)).heap[wo.heap.size]? = some (.cells #[.bool true, pv] 124 (0, 0)) := fun b => (Below.heap_setCell wr _ _ _ (by simp)).trans hhp.out
            replace hBs := Lib.hid hBs
            replace hps := Lib.hid hps
            clear hRa hR
            cases hra : row i with
            | true =>
              rw [hra] at ca
              have hnv : nrow i = true := by rw [hnr.out]; cases i <;> simp [Fit.anyRow, hra]
              replace hra := Lib.hid hra
              replace hnv := Lib.hid hnv
              go_wp2
              go_roundw
              case rel => exact ⟨i + 1, by go_num, by omega, Lib.hid (hRn.out.set i true (by omega) (fun j _ => upto_next hnv.out)), Lib.hid (hps.out _), hBs.out _⟩
              case measure => first | (simp [intOf]; done) | (simp [intOf]; omega)
            | false =>
              rw [hra] at ca
              cases i with
              | zero =>
                have hnv : nrow 0 = false := by rw [hnr.out]; simp [Fit.anyRow, hra]
                replace hra := Lib.hid hra
                replace hnv := Lib.hid hnv
                go_wp2
                go_roundw
                case rel => exact ⟨0 + 1, by go_num, by omega, Lib.hid (hRn.out.set 0 false (by omega) (fun j _ => upto_next hnv.out)), Lib.hid (hps.out _), hBs.out _⟩
                case measure => first | (simp [intOf]; done) | (simp [intOf]; omega)
              | succ m =>
                have hnv : nrow (m + 1) = nrow m := by rw [hnr.out, hnr.out]; simp [Fit.anyRow, hra]
                have cm : wr.cell? ⟨wo.heap.size + 1, m, none⟩ = some (.bool (nrow m)) := by simpa using (hRn.out.2 m (by omega)).1
                have gB : decide (((m : Int) + 1) > 0) = true := decide_eq_true (by omega)
                have k0 : (0 : Int) ≤ (m : Int) := by omega
                have k1 : (m : Int) < (s.size : Int) + 1 := by omega
                have e2 : ((m + 1 : Nat) : Int) = (m : Int) + 1 := by simp
                have e3 : (m : Int) + 1 - 1 = (m : Int) := by omega
                rw [e2] at lB j0 j1
                replace hra := Lib.hid hra
                replace hnv := Lib.hid hnv
                generalize nrow m = nm at hnv cm
                go_wp2
                go_roundw
                case rel => exact ⟨m + 1 + 1, by go_num, by omega, Lib.hid (hRn.out.set (m + 1) _ (by omega) (fun j _ => upto_next hnv.out)), Lib.hid (hps.out _), hBs.out _⟩
                case measure => first | (simp [intOf]; done) | (simp [intOf]; omega)
          · obtain rfl : i = s.size + 1 := by omega
            have hRf : RowF wr (wo.heap.size + 1) s.size (Fit.rows s.data.toList (ps.take (k + 1)) Fit.start) := hRn.out.of (fun j hj => by rw [hnext.out]; simp; omega)
            replace hRf := Lib.hid hRf
            have lB : decide ((s.size : Int) + 1 < (s.size : Int) + 1) = false := by simp
            have hBo := hB.trans (hBi.mono hzB)
            clear hRn hR
            go_wp2
            go_roundw
            case rel => exact ⟨k + 1, wo.heap.size + 1, by go_num, by go_num, by omega, hRf, hBo⟩
            case measure => simp [intOf]; omega
      | takes f =>
        obtain ⟨hb0, fid, lb, hxv, eg, bl, hbl, hcl⟩ := hpa
        dsimp only at hb0 hxv
        subst hb0
        subst hxv
        have hcall : ∀ (m : Nat) (r : Bool) W, Round12 wo W wo.heap.size ga m r (.func (.func fid) #[] lb) → ∀ c : UInt8, Calls Tryz.prog fid (#[.int .u8 (c.toNat : Int)] ++ lb) W fun e w' => e = .returned (.bool (f c)) ∧ Below W.heap.size W w' :=
          fun m r W hW c => hcl W (fun b hb => hW.2.2.1.block b (by obtain ⟨o, ho, _⟩ := hbl b hb; exact (Array.getElem?_eq_some_iff.1 ho).1)) c
        have hnr : ∀ i, nrow i = Fit.takeRow f s.data.toList row i := fun i => by rw [← hnrow]; rfl
        replace hnr := Lib.hid hnr
        clear hnrow hcl hbl
        go_wp2
        go_loopw [28] (fun iv wi => ∃ i : Nat, iv = .int .i64 (i : Int) ∧ i ≤ s.size + 1 ∧ Hid (RowF wi (wo.heap.size + 1) s.size (fun j => decide (j < i) && nrow j)) ∧ Hid (wi.heap[wo.heap.size]? = some (.cells #[.bool false, (.func (.func fid) #[] lb)] 124 (0, 0))) ∧ Below wo.heap.size wo wi) (fun iv _ => s.size + 1 - (intOf iv).toNat)
        case atStart => exact ⟨0, by go_num, by omega, Lib.hid ((show RowF _ _ _ (fun _ => false) by have := RowF.new (wo.alloc (.cells #[.bool false, (.func (.func fid) #[] lb)] 124)) s.size; rw [World.size_alloc] at this; exact this).of (fun j _ => by simp)), Lib.hid ((Below.heap_alloc _ _ _ (by simp)).trans (heap_new wo _)), ((Below.refl _ wo).alloc (Nat.le_refl _) _).alloc (by simp) _⟩
        case round =>
          obtain ⟨i, rfl, hi, hRn, hhp, hBi⟩ := hrel
          by_cases hil : i < s.size + 1
          · have p0 := cell_of_row _ _ 0 _ _ _ hhp.out
            simp only [List.getElem?_toArray, List.getElem?_cons_zero] at p0
            have lB : decide ((i : Int) < (s.size : Int) + 1) = true := by simp; omega
            have j0 : (0 : Int) ≤ (i : Int) := by omega
            have j1 : (i : Int) < (s.size : Int) + 1 := by omega
            have hRa := hR.out.on hBi
            cases i with
            | zero =>
              have hcall := hcall 0 (row 0)
              have cm := (hRa.2 0 (Nat.zero_le _)).1
              have hnv : nrow 0 = false := by rw [hnr.out]; rfl
              have gB : decide (((0 : Nat) : Int) > 0) = false := by simp
              replace hnv := Lib.hid hnv
              clear hR hRa
              have hRd : RowF wr.drew (wo.heap.size + 1) s.size _ := hRn.out.kept (Nat.le_refl _) rfl
              have hpd : wr.drew.heap[wo.heap.size]? = some (.cells #[.bool false, (.func (.func fid) #[] lb)] 124 (0, 0)) := hhp.out
              have hBd : Below wo.heap.size wo wr.drew := hBi.drew
              have hS0 : Round12 wo wr.drew wo.heap.size ga 0 (row 0) (.func (.func fid) #[] lb) := ⟨hRd.1, Nat.lt_of_lt_of_le hga hBd.size, hBd, cm, cell_of_row _ _ 1 _ _ _ hpd⟩
              replace hRd := Lib.hid hRd
              replace hpd := Lib.hid hpd
              clear hRn hhp hBi cm
              go_wp2
              obtain ⟨W1, hW1⟩ : ∃ W1, wr.drew = W1 := ⟨_, rfl⟩
              rw [hW1] at hRd hpd hBd hS0
              refine wp_region_held_drew (S := fun W => Round12 wo W wo.heap.size ga 0 (row 0) (.func (.func fid) #[] lb)) (by kernel_rfl) ?_ (fun hH => ?_)
              · rw [hW1]; exact hS0
              rw [hW1] at hH ⊢
              clear hW1 hS0
              refine wpAnyH_take (i := 0) (v := ?_) rfl (by kernel_rfl) (by kernel_rfl) (by kernel_rfl) (fun _ _ _ h => h) (Or.inl ⟨by rfl, ?_⟩) hH ?_
              rotate_left
              · (intro W hSw; (try dsimp only at hSw); go_simp; try with_reducible rfl)
              try simp only [List.getElem_toArray, List.getElem_cons_zero, List.getElem_cons_succ, Act.put, List.setIfInBounds_toArray, List.set_cons_zero, List.set_cons_succ]
              refine wpAnyH_take (i := 1) (v := ?_) rfl (by kernel_rfl) (by kernel_rfl) (by kernel_rfl) (fun _ _ _ h => h) (Or.inl ⟨by rfl, ?_⟩) hH ?_
              rotate_left
              · (intro W hSw; (try dsimp only at hSw); go_simp; try with_reducible rfl)
              try simp only [List.getElem_toArray, List.getElem_cons_zero, List.getElem_cons_succ, Act.put, List.setIfInBounds_toArray, List.set_cons_zero, List.set_cons_succ]
              refine wpAnyH_take (i := 2) (v := ?_) rfl (by kernel_rfl) (by kernel_rfl) (by kernel_rfl) (fun _ _ _ h => h) (Or.inl ⟨by rfl, ?_⟩) hH ?_
              rotate_left
              · (intro W hSw; (try dsimp only at hSw); go_simp; try with_reducible rfl)
              try simp only [List.getElem_toArray, List.getElem_cons_zero, List.getElem_cons_succ, Act.put, List.setIfInBounds_toArray, List.set_cons_zero, List.set_cons_succ]
              refine wpAnyH_take (i := 3) (v := ?_) rfl (by kernel_rfl) (by kernel_rfl) (by kernel_rfl) (fun _ _ _ h => h) (Or.inl ⟨by rfl, ?_⟩) hH ?_
              rotate_left
              · (intro W hSw; (try dsimp only at hSw); go_simp; try with_reducible rfl)
              try simp only [List.getElem_toArray, List.getElem_cons_zero, List.getElem_cons_succ, Act.put, List.setIfInBounds_toArray, List.set_cons_zero, List.set_cons_succ]
              refine wpAnyH_take (i := 4) (v := ?_) rfl (by kernel_rfl) (by kernel_rfl) (by kernel_rfl) (fun _ _ _ h => h) (Or.inl ⟨by rfl, ?_⟩) hH ?_
              rotate_left
              · (intro W hSw; (try dsimp only at hSw); go_simp; try with_reducible rfl)
              try simp only [List.getElem_toArray, List.getElem_cons_zero, List.getElem_cons_succ, Act.put, List.setIfInBounds_toArray, List.set_cons_zero, List.set_cons_succ]
              refine wpAnyH_take (i := 5) (v := undef) rfl (by kernel_rfl) (by kernel_rfl) (by kernel_rfl) (fun _ _ _ h => h) (Or.inr ⟨by rfl, rfl⟩) hH ?_
              try simp only [List.getElem_toArray, List.getElem_cons_zero, List.getElem_cons_succ, Act.put, List.setIfInBounds_toArray, List.set_cons_zero, List.set_cons_succ]
              refine wpAnyH_take (i := 6) (v := undef) rfl (by kernel_rfl) (by kernel_rfl) (by kernel_rfl) (fun _ _ _ h => h) (Or.inr ⟨by rfl, rfl⟩) hH ?_
              try simp only [List.getElem_toArray, List.getElem_cons_zero, List.getElem_cons_succ, Act.put, List.setIfInBounds_toArray, List.set_cons_zero, List.set_cons_succ]
              refine wpAnyH_take (i := 7) (v := undef) rfl (by kernel_rfl) (by kernel_rfl) (by kernel_rfl) (fun _ _ _ h => h) (Or.inr ⟨by rfl, rfl⟩) hH ?_
              try simp only [List.getElem_toArray, List.getElem_cons_zero, List.getElem_cons_succ, Act.put, List.setIfInBounds_toArray, List.set_cons_zero, List.set_cons_succ]
              refine wpAnyH_take (i := 8) (v := undef) rfl (by kernel_rfl) (by kernel_rfl) (by kernel_rfl) (fun _ _ _ h => h) (Or.inr ⟨by rfl, rfl⟩) hH ?_
              try simp only [List.getElem_toArray, List.getElem_cons_zero, List.getElem_cons_succ, Act.put, List.setIfInBounds_toArray, List.set_cons_zero, List.set_cons_succ]
              refine wpAnyH_take (i := 9) (v := undef) rfl (by kernel_rfl) (by kernel_rfl) (by kernel_rfl) (fun _ _ _ h => h) (Or.inr ⟨by rfl, rfl⟩) hH ?_
              try simp only [List.getElem_toArray, List.getElem_cons_zero, List.getElem_cons_succ, Act.put, List.setIfInBounds_toArray, List.set_cons_zero, List.set_cons_succ]
              refine wpAnyH_take (i := 10) (v := ?_) rfl (by kernel_rfl) (by kernel_rfl) (by kernel_rfl) (fun _ _ _ h => h) (Or.inl ⟨by rfl, ?_⟩) hH ?_
              rotate_left
              · (intro W hSw; (try dsimp only at hSw); go_simp; try with_reducible rfl)
              try simp only [List.getElem_toArray, List.getElem_cons_zero, List.getElem_cons_succ, Act.put, List.setIfInBounds_toArray, List.set_cons_zero, List.set_cons_succ]
              refine wpAnyH_take (i := 11) (v := ?_) rfl (by kernel_rfl) (by kernel_rfl) (by kernel_rfl) (fun _ _ _ h => h) (Or.inl ⟨by rfl, ?_⟩) hH ?_
              rotate_left
              · (intro W hSw; (try dsimp only at hSw); go_simp; try with_reducible rfl)
              try simp only [List.getElem_toArray, List.getElem_cons_zero, List.getElem_cons_succ, Act.put, List.setIfInBounds_toArray, List.set_cons_zero, List.set_cons_succ]
              refine wpAnyH_take (i := 12) (v := undef) rfl (by kernel_rfl) (by kernel_rfl) (by kernel_rfl) (fun _ _ _ h => h) (Or.inr ⟨by rfl, rfl⟩) hH ?_
              try simp only [List.getElem_toArray, List.getElem_cons_zero, List.getElem_cons_succ, Act.put, List.setIfInBounds_toArray, List.set_cons_zero, List.set_cons_succ]
              refine wpAnyH_take (i := 13) (v := undef) rfl (by kernel_rfl) (by kernel_rfl) (by kernel_rfl) (fun _ _ _ h => h) (Or.inr ⟨by rfl, rfl⟩) hH ?_
              try simp only [List.getElem_toArray, List.getElem_cons_zero, List.getElem_cons_succ, Act.put, List.setIfInBounds_toArray, List.set_cons_zero, List.set_cons_succ]
              refine wpAnyH_take (i := 14) (v := undef) rfl (by kernel_rfl) (by kernel_rfl) (by kernel_rfl) (fun _ _ _ h => h) (Or.inr ⟨by rfl, rfl⟩) hH ?_
              try simp only [List.getElem_toArray, List.getElem_cons_zero, List.getElem_cons_succ, Act.put, List.setIfInBounds_toArray, List.set_cons_zero, List.set_cons_succ]
              refine wpAnyH_take (i := 15) (v := undef) rfl (by kernel_rfl) (by kernel_rfl) (by kernel_rfl) (fun _ _ _ h => h) (Or.inr ⟨by rfl, rfl⟩) hH ?_
              try simp only [List.getElem_toArray, List.getElem_cons_zero, List.getElem_cons_succ, Act.put, List.setIfInBounds_toArray, List.set_cons_zero, List.set_cons_succ]
              refine wpAnyH_take (i := 16) (v := undef) rfl (by kernel_rfl) (by kernel_rfl) (by kernel_rfl) (fun _ _ _ h => h) (Or.inr ⟨by rfl, rfl⟩) hH ?_
              try simp only [List.getElem_toArray, List.getElem_cons_zero, List.getElem_cons_succ, Act.put, List.setIfInBounds_toArray, List.set_cons_zero, List.set_cons_succ]
              refine wpAnyH_take (i := 17) (v := undef) rfl (by kernel_rfl) (by kernel_rfl) (by kernel_rfl) (fun _ _ _ h => h) (Or.inr ⟨by rfl, rfl⟩) hH ?_
              try simp only [List.getElem_toArray, List.getElem_cons_zero, List.getElem_cons_succ, Act.put, List.setIfInBounds_toArray, List.set_cons_zero, List.set_cons_succ]
              refine wpAnyH_take (i := 18) (v := undef) rfl (by kernel_rfl) (by kernel_rfl) (by kernel_rfl) (fun _ _ _ h => h) (Or.inr ⟨by rfl, rfl⟩) hH ?_
              try simp only [List.getElem_toArray, List.getElem_cons_zero, List.getElem_cons_succ, Act.put, List.setIfInBounds_toArray, List.set_cons_zero, List.set_cons_succ]
              refine wpAnyH_take (i := 19) (v := ?_) rfl (by kernel_rfl) (by kernel_rfl) (by kernel_rfl) (fun _ _ _ h => h) (Or.inl ⟨by rfl, ?_⟩) hH ?_
              rotate_left
              · (intro W hSw; (try dsimp only at hSw); go_simp; try with_reducible rfl)
              try simp only [List.getElem_toArray, List.getElem_cons_zero, List.getElem_cons_succ, Act.put, List.setIfInBounds_toArray, List.set_cons_zero, List.set_cons_succ]
              refine wpAnyH_take (i := 20) (v := ?_) rfl (by kernel_rfl) (by kernel_rfl) (by kernel_rfl) (fun _ _ _ h => h) (Or.inl ⟨by rfl, ?_⟩) hH ?_
              rotate_left
              · (intro W hSw; (try dsimp only at hSw); go_simp; try with_reducible rfl)
              try simp only [List.getElem_toArray, List.getElem_cons_zero, List.getElem_cons_succ, Act.put, List.setIfInBounds_toArray, List.set_cons_zero, List.set_cons_succ]
              refine wpAnyH_ready (rs := [21]) (by kernel_rfl) (by simp) ?_
              refine AllReadyH.cons rfl (fun K hK => ?_) AllReadyH.nil
              obtain ⟨cn, fn⟩ := hRd.out.2 (0) (by omega)
              dsimp only at cn
              go_simp
              refine hK.out _ _ ?_ (fun _ => ?_)
              · exact hH.set hgn.out (Nat.le_succ _) _ _
              clear hK K
              try simp only [List.getElem_toArray, List.getElem_cons_zero, List.getElem_cons_succ, Act.put, List.setIfInBounds_toArray, List.set_cons_zero, List.set_cons_succ]
              refine wpAnyH_done (by kernel_rfl) ?_ _
              go_wp2
              go_roundw
              case rel => exact ⟨0 + 1, by go_num, by omega, Lib.hid (hRd.out.set (0) false (by omega) (fun j _ => upto_next hnv.out)), Lib.hid ((Below.heap_setCell W1 _ _ _ (by simp)).trans hpd.out), hBd.setCell (by simp) _⟩
              case measure => first | (simp [intOf]; done) | (simp [intOf]; omega)
            | succ m =>
              have hml : m < s.size := by omega
              have hwr : IntKind.i64.wrap (m : Int) = (m : Int) := by rw [IntKind.wrap_i64]; omega
              have e2 : ((m + 1 : Nat) : Int) = (m : Int) + 1 := by simp
              have e3 : (m : Int) + 1 - 1 = (m : Int) := by omega
              rw [e2] at lB j0 j1
              have gB : decide (((m : Int) + 1) > 0) = true := decide_eq_true (by omega)
              have k0 : (0 : Int) ≤ (m : Int) := by omega
              have k1 : (m : Int) < (s.size : Int) + 1 := by omega
              have k2 : (m : Int) < (s.size : Int) := by omega
              have cm := (hRa.2 m (by omega)).1
              cases hrm : row m with
              | false =>
                rw [hrm] at cm
                have hcall := hcall m false
                have hnv : nrow (m + 1) = false := by rw [hnr.out]; simp [Fit.takeRow, hrm]
                replace hnv := Lib.hid hnv
                clear hR hRa hrm
                have hRd : RowF wr.drew (wo.heap.size + 1) s.size _ := hRn.out.kept (Nat.le_refl _) rfl
                have hpd : wr.drew.heap[wo.heap.size]? = some (.cells #[.bool false, (.func (.func fid) #[] lb)] 124 (0, 0)) := hhp.out
                have hBd : Below wo.heap.size wo wr.drew := hBi.drew
                have hS0 : Round12 wo wr.drew wo.heap.size ga m false (.func (.func fid) #[] lb) := ⟨hRd.1, Nat.lt_of_lt_of_le hga hBd.size, hBd, cm, cell_of_row _ _ 1 _ _ _ hpd⟩
                replace hRd := Lib.hid hRd
                replace hpd := Lib.hid hpd
                clear hRn hhp hBi cm
                go_wp2
                obtain ⟨W1, hW1⟩ : ∃ W1, wr.drew = W1 := ⟨_, rfl⟩
                rw [hW1] at hRd hpd hBd hS0
                refine wp_region_held_drew (S := fun W => Round12 wo W wo.heap.size ga m false (.func (.func fid) #[] lb)) (by kernel_rfl) ?_ (fun hH => ?_)
                · rw [hW1]; exact hS0
                rw [hW1] at hH ⊢
                clear hW1 hS0
                refine wpAnyH_take (i := 0) (v := ?_) rfl (by kernel_rfl) (by kernel_rfl) (by kernel_rfl) (fun _ _ _ h => h) (Or.inl ⟨by rfl, ?_⟩) hH ?_
                rotate_left
                · (intro W hSw; (try dsimp only at hSw); go_simp; try with_reducible rfl)
                try simp only [List.getElem_toArray, List.getElem_cons_zero, List.getElem_cons_succ, Act.put, List.setIfInBounds_toArray, List.set_cons_zero, List.set_cons_succ]
                refine wpAnyH_take (i := 1) (v := ?_) rfl (by kernel_rfl) (by kernel_rfl) (by kernel_rfl) (fun _ _ _ h => h) (Or.inl ⟨by rfl, ?_⟩) hH ?_
                rotate_left
                · (intro W hSw; (try dsimp only at hSw); go_simp; try with_reducible rfl)
                try simp only [List.getElem_toArray, List.getElem_cons_zero, List.getElem_cons_succ, Act.put, List.setIfInBounds_toArray, List.set_cons_zero, List.set_cons_succ]
                refine wpAnyH_take (i := 2) (v := ?_) rfl (by kernel_rfl) (by kernel_rfl) (by kernel_rfl) (fun _ _ _ h => h) (Or.inl ⟨by rfl, ?_⟩) hH ?_
                rotate_left
                · (intro W hSw; (try dsimp only at hSw); go_simp; try with_reducible rfl)
                try simp only [List.getElem_toArray, List.getElem_cons_zero, List.getElem_cons_succ, Act.put, List.setIfInBounds_toArray, List.set_cons_zero, List.set_cons_succ]
                refine wpAnyH_take (i := 3) (v := ?_) rfl (by kernel_rfl) (by kernel_rfl) (by kernel_rfl) (fun _ _ _ h => h) (Or.inl ⟨by rfl, ?_⟩) hH ?_
                rotate_left
                · (intro W hSw; (try dsimp only at hSw); go_simp; try with_reducible rfl)
                try simp only [List.getElem_toArray, List.getElem_cons_zero, List.getElem_cons_succ, Act.put, List.setIfInBounds_toArray, List.set_cons_zero, List.set_cons_succ]
                refine wpAnyH_take (i := 4) (v := ?_) rfl (by kernel_rfl) (by kernel_rfl) (by kernel_rfl) (fun _ _ _ h => h) (Or.inl ⟨by rfl, ?_⟩) hH ?_
                rotate_left
                · (intro W hSw; (try dsimp only at hSw); go_simp; try with_reducible rfl)
                try simp only [List.getElem_toArray, List.getElem_cons_zero, List.getElem_cons_succ, Act.put, List.setIfInBounds_toArray, List.set_cons_zero, List.set_cons_succ]
                refine wpAnyH_take (i := 5) (v := ?_) rfl (by kernel_rfl) (by kernel_rfl) (by kernel_rfl) (fun _ _ _ h => h) (Or.inl ⟨by rfl, ?_⟩) hH ?_
                rotate_left
                · (intro W hSw; (try dsimp only at hSw); go_simp; try with_reducible rfl)
                try simp only [List.getElem_toArray, List.getElem_cons_zero, List.getElem_cons_succ, Act.put, List.setIfInBounds_toArray, List.set_cons_zero, List.set_cons_succ]
                refine wpAnyH_take (i := 6) (v := ?_) rfl (by kernel_rfl) (by kernel_rfl) (by kernel_rfl) (fun _ _ _ h => h) (Or.inl ⟨by rfl, ?_⟩) hH ?_
                rotate_left
                · (intro W hSw; (try dsimp only at hSw); go_simp; try with_reducible rfl)
                try simp only [List.getElem_toArray, List.getElem_cons_zero, List.getElem_cons_succ, Act.put, List.setIfInBounds_toArray, List.set_cons_zero, List.set_cons_succ]
                refine wpAnyH_take (i := 7) (v := ?_) rfl (by kernel_rfl) (by kernel_rfl) (by kernel_rfl) (fun _ _ _ h => h) (Or.inl ⟨by rfl, ?_⟩) hH ?_
                rotate_left
                · (intro W hSw; (try dsimp only at hSw); go_simp; try with_reducible rfl)
                try simp only [List.getElem_toArray, List.getElem_cons_zero, List.getElem_cons_succ, Act.put, List.setIfInBounds_toArray, List.set_cons_zero, List.set_cons_succ]
                refine wpAnyH_take (i := 8) (v := ?_) rfl (by kernel_rfl) (by kernel_rfl) (by kernel_rfl) (fun _ _ _ h => h) (Or.inl ⟨by rfl, ?_⟩) hH ?_
                rotate_left
                · (intro W hSw; (try dsimp only at hSw); go_simp; try with_reducible rfl)
                try simp only [List.getElem_toArray, List.getElem_cons_zero, List.getElem_cons_succ, Act.put, List.setIfInBounds_toArray, List.set_cons_zero, List.set_cons_succ]
                refine wpAnyH_take (i := 9) (v := ?_) rfl (by kernel_rfl) (by kernel_rfl) (by kernel_rfl) (fun _ _ _ h => h) (Or.inl ⟨by rfl, ?_⟩) hH ?_
                rotate_left
                · (intro W hSw; (try dsimp only at hSw); have z0 := hSw.2.2.2.1; have z1 := hSw.2.2.2.2; go_simp; try with_reducible rfl)
                try simp only [List.getElem_toArray, List.getElem_cons_zero, List.getElem_cons_succ, Act.put, List.setIfInBounds_toArray, List.set_cons_zero, List.set_cons_succ]
                refine wpAnyH_take (i := 10) (v := ?_) rfl (by kernel_rfl) (by kernel_rfl) (by kernel_rfl) (fun _ _ _ h => h) (Or.inl ⟨by rfl, ?_⟩) hH ?_
                rotate_left
                · (intro W hSw; (try dsimp only at hSw); go_simp; try with_reducible rfl)
                try simp only [List.getElem_toArray, List.getElem_cons_zero, List.getElem_cons_succ, Act.put, List.setIfInBounds_toArray, List.set_cons_zero, List.set_cons_succ]
                refine wpAnyH_take (i := 11) (v := ?_) rfl (by kernel_rfl) (by kernel_rfl) (by kernel_rfl) (fun _ _ _ h => h) (Or.inl ⟨by rfl, ?_⟩) hH ?_
                rotate_left
                · (intro W hSw; (try dsimp only at hSw); go_simp; try with_reducible rfl)
                try simp only [List.getElem_toArray, List.getElem_cons_zero, List.getElem_cons_succ, Act.put, List.setIfInBounds_toArray, List.set_cons_zero, List.set_cons_succ]
                refine wpAnyH_take (i := 12) (v := undef) rfl (by kernel_rfl) (by kernel_rfl) (by kernel_rfl) (fun _ _ _ h => h) (Or.inr ⟨by rfl, rfl⟩) hH ?_
                try simp only [List.getElem_toArray, List.getElem_cons_zero, List.getElem_cons_succ, Act.put, List.setIfInBounds_toArray, List.set_cons_zero, List.set_cons_succ]
                refine wpAnyH_take (i := 13) (v := undef) rfl (by kernel_rfl) (by kernel_rfl) (by kernel_rfl) (fun _ _ _ h => h) (Or.inr ⟨by rfl, rfl⟩) hH ?_
                try simp only [List.getElem_toArray, List.getElem_cons_zero, List.getElem_cons_succ, Act.put, List.setIfInBounds_toArray, List.set_cons_zero, List.set_cons_succ]
                refine wpAnyH_take (i := 14) (v := undef) rfl (by kernel_rfl) (by kernel_rfl) (by kernel_rfl) (fun _ _ _ h => h) (Or.inr ⟨by rfl, rfl⟩) hH ?_
                try simp only [List.getElem_toArray, List.getElem_cons_zero, List.getElem_cons_succ, Act.put, List.setIfInBounds_toArray, List.set_cons_zero, List.set_cons_succ]
                refine wpAnyH_take (i := 15) (v := undef) rfl (by kernel_rfl) (by kernel_rfl) (by kernel_rfl) (fun _ _ _ h => h) (Or.inr ⟨by rfl, rfl⟩) hH ?_
                try simp only [List.getElem_toArray, List.getElem_cons_zero, List.getElem_cons_succ, Act.put, List.setIfInBounds_toArray, List.set_cons_zero, List.set_cons_succ]
                refine wpAnyH_take (i := 16) (v := undef) rfl (by kernel_rfl) (by kernel_rfl) (by kernel_rfl) (fun _ _ _ h => h) (Or.inr ⟨by rfl, rfl⟩) hH ?_
                try simp only [List.getElem_toArray, List.getElem_cons_zero, List.getElem_cons_succ, Act.put, List.setIfInBounds_toArray, List.set_cons_zero, List.set_cons_succ]
                refine wpAnyH_take (i := 17) (v := undef) rfl (by kernel_rfl) (by kernel_rfl) (by kernel_rfl) (fun _ _ _ h => h) (Or.inr ⟨by rfl, rfl⟩) hH ?_
                try simp only [List.getElem_toArray, List.getElem_cons_zero, List.getElem_cons_succ, Act.put, List.setIfInBounds_toArray, List.set_cons_zero, List.set_cons_succ]
                refine wpAnyH_take (i := 18) (v := undef) rfl (by kernel_rfl) (by kernel_rfl) (by kernel_rfl) (fun _ _ _ h => h) (Or.inr ⟨by rfl, rfl⟩) hH ?_
                try simp only [List.getElem_toArray, List.getElem_cons_zero, List.getElem_cons_succ, Act.put, List.setIfInBounds_toArray, List.set_cons_zero, List.set_cons_succ]
                refine wpAnyH_take (i := 19) (v := ?_) rfl (by kernel_rfl) (by kernel_rfl) (by kernel_rfl) (fun _ _ _ h => h) (Or.inl ⟨by rfl, ?_⟩) hH ?_
                rotate_left
                · (intro W hSw; (try dsimp only at hSw); go_simp; try with_reducible rfl)
                try simp only [List.getElem_toArray, List.getElem_cons_zero, List.getElem_cons_succ, Act.put, List.setIfInBounds_toArray, List.set_cons_zero, List.set_cons_succ]
                refine wpAnyH_take (i := 20) (v := ?_) rfl (by kernel_rfl) (by kernel_rfl) (by kernel_rfl) (fun _ _ _ h => h) (Or.inl ⟨by rfl, ?_⟩) hH ?_
                rotate_left
                · (intro W hSw; (try dsimp only at hSw); go_simp; try with_reducible rfl)
                try simp only [List.getElem_toArray, List.getElem_cons_zero, List.getElem_cons_succ, Act.put, List.setIfInBounds_toArray, List.set_cons_zero, List.set_cons_succ]
                refine wpAnyH_ready (rs := [21]) (by kernel_rfl) (by simp) ?_
                refine AllReadyH.cons rfl (fun K hK => ?_) AllReadyH.nil
                obtain ⟨cn, fn⟩ := hRd.out.2 (m + 1) (by omega)
                dsimp only at cn
                go_simp
                refine hK.out _ _ ?_ (fun _ => ?_)
                · exact hH.set hgn.out (Nat.le_succ _) _ _
                clear hK K
                try simp only [List.getElem_toArray, List.getElem_cons_zero, List.getElem_cons_succ, Act.put, List.setIfInBounds_toArray, List.set_cons_zero, List.set_cons_succ]
                refine wpAnyH_done (by kernel_rfl) ?_ _
                go_wp2
                go_roundw
                case rel => exact ⟨m + 1 + 1, by go_num, by omega, Lib.hid (hRd.out.set (m + 1) false (by omega) (fun j _ => upto_next hnv.out)), Lib.hid ((Below.heap_setCell W1 _ _ _ (by simp)).trans hpd.out), hBd.setCell (by simp) _⟩
                case measure => first | (simp [intOf]; done) | (simp [intOf]; omega)
              | true =>
                rw [hrm] at cm
                have hcall := hcall m true
                have hnv : nrow (m + 1) = f s[m] := by rw [hnr.out]; simp only [Fit.takeRow, hrm, Bool.true_and]; rw [getD_byte s m hml]
                replace hnv := Lib.hid hnv
                clear hR hRa hrm
                have hRd : RowF wr.drew (wo.heap.size + 1) s.size _ := hRn.out.kept (Nat.le_refl _) rfl
                have hpd : wr.drew.heap[wo.heap.size]? = some (.cells #[.bool false, (.func (.func fid) #[] lb)] 124 (0, 0)) := hhp.out
                have hBd : Below wo.heap.size wo wr.drew := hBi.drew
                have hS0 : Round12 wo wr.drew wo.heap.size ga m true (.func (.func fid) #[] lb) := ⟨hRd.1, Nat.lt_of_lt_of_le hga hBd.size, hBd, cm, cell_of_row _ _ 1 _ _ _ hpd⟩
                replace hRd := Lib.hid hRd
                replace hpd := Lib.hid hpd
                clear hRn hhp hBi cm
                go_wp2
                obtain ⟨W1, hW1⟩ : ∃ W1, wr.drew = W1 := ⟨_, rfl⟩
                rw [hW1] at hRd hpd hBd hS0
                refine wp_region_held_drew (S := fun W => Round12 wo W wo.heap.size ga m true (.func (.func fid) #[] lb)) (by kernel_rfl) ?_ (fun hH => ?_)
                · rw [hW1]; exact hS0
                rw [hW1] at hH ⊢
                clear hW1 hS0
                refine wpAnyH_take (i := 0) (v := ?_) rfl (by kernel_rfl) (by kernel_rfl) (by kernel_rfl) (fun _ _ _ h => h) (Or.inl ⟨by rfl, ?_⟩) hH ?_
                rotate_left
                · (intro W hSw; (try dsimp only at hSw); go_simp; try with_reducible rfl)
                try simp only [List.getElem_toArray, List.getElem_cons_zero, List.getElem_cons_succ, Act.put, List.setIfInBounds_toArray, List.set_cons_zero, List.set_cons_succ]
                refine wpAnyH_take (i := 1) (v := ?_) rfl (by kernel_rfl) (by kernel_rfl) (by kernel_rfl) (fun _ _ _ h => h) (Or.inl ⟨by rfl, ?_⟩) hH ?_
                rotate_left
                · (intro W hSw; (try dsimp only at hSw); go_simp; try with_reducible rfl)
                try simp only [List.getElem_toArray, List.getElem_cons_zero, List.getElem_cons_succ, Act.put, List.setIfInBounds_toArray, List.set_cons_zero, List.set_cons_succ]
                refine wpAnyH_take (i := 2) (v := ?_) rfl (by kernel_rfl) (by kernel_rfl) (by kernel_rfl) (fun _ _ _ h => h) (Or.inl ⟨by rfl, ?_⟩) hH ?_
                rotate_left
                · (intro W hSw; (try dsimp only at hSw); go_simp; try with_reducible rfl)
                try simp only [List.getElem_toArray, List.getElem_cons_zero, List.getElem_cons_succ, Act.put, List.setIfInBounds_toArray, List.set_cons_zero, List.set_cons_succ]
                refine wpAnyH_take (i := 3) (v := ?_) rfl (by kernel_rfl) (by kernel_rfl) (by kernel_rfl) (fun _ _ _ h => h) (Or.inl ⟨by rfl, ?_⟩) hH ?_
                rotate_left
                · (intro W hSw; (try dsimp only at hSw); go_simp; try with_reducible rfl)
                try simp only [List.getElem_toArray, List.getElem_cons_zero, List.getElem_cons_succ, Act.put, List.setIfInBounds_toArray, List.set_cons_zero, List.set_cons_succ]
                refine wpAnyH_take (i := 4) (v := ?_) rfl (by kernel_rfl) (by kernel_rfl) (by kernel_rfl) (fun _ _ _ h => h) (Or.inl ⟨by rfl, ?_⟩) hH ?_
                rotate_left
                · (intro W hSw; (try dsimp only at hSw); go_simp; try with_reducible rfl)
                try simp only [List.getElem_toArray, List.getElem_cons_zero, List.getElem_cons_succ, Act.put, List.setIfInBounds_toArray, List.set_cons_zero, List.set_cons_succ]
                refine wpAnyH_take (i := 5) (v := ?_) rfl (by kernel_rfl) (by kernel_rfl) (by kernel_rfl) (fun _ _ _ h => h) (Or.inl ⟨by rfl, ?_⟩) hH ?_
                rotate_left
                · (intro W hSw; (try dsimp only at hSw); go_simp; try with_reducible rfl)
                try simp only [List.getElem_toArray, List.getElem_cons_zero, List.getElem_cons_succ, Act.put, List.setIfInBounds_toArray, List.set_cons_zero, List.set_cons_succ]
                refine wpAnyH_take (i := 6) (v := ?_) rfl (by kernel_rfl) (by kernel_rfl) (by kernel_rfl) (fun _ _ _ h => h) (Or.inl ⟨by rfl, ?_⟩) hH ?_
                rotate_left
                · (intro W hSw; (try dsimp only at hSw); go_simp; try with_reducible rfl)
                try simp only [List.getElem_toArray, List.getElem_cons_zero, List.getElem_cons_succ, Act.put, List.setIfInBounds_toArray, List.set_cons_zero, List.set_cons_succ]
                refine wpAnyH_take (i := 7) (v := ?_) rfl (by kernel_rfl) (by kernel_rfl) (by kernel_rfl) (fun _ _ _ h => h) (Or.inl ⟨by rfl, ?_⟩) hH ?_
                rotate_left
                · (intro W hSw; (try dsimp only at hSw); go_simp; try with_reducible rfl)
                try simp only [List.getElem_toArray, List.getElem_cons_zero, List.getElem_cons_succ, Act.put, List.setIfInBounds_toArray, List.set_cons_zero, List.set_cons_succ]
                refine wpAnyH_take (i := 8) (v := ?_) rfl (by kernel_rfl) (by kernel_rfl) (by kernel_rfl) (fun _ _ _ h => h) (Or.inl ⟨by rfl, ?_⟩) hH ?_
                rotate_left
                · (intro W hSw; (try dsimp only at hSw); go_simp; try with_reducible rfl)
                try simp only [List.getElem_toArray, List.getElem_cons_zero, List.getElem_cons_succ, Act.put, List.setIfInBounds_toArray, List.set_cons_zero, List.set_cons_succ]
                refine wpAnyH_take (i := 9) (v := ?_) rfl (by kernel_rfl) (by kernel_rfl) (by kernel_rfl) (fun _ _ _ h => h) (Or.inl ⟨by rfl, ?_⟩) hH ?_
                rotate_left
                · (intro W hSw; (try dsimp only at hSw); have z0 := hSw.2.2.2.1; have z1 := hSw.2.2.2.2; go_simp; try with_reducible rfl)
                try simp only [List.getElem_toArray, List.getElem_cons_zero, List.getElem_cons_succ, Act.put, List.setIfInBounds_toArray, List.set_cons_zero, List.set_cons_succ]
                refine wpAnyH_take (i := 10) (v := ?_) rfl (by kernel_rfl) (by kernel_rfl) (by kernel_rfl) (fun _ _ _ h => h) (Or.inl ⟨by rfl, ?_⟩) hH ?_
                rotate_left
                · (intro W hSw; (try dsimp only at hSw); go_simp; try with_reducible rfl)
                try simp only [List.getElem_toArray, List.getElem_cons_zero, List.getElem_cons_succ, Act.put, List.setIfInBounds_toArray, List.set_cons_zero, List.set_cons_succ]
                refine wpAnyH_take (i := 11) (v := ?_) rfl (by kernel_rfl) (by kernel_rfl) (by kernel_rfl) (fun _ _ _ h => h) (Or.inl ⟨by rfl, ?_⟩) hH ?_
                rotate_left
                · (intro W hSw; (try dsimp only at hSw); go_simp; try with_reducible rfl)
                try simp only [List.getElem_toArray, List.getElem_cons_zero, List.getElem_cons_succ, Act.put, List.setIfInBounds_toArray, List.set_cons_zero, List.set_cons_succ]
                refine wpAnyH_take (i := 12) (v := ?_) rfl (by kernel_rfl) (by kernel_rfl) (by kernel_rfl) (fun _ _ _ h => h) (Or.inl ⟨by rfl, ?_⟩) hH ?_
                rotate_left
                · (intro W hSw; (try dsimp only at hSw); go_simp; try with_reducible rfl)
                try simp only [List.getElem_toArray, List.getElem_cons_zero, List.getElem_cons_succ, Act.put, List.setIfInBounds_toArray, List.set_cons_zero, List.set_cons_succ]
                refine wpAnyH_take (i := 13) (v := ?_) rfl (by kernel_rfl) (by kernel_rfl) (by kernel_rfl) (fun _ _ _ h => h) (Or.inl ⟨by rfl, ?_⟩) hH ?_
                rotate_left
                · (intro W hSw; (try dsimp only at hSw); have z0 := hSw.2.2.2.1; have z1 := hSw.2.2.2.2; go_simp; try with_reducible rfl)
                try simp only [List.getElem_toArray, List.getElem_cons_zero, List.getElem_cons_succ, Act.put, List.setIfInBounds_toArray, List.set_cons_zero, List.set_cons_succ]
                refine wpAnyH_take (i := 14) (v := ?_) rfl (by kernel_rfl) (by kernel_rfl) (by kernel_rfl) (fun _ _ _ h => h) (Or.inl ⟨by rfl, ?_⟩) hH ?_
                rotate_left
                · (intro W hSw; (try dsimp only at hSw); go_simp; try with_reducible rfl)
                try simp only [List.getElem_toArray, List.getElem_cons_zero, List.getElem_cons_succ, Act.put, List.setIfInBounds_toArray, List.set_cons_zero, List.set_cons_succ]
                refine wpAnyH_take (i := 15) (v := ?_) rfl (by kernel_rfl) (by kernel_rfl) (by kernel_rfl) (fun _ _ _ h => h) (Or.inl ⟨by rfl, ?_⟩) hH ?_
                rotate_left
                · (intro W hSw; (try dsimp only at hSw); go_simp; try with_reducible rfl)
                try simp only [List.getElem_toArray, List.getElem_cons_zero, List.getElem_cons_succ, Act.put, List.setIfInBounds_toArray, List.set_cons_zero, List.set_cons_succ]
                refine wpAnyH_take (i := 16) (v := ?_) rfl (by kernel_rfl) (by kernel_rfl) (by kernel_rfl) (fun _ _ _ h => h) (Or.inl ⟨by rfl, ?_⟩) hH ?_
                rotate_left
                · (intro W hSw; (try dsimp only at hSw); go_simp; try with_reducible rfl)
                try simp only [List.getElem_toArray, List.getElem_cons_zero, List.getElem_cons_succ, Act.put, List.setIfInBounds_toArray, List.set_cons_zero, List.set_cons_succ]
                refine wpAnyH_take (i := 17) (v := ?_) rfl (by kernel_rfl) (by kernel_rfl) (by kernel_rfl) (fun _ _ _ h => h) (Or.inl ⟨by rfl, ?_⟩) hH ?_
                rotate_left
                · (intro W hSw; (try dsimp only at hSw); go_simp; try with_reducible rfl)
                try simp only [List.getElem_toArray, List.getElem_cons_zero, List.getElem_cons_succ, Act.put, List.setIfInBounds_toArray, List.set_cons_zero, List.set_cons_succ]
                refine wpAnyH_ready (rs := [18]) (by kernel_rfl) (by simp) ?_
                refine AllReadyH.cons rfl (fun K hK => ?_) AllReadyH.nil
                go_simp
                refine (hcall _ hH _).mono ?_; rintro e w5 ⟨rfl, hb5⟩
                have hRd := Lib.hid (hRd.out.on (below_of hb5 hH))
                refine hK.out _ _ ?_ (fun hH5 => ?_)
                · exact hH.on hb5
                clear hK K
                try simp only [List.getElem_toArray, List.getElem_cons_zero, List.getElem_cons_succ, Act.put, List.setIfInBounds_toArray, List.set_cons_zero, List.set_cons_succ]
                refine wpAnyH_take (i := 19) (v := ?_) rfl (by kernel_rfl) (by kernel_rfl) (by kernel_rfl) (fun _ _ _ h => h) (Or.inl ⟨by rfl, ?_⟩) hH5 ?_
                rotate_left
                · (intro W hSw; (try dsimp only at hSw); go_simp; try with_reducible rfl)
                try simp only [List.getElem_toArray, List.getElem_cons_zero, List.getElem_cons_succ, Act.put, List.setIfInBounds_toArray, List.set_cons_zero, List.set_cons_succ]
                refine wpAnyH_take (i := 20) (v := ?_) rfl (by kernel_rfl) (by kernel_rfl) (by kernel_rfl) (fun _ _ _ h => h) (Or.inl ⟨by rfl, ?_⟩) hH5 ?_
                rotate_left
                · (intro W hSw; (try dsimp only at hSw); go_simp; try with_reducible rfl)
                try simp only [List.getElem_toArray, List.getElem_cons_zero, List.getElem_cons_succ, Act.put, List.setIfInBounds_toArray, List.set_cons_zero, List.set_cons_succ]
                refine wpAnyH_ready (rs := [21]) (by kernel_rfl) (by simp) ?_
                refine AllReadyH.cons rfl (fun K hK => ?_) AllReadyH.nil
                obtain ⟨cn, fn⟩ := hRd.out.2 (m + 1) (by omega)
                dsimp only at cn
                go_simp
                refine hK.out _ _ ?_ (fun _ => ?_)
                · exact hH5.set hgn.out (Nat.le_succ _) _ _
                clear hK K
                try simp only [List.getElem_toArray, List.getElem_cons_zero, List.getElem_cons_succ, Act.put, List.setIfInBounds_toArray, List.set_cons_zero, List.set_cons_succ]
                refine wpAnyH_done (by kernel_rfl) ?_ _
                go_wp2
                go_roundw
                case rel => exact ⟨m + 1 + 1, by go_num, by omega, Lib.hid (hRd.out.set (m + 1) _ (by omega) (fun j _ => upto_next hnv.out)), Lib.hid ((Below.heap_setCell w5 _ _ _ (by simp)).trans ((hb5.block _ (Nat.lt_of_succ_lt hH.1)).trans hpd.out)), (below_step hBd hBd.size hb5).setCell (by simp) _⟩
                case measure => first | (simp [intOf]; done) | (simp [intOf]; omega)
          · obtain rfl : i = s.size + 1 := by omega
            have hRf : RowF wr (wo.heap.size + 1) s.size (Fit.rows s.data.toList (ps.take (k + 1)) Fit.start) := hRn.out.of (fun j hj => by rw [hnext.out]; simp; omega)
            replace hRf := Lib.hid hRf
            have lB : decide ((s.size : Int) + 1 < (s.size : Int) + 1) = false := by simp
            have hBo := hB.trans (hBi.mono hzB)
            clear hRn hR
            go_wp2
            go_roundw
            case rel => exact ⟨k + 1, wo.heap.size + 1, by go_num, by go_num, by omega, hRf, hBo⟩
            case measure => simp [intOf]; omega
    · obtain rfl : k = N := by omega
      have hlB : decide ((k : Int) < (k : Int)) = false := by simp
      have hR1 := hR.out
      rw [List.take_of_length_le (by rw [← hlen.out]; omega)] at hR1
      obtain ⟨cl, _⟩ := hR1.2 s.size (Nat.le_refl _)
      rw [← hsl.out, Fit.rows_fit] at cl
      rw [hsl.out] at cl
      obtain ⟨r, hr⟩ : ∃ r, Fit.fit ps s.data.toList = r := ⟨_, rfl⟩
      rw [hr] at cl
      replace hr := Lib.hid hr
      have j0 : (0 : Int) ≤ (s.size : Int) := by omega
      have j1 : (s.size : Int) < (s.size : Int) + 1 := by omega
      clear hR hR1 hcells hP
      go_wp2
      go_ret
      exact ⟨ret_bool hr.out.symm, hB⟩

end Go.Proofs.YtmkgalcojoeniaaGreatDoor

