/- Walks: fold (package funcs). Walks: the parts of a pattern; like (package funcs). Walks: fits (package funcs): does a text fit parts? -/
import Derived.Test.YtmkgalcojoeniaaGreatDoorBlk
import Derived.Test.YtmkgalcojoeniaaGreatDoorBelow
import Derived.Test.YtmkgalcojoeniaaGreatDoorFitP
import Derived.RangeFuncBox
import Derived.Shelf.Abstract
import Derived.Deep.RegionHeld3
import Derived.Laws.MakeOwn
set_option maxRecDepth 100000
set_option linter.unusedVariables false
set_option linter.unusedSimpArgs false
namespace Go.Proofs.YtmkgalcojoeniaaGreatDoor
open Go.RowKit

/-- bytes in memory, in a block of their own -/
def RowB (W : World) (g : Nat) (l : List UInt8) : Prop := g < W.heap.size ∧ ∀ j (h : j < l.length), W.cell? ⟨g, j, none⟩ = some (.int .u8 (l[j].toNat : Int)) ∧ W.frozen? ⟨g, j, none⟩ = false
theorem RowB.set {W : World} {g : Nat} {l : List UInt8} (h : RowB W g l) (k : Nat) (c : UInt8) : RowB (W.setCell ⟨g, k, none⟩ (.int .u8 (c.toNat : Int))) g (l.set k c) := by
  refine ⟨by simp [World.setCell]; exact h.1, fun j hj => ?_⟩
  have hj' : j < l.length := by simpa using hj
  obtain ⟨h1, h2⟩ := h.2 j hj'
  refine ⟨?_, by rw [World.frozen?_setCell]; exact h2⟩
  by_cases e : k = j
  · subst e
    rw [cs h1]; simp
  · rw [co (by intro h; apply e; cases h; rfl), h1, List.getElem_set_ne e]
theorem map_next {l : List UInt8} {k : Nat} (F : UInt8 → UInt8) (h : k < l.length) : ((l.take k).map F ++ l.drop k).set k (F l[k]) = (l.take (k + 1)).map F ++ l.drop (k + 1) := by
  rw [List.drop_eq_getElem_cons h, List.set_append_right _ _ (by simp; omega)]
  have e : k - ((l.take k).map F).length = 0 := by simp; omega
  rw [e, List.set_cons_zero, List.take_add_one, List.getElem?_eq_getElem h]
  simp only [Option.toList, List.map_append, List.map_cons, List.map_nil, List.append_assoc, List.cons_append, List.nil_append]
theorem map_same {l : List UInt8} {k : Nat} (F : UInt8 → UInt8) (h : k < l.length) (hF : F l[k] = l[k]) : (l.take k).map F ++ l.drop k = (l.take (k + 1)).map F ++ l.drop (k + 1) := by
  rw [← map_next F h, hF]
  rw [List.set_append_right _ _ (by simp; omega)]
  have e : k - ((l.take k).map F).length = 0 := by simp; omega
  rw [e, List.drop_eq_getElem_cons h, List.set_cons_zero]
theorem map_at {l : List UInt8} {k : Nat} (F : UInt8 → UInt8) (h : k < l.length) : ∃ h2 : k < ((l.take k).map F ++ l.drop k).length, ((l.take k).map F ++ l.drop k)[k] = l[k] := by
  refine ⟨by simp; omega, ?_⟩
  rw [List.getElem_append_right (by simp; omega)]
  simp [Nat.min_eq_left (Nat.le_of_lt h)]
theorem row_string {W : World} {g cap n : Nat} {l : List UInt8} (h : RowB W g l) (hn : l.length = n) : (convert 99 9 (.slice (some ⟨g, 0, none⟩) n cap)).run Tryz.prog W = .ok (.string (bs l)) W := by
  subst hn
  exact run_convert_bytes_back W _ _ 5 ⟨g, 0, none⟩ cap l Tryz.underlying99 Tryz.underlying5 Tryz.underlying9 (fun j hj => by
    rw [Addr.add_lit, Nat.zero_add]; exact (h.2 j hj).1)

set_option maxHeartbeats 1000000 in
theorem fold_low (s : ByteArray) (w : World) (hs : s.size ≤ 1048576) : Calls Tryz.prog 47 #[.string s, .int .u8 65, .int .u8 97] w fun e w' => e = .returned (.string (bs (s.data.toList.map Txt.lower))) ∧ Below w.heap.size w w' := by
  have hcv : ∀ W : World, (convert 9 99 (.string s)).run Tryz.prog W = .ok (.slice (some ⟨W.heap.size, 0, none⟩) s.size (grownCap W s.size 0 5)) (W.drew.alloc (.cells (bytesRow s (grownCap W s.size 0 5)) 5 ((bytesRow s (grownCap W s.size 0 5)).size, (bytesRow s (grownCap W s.size 0 5)).size + 1))) := fun W => run_bytes_of_string W _ _ _ s Tryz.underlying9 Tryz.underlying99 Tryz.underlying5
  have hsz : s.data.toList.length = s.size := rfl
  obtain ⟨cap, hcap⟩ : ∃ cap, grownCap w s.size 0 5 = cap := ⟨_, rfl⟩
  have hge : s.size ≤ cap := by rw [← hcap]; exact grownCap_ge w s.size 0 5
  obtain ⟨W0, hW0⟩ : ∃ W0, w.drew.alloc (.cells (bytesRow s cap) 5 ((bytesRow s cap).size, (bytesRow s cap).size + 1)) = W0 := ⟨_, rfl⟩
  have hB0 : Below w.heap.size w W0 := by rw [← hW0]; exact (Below.refl _ w).drew.alloc (Nat.le_refl _) _
  have hR0 : RowB W0 w.heap.size s.data.toList := by
    have hh : W0.heap[w.heap.size]? = some (.cells (bytesRow s cap) 5 ((bytesRow s cap).size, (bytesRow s cap).size + 1)) := by rw [← hW0]; exact heap_new w.drew _
    refine ⟨(Array.getElem?_eq_some_iff.1 hh).1, fun j hj => ⟨?_, ?_⟩⟩
    · rw [cell_of_row _ _ j _ _ _ hh, bytesRow_at s cap j hj]; rfl
    · have hb := bytesRow_at s cap j hj
      have := (Array.getElem?_eq_some_iff.1 hb).1
      simp [World.frozen?, hh]; omega
  go_enter Tryz.func47, Tryz.ntmps47
  go_wp2
  go_loopw [14] (fun iv wr => ∃ k : Nat, iv = .int .i64 (k : Int) ∧ k ≤ s.size ∧ Hid (RowB wr w.heap.size ((s.data.toList.take k).map Txt.lower ++ s.data.toList.drop k)) ∧ Below w.heap.size w wr) (fun iv _ => s.size - (Go.RowKit.intOf iv).toNat)
  case atStart => exact ⟨0, by go_num, by omega, Lib.hid (by simpa using hR0), hB0⟩
  case round =>
    obtain ⟨k, rfl, hk, hR, hB⟩ := hrel
    by_cases hlt : k < s.size
    · obtain ⟨hk2, hat⟩ := map_at Txt.lower (l := s.data.toList) (k := k) hlt
      obtain ⟨c0, f0⟩ := hR.out.2 k hk2
      rw [hat] at c0
      have hlB : decide ((k : Int) < (s.size : Int)) = true := by simp; omega
      have i0 : (0 : Int) ≤ (k : Int) := by omega
      have i1 : (k : Int) < (s.size : Int) := by omega
      obtain ⟨c, hc⟩ : ∃ c, s.data.toList[k] = c := ⟨_, rfl⟩
      rw [hc] at c0
      have hcl := c.toNat_lt
      by_cases hu : 65 ≤ c.toNat ∧ c.toNat ≤ 90
      · have b1 : decide ((c.toNat : Int) ≥ 65) = true := by simp; omega
        have b2 : decide ((c.toNat : Int) < 91) = true := by simp; omega
        have e1 : IntKind.u8.wrap ((c.toNat : Int) - 65) = (c.toNat : Int) - 65 := by simp [IntKind.wrap, IntKind.bits, IntKind.signed]; omega
        have e2 : IntKind.u8.wrap ((c.toNat : Int) - 65 + 97) = ((Txt.lower c).toNat : Int) := by rw [Txt.lower_up hu]; simp [IntKind.wrap, IntKind.bits, IntKind.signed]; omega
        have hR2 : RowB (wr.setCell ⟨w.heap.size, k, none⟩ (.int .u8 ((Txt.lower c).toNat : Int))) w.heap.size ((s.data.toList.take (k + 1)).map Txt.lower ++ s.data.toList.drop (k + 1)) := by
          rw [← map_next Txt.lower hlt, hc]; exact hR.out.set k _
        replace hR2 := Lib.hid hR2
        clear hR hat hk2 hu hc
        generalize (Txt.lower c).toNat = m at *
        go_wp2
        go_roundw
        case rel => exact ⟨k + 1, by go_num, by omega, hR2, hB.setCell (Nat.le_refl _) _⟩
        case measure => simp [Go.RowKit.intOf]; omega
      · have hR2 : RowB wr w.heap.size ((s.data.toList.take (k + 1)).map Txt.lower ++ s.data.toList.drop (k + 1)) := by
          rw [← map_same Txt.lower hlt (by rw [hc]; exact Txt.lower_no hu)]; exact hR.out
        replace hR2 := Lib.hid hR2
        clear hR hat hk2 hc
        by_cases h65 : 65 ≤ c.toNat
        · have b1 : decide ((c.toNat : Int) ≥ 65) = true := by simp; omega
          have b2 : decide ((c.toNat : Int) < 91) = false := by simp; omega
          clear hu
          go_wp2
          go_roundw
          case rel => exact ⟨k + 1, by go_num, by omega, hR2, hB⟩
          case measure => simp [Go.RowKit.intOf]; omega
        · have b1 : decide ((c.toNat : Int) ≥ 65) = false := by simp; omega
          clear hu
          go_wp2
          go_roundw
          case rel => exact ⟨k + 1, by go_num, by omega, hR2, hB⟩
          case measure => simp [Go.RowKit.intOf]; omega
    · obtain rfl : k = s.size := by omega
      have hR2 : RowB wr w.heap.size (s.data.toList.map Txt.lower) := by
        have := hR.out
        rwa [List.take_of_length_le (by omega), List.drop_eq_nil_of_le (by omega), List.append_nil] at this
      have hst : ∀ cap, (convert 99 9 (.slice (some ⟨w.heap.size, 0, none⟩) s.size cap)).run Tryz.prog wr = .ok (.string (bs (s.data.toList.map Txt.lower))) wr := fun cap => row_string hR2 (by simp)
      clear hR2 hR
      generalize hRR : bs (s.data.toList.map Txt.lower) = R at hst
      replace hRR := Lib.hid hRR
      go_wp2
      go_ret
      exact ⟨by rw [hRR.out]; rfl, hB⟩

end Go.Proofs.YtmkgalcojoeniaaGreatDoor

namespace Go.Proofs.YtmkgalcojoeniaaGreatDoor
open Go.RowKit

theorem run_store_fn2 {P : Program} {w : World} (a : Addr) (m : Mode) (fn : Fn) (x y : Array Value) : (store a (.func fn x y) m).run P w = stored P w a (.func fn x y) m := run_store P w a _ m rfl
theorem run_store_nofn2 {P : Program} {w : World} (a : Addr) (m : Mode) : (store a .nilFunc m).run P w = stored P w a .nilFunc m := run_store P w a _ m rfl
attribute [local go_sem] run_store_fn2 run_store_nofn2

/-- an object that is no row of parts -/
def NoPart (o : Obj) : Prop := ∀ cs z, o ≠ .cells cs 124 z
/-- a function value that takes a byte or not, whatever becomes of the memory beside the blocks that it holds -/
def Takes (W : World) (v : Value) (f : UInt8 → Bool) : Prop := ∃ fid lb, v = .func (.func fid) #[] lb ∧ (∀ args w, (callFunc fid args).run Tryz.prog w = .ok (.enter fid args) w) ∧ ∃ bl : List Nat, (∀ b ∈ bl, ∃ o, W.heap[b]? = some o ∧ NoPart o) ∧ ∀ W', (∀ b ∈ bl, W'.heap[b]? = W.heap[b]?) → ∀ c : UInt8, Calls Tryz.prog fid (#[.int .u8 (c.toNat : Int)] ++ lb) W' fun e w' => e = .returned (.bool (f c)) ∧ Below W'.heap.size W' w'
theorem Takes.kept {W W' : World} {v : Value} {f : UInt8 → Bool} (h : Takes W v f) (hk : ∀ (b : Nat) o, W.heap[b]? = some o → NoPart o → W'.heap[b]? = some o) : Takes W' v f := by
  obtain ⟨fid, lb, rfl, eg, bl, hb, hc⟩ := h
  refine ⟨fid, lb, rfl, eg, bl, fun b hm => ?_, fun W2 h2 => hc W2 fun b hm => ?_⟩
  · obtain ⟨o, ho, hn⟩ := hb b hm
    exact ⟨o, hk b o ho hn, hn⟩
  · obtain ⟨o, ho, hn⟩ := hb b hm
    rw [h2 b hm, hk b o ho hn, ho]
def PartAt (W : World) (x : Bool × Value) : Fit.P → Prop
  | .any => x = (true, .nilFunc)
  | .takes f => x.1 = false ∧ Takes W x.2 f
theorem PartAt.kept {W W' : World} {x : Bool × Value} {p : Fit.P} (h : PartAt W x p) (hk : ∀ (b : Nat) o, W.heap[b]? = some o → NoPart o → W'.heap[b]? = some o) : PartAt W' x p := by
  cases p with
  | any => exact h
  | takes f => exact ⟨h.1, h.2.kept hk⟩
def PartsAt (W : World) (xs : List (Bool × Value)) (ps : List Fit.P) : Prop := xs.length = ps.length ∧ ∀ (k : Nat) x p, xs[k]? = some x → ps[k]? = some p → PartAt W x p
theorem PartsAt.nil (W : World) : PartsAt W [] [] := ⟨rfl, fun k x p h => by simp at h⟩
theorem PartsAt.kept {W W' : World} {xs : List (Bool × Value)} {ps : List Fit.P} (h : PartsAt W xs ps) (hk : ∀ (b : Nat) o, W.heap[b]? = some o → NoPart o → W'.heap[b]? = some o) : PartsAt W' xs ps := ⟨h.1, fun k x p h1 h2 => (h.2 k x p h1 h2).kept hk⟩
/-- the cells of parts -/
def flat (l : List (Bool × Value)) : List Value := l.flatMap fun x => [.bool x.1, x.2]
end Go.Proofs.YtmkgalcojoeniaaGreatDoor

namespace Go.Proofs.YtmkgalcojoeniaaGreatDoor
open Go.RowKit
attribute [local go_sem] run_store_fn2 run_store_nofn2

def madeB (n : Nat) : Array Value := madeCells #[.bool false] (n + 1)
theorem madeB_at (n j : Nat) (h : j ≤ n) : (madeB n)[j]? = some (.bool false) := by
  unfold madeB madeCells
  have : j < n + 1 := by omega
  simp [this, Nat.mod_one]
/-- a row of n + 1 truths in a block of its own -/
def RowF (W : World) (g n : Nat) (row : Nat → Bool) : Prop := g < W.heap.size ∧ ∀ j, j ≤ n → W.cell? ⟨g, j, none⟩ = some (.bool (row j)) ∧ W.frozen? ⟨g, j, none⟩ = false
theorem RowF.of {W : World} {g n : Nat} {row row' : Nat → Bool} (h : RowF W g n row) (he : ∀ j, j ≤ n → row j = row' j) : RowF W g n row' :=
  ⟨h.1, fun j hj => by rw [← he j hj]; exact h.2 j hj⟩
theorem RowF.kept {W W' : World} {g n : Nat} {row : Nat → Bool} (h : RowF W g n row) (hs : W.heap.size ≤ W'.heap.size) (hb : W'.heap[g]? = W.heap[g]?) : RowF W' g n row :=
  ⟨Nat.lt_of_lt_of_le h.1 hs, fun j hj => by rw [World.cell?_of_block (w := W) (w' := W') hb, World.frozen?_of_block (w := W) (w' := W') hb]; exact h.2 j hj⟩
theorem RowF.on {W W' : World} {g n : Nat} {row : Nat → Bool} (h : RowF W g n row) (hb : Below W.heap.size W W') : RowF W' g n row := h.kept hb.size (hb.block g h.1)
theorem RowF.set {W : World} {g n : Nat} {row row' : Nat → Bool} (h : RowF W g n row) (i : Nat) (b : Bool) (hi : i ≤ n) (he : ∀ j, j ≤ n → row' j = if j = i then b else row j) : RowF (W.setCell ⟨g, i, none⟩ (.bool b)) g n row' := by
  refine ⟨by simp [World.setCell]; exact h.1, fun j hj => ⟨?_, by rw [World.frozen?_setCell]; exact (h.2 j hj).2⟩⟩
  rw [he j hj]
  by_cases e : j = i
  · subst e
    rw [if_pos rfl]; exact cs (h.2 j hj).1
  · rw [if_neg e, co (by intro h; apply e; cases h; rfl)]; exact (h.2 j hj).1
theorem RowF.new (W : World) (n : Nat) : RowF (W.alloc (.cells (madeB n) 4)) W.heap.size n (fun _ => false) := by
  have hh := heap_new W (.cells (madeB n) 4)
  obtain ⟨W', hW'⟩ : ∃ W', W.alloc (.cells (madeB n) 4) = W' := ⟨_, rfl⟩
  rw [hW'] at hh ⊢
  refine ⟨(Array.getElem?_eq_some_iff.1 hh).1, fun j hj => ⟨?_, ?_⟩⟩
  · rw [cell_of_row _ _ j _ _ _ hh]; exact madeB_at n j hj
  · simp [World.frozen?, hh]

/-- what a round's drawn region reads -/
def Round12 (w W : World) (gp ga m : Nat) (r : Bool) (pv : Value) : Prop := gp + 1 < W.heap.size ∧ ga < W.heap.size ∧ Below w.heap.size w W ∧ W.cell? ⟨ga, m, none⟩ = some (.bool r) ∧ W.cell? ⟨gp, 1, none⟩ = some pv
theorem Round12.on {w W W' : World} {gp ga m : Nat} {r : Bool} {pv : Value} (h : Round12 w W gp ga m r pv) (hb : Below W.heap.size W W') : Round12 w W' gp ga m r pv :=
  ⟨Nat.lt_of_lt_of_le h.1 hb.size, Nat.lt_of_lt_of_le h.2.1 hb.size, below_step h.2.2.1 h.2.2.1.size hb, (hb.cell (p := ⟨ga, m, none⟩) h.2.1).trans h.2.2.2.1, (hb.cell (p := ⟨gp, 1, none⟩) (Nat.lt_trans (Nat.lt_succ_self _) h.1)).trans h.2.2.2.2⟩
theorem Round12.set {w W : World} {gp ga m : Nat} {r : Bool} {pv : Value} (h : Round12 w W gp ga m r pv) (hg : gp + 1 ≠ ga) (hw : w.heap.size ≤ gp + 1) (i : Nat) (v : Value) : Round12 w (W.setCell ⟨gp + 1, i, none⟩ v) gp ga m r pv :=
  ⟨by simp [World.setCell]; exact h.1, by simp [World.setCell]; exact h.2.1, h.2.2.1.setCell hw _, (co (by intro e; cases e; exact hg rfl)).trans h.2.2.2.1, (co (by intro e; injection e with e _; omega)).trans h.2.2.2.2⟩

end Go.Proofs.YtmkgalcojoeniaaGreatDoor

