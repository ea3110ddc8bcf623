/- Walks: the functions' names (packages funcs, bureauref18). -/
import Derived.Test.YtmkgalcojoeniaaGreatDoorFn4
import Derived.Test.YtmkgalcojoeniaaGreatDoorRange2
import Derived.Test.YtmkgalcojoeniaaGreatDoorWordsR
set_option maxRecDepth 100000
set_option linter.unusedVariables false
set_option linter.unusedSimpArgs false
namespace Go.Proofs.YtmkgalcojoeniaaGreatDoor
open Go.RowKit
attribute [local go_sem] run_store_fn run_store_nofn
attribute [local go_sem] Oper.semAt_some

theorem below_grown18 {w w' : World} (h : Below w.heap.size w w') : w.grownBy w' none := ⟨h.os, h.tape, h.output, h.size, fun k hk _ => h.block k hk⟩

/-- the table's cells alone -/
def Cells20 (W : World) (g : Nat) (d : Nat → Value) : Prop := g < W.heap.size ∧ ∀ k, k < 20 → ∀ i, i < 5 → W.cell? ⟨g, k * 5 + i, none⟩ = some (fcell k (d k) i)
theorem Cells20.same {W W' : World} {g : Nat} {d : Nat → Value} (h : Cells20 W g d) (hb : W'.heap[g]? = W.heap[g]?) : Cells20 W' g d := by
  refine ⟨?_, fun k hk i hi => (World.cell?_of_block hb).trans (h.2 k hk i hi)⟩
  rw [Array.getElem?_eq_getElem h.1] at hb
  exact (Array.getElem?_eq_some_iff.1 hb).1

/-- what Names' yield is handed -/
def encN (x : List UInt8) : Array Value := #[.string (bs x)]
theorem fnames_take {k : Nat} (hk : k < 20) : fnames.take k ++ [fnames.getD k []] = fnames.take (k + 1) := by
  have h : k < fnames.length := hk
  rw [List.take_add_one, List.getElem?_eq_getElem h, List.getD_eq_getElem?_getD, List.getElem?_eq_getElem h]
  rfl

set_option maxRecDepth 100000 in
set_option maxHeartbeats 1000000 in
theorem names1_seq (n : Nat) (w : World) (hn1 : 1 ≤ n) :
    SeqHigh n Tryz.prog 40 #[] encN (fun _ => False) (fun ys => ys = fnames) (fun pre => pre <+: fnames) 20 w := by
  intro l J Jx W hb0 hJ hJx hY h0
  have hF : ∀ f, WF.fn f := fun _ => trivial
  refine callsIn_of_wp Tryz.func40 rfl trivial ?_ rfl
  simp only [Tryz.ntmps40, List.size_toArray, List.length_cons, List.length_nil, Nat.reduceAdd, Nat.reduceSub, Array.replicate_succ, Array.replicate_zero, List.push_toArray, List.append_toArray, List.nil_append, List.cons_append]
  gi_wp2_with (gi_at_call 41; refine (callsIn_wide.2 (functions_any _)).mono ?_; rintro e w1 ⟨g, d, rfl, hT, hg, hb⟩)
  have hj1 : J [] w1 := hJ _ _ _ none h0 (below_grown18 hb) (fun r e => by cases e)
  have hC1 : Cells20 w1 g d := ⟨hT.1, hT.2.1⟩
  have hst := fun k hk => at_one (hT.2.2 k hk)
  clear hT
  gi_loopw [6] (fun i wr => ∃ k : Nat, i = .int .i64 (k : Int) ∧ k ≤ 20 ∧ J (fnames.take k) wr ∧ Cells20 wr g d) (fun i _ => 20 - (Go.RowKit.intOf i).toNat)
  case atStart => exact ⟨0, by go_num, by omega, hj1, hC1⟩
  case round =>
    obtain ⟨k, rfl, hk, hj, hC⟩ := hrel
    by_cases hlt : k < 20
    · have c0 := hC.2 k hlt 0 (by omega)
      have c1 := hC.2 k hlt 1 (by omega)
      have c2 := hC.2 k hlt 2 (by omega)
      have c3 := hC.2 k hlt 3 (by omega)
      have c4 := hC.2 k hlt 4 (by omega)
      simp only [fcell, Nat.add_zero] at c0 c1 c2 c3 c4
      have hlB : decide ((k : Int) < 20) = true := by simp; omega
      have i0 : (0 : Int) ≤ (k : Int) := by omega
      have i1 : (k : Int) < 20 := by omega
      have hgr := hC.1
      obtain ⟨yfn, ytmps, yassign, ybody, hy, hR⟩ := hY (fnames.take k) (fnames.getD k []) (wr.alloc (.cells #[.string (fname k), .int .i64 (fleasts.getD k 0), .int .i64 (fmosts.getD k 0), .bool (fnullss.getD k false), d k] 56)) (hJ.alloc _ hj) (by rw [List.length_take]; exact Nat.lt_of_le_of_lt (Nat.min_le_left _ _) hlt) (by rw [fnames_take hlt]; exact List.take_prefix _ _)
      rw [fnames_take hlt] at hR
      have hx : encN (fnames.getD k []) = #[.string (fname k)] := rfl
      rw [hx] at hy
      have hone : ∀ (a : Addr) (m : Mode) (W : World), (store a (d k) m).run Tryz.prog W = stored Tryz.prog W a (d k) m := fun a m W => run_store _ W a _ m (hst k hlt)
      clear hx hst hY
      generalize fname k = s0 at *
      generalize fleasts.getD k 0 = s1 at *
      generalize fmosts.getD k 0 = s2 at *
      generalize fnullss.getD k false = s3 at *
      generalize d k = s4 at *
      gi_wp2
      refine hR.mono ?_
      rintro e2 w2 (⟨rfl, hj2, hk2, hh2⟩ | ⟨rfl, hjx, hh2⟩)
      · have hC2 : Cells20 w2 g d := hC.same ((hh2.same g (by have := hb.size; omega) (by simp; omega)).trans (Below.heap_alloc _ _ _ hgr))
        gi_wp2
        go_roundw
        case rel => exact ⟨k + 1, by go_num, by omega, hj2, hC2⟩
        case measure => simp [Go.RowKit.intOf]; omega
      · gi_wp2
        refine bodyPost_ret (results_none rfl _ _ _) rfl ?_
        exact ⟨⟨_, rfl⟩, .inr ⟨_, List.take_prefix _ _, hjx⟩⟩
    · obtain rfl : k = 20 := by omega
      gi_wp2
      go_end0
      exact ⟨⟨_, rfl⟩, .inl ⟨fnames, rfl, hj⟩⟩

end Go.Proofs.YtmkgalcojoeniaaGreatDoor
