/- The last steps of a card's row: what a law that answers true and leaves what lay below the heap's end owes, whatever its arguments; a world for the witness that holds the listed tables. -/
import Derived.Test.YtdapnemcdgjeeaaGreatDoorBelow
import Derived.Test.YtdapnemcdgjeeaaGreatDoorBase
import Derived.Deep.Slices
import Derived.Deep.Strs
import Derived.Carry
import Derived.Lay
import Derived.LaidMore
import Derived.Deep.DeepHandedRow
import Derived.SevenTiedAt
import Derived.Clock
set_option maxRecDepth 100000
set_option linter.unusedVariables false
set_option linter.unusedSimpArgs false
namespace Go.Proofs.YtdapnemcdgjeeaaGreatDoor
open Go.ChangeShapes Go.WideShapes Go.ChangeAt Go.RowKit

theorem laidOut : laidOutB Tryz.prog = true := by kernel_rfl

/-- the arguments read behind the call as they did before, in both manners -/
theorem trodAll_later {H : Type} {enc : TypeId × Value → H} {P : Program} (hl : laidOutB P = true) {W W' : World} (hb : Below W.heap.size W W') :
    ∀ {ts : List TypeId} {vs : List Value} {ds : List (DataW H)} {ps : List MemPlace}, ts.all (fun t => P.readableRec t && decide (t < P.types.size)) = true → DataW.TrodAll enc P W 0 (fun _ => true) true ts vs ds ps → (∀ x ∈ ps, x.block < W.heap.size) →
      DataW.TrodAll enc P W' 0 (fun b => decide (b < W.heap.size)) true ts vs ds ps ∧ DataW.TrodAll enc P W' 0 (fun _ => true) true ts vs ds ps := by
  intro ts
  induction ts with
  | nil =>
    intro vs ds ps _ h hlt
    cases vs <;> cases ds <;> simp [DataW.TrodAll] at h ⊢
    exact h
  | cons t ts ih =>
    intro vs ds ps hr h hlt
    obtain ⟨v, vs', d, ds', p, q, rfl, rfl, rfl, h1, h2⟩ := trodAll_cons h
    simp only [List.all_cons, Bool.and_eq_true, decide_eq_true_eq] at hr
    have l1 : ∀ x ∈ p, x.block < W.heap.size := fun x hx => hlt x (List.mem_append_left _ hx)
    have l2 : ∀ x ∈ q, x.block < W.heap.size := fun x hx => hlt x (List.mem_append_right _ hx)
    obtain ⟨i1, i2⟩ := ih hr.2 h2 l2
    refine ⟨trodAll_cons_mk (Below.trod hl hr.1.1 hr.1.2 h1 hb l1) i1, trodAll_cons_mk ?_ i2⟩
    obtain ⟨n, hn⟩ := h1
    exact ⟨n, DataW.trod_carry n _ _ _ hn (fun x hx => hb.same (l1 x hx))⟩

/-- WHAT A LAW THAT ANSWERS true OWES, FROM 'Below' ALONE -/
theorem post_true {H : Type} {enc : TypeId × Value → H} {P : Program} {f : Func} {s : ChangeSpec} {apart : Bool} {W W' : World} {args : Array Value} {ds gs : List (DataW H)} {before : List MemPlace} {T : TypeId}
    (hl : laidOutB P = true) (hr : f.params.toList.all (fun t => P.readableRec t && decide (t < P.types.size)) = true) (hv0 : s.vars = []) (hrt : f.resultTypes = #[T]) (hT : P.underlying T = some .bool)
    (hW : DataW.Whole enc P f.params.toList s.vars apart W args.toList ds gs before) (hs : s.fn H (ds ++ gs) = { results := [.lit (.bool true)], args := ds }) (hb : Below W.heap.size W W') :
    s.post enc P f apart true false false W args (.bool true) W' := by
  have hW' := hW
  have lt : ∀ p ∈ before, p.block < W.heap.size := fun p h => hW.lt p h
  obtain ⟨p, q, hA0, hV, rfl, fz, nd⟩ := hW
  have hA : DataW.TrodAll enc P W 0 (fun _ => true) true f.params.toList args.toList ds p := hA0
  rw [hv0] at hV
  obtain ⟨rfl, rfl⟩ := trodVars_none hV
  obtain ⟨a1, a2⟩ := trodAll_later hl hb hr hA (fun x hx => lt x (List.mem_append_left _ hx))
  have hres : ∀ (sp : Nat → Bool) (b : Nat) (hd : Bool), DataW.TrodAll enc P W' b sp hd f.resultTypes.toList ((Value.bool true).resultList f.resultTypes.size) [.lit (.bool true)] [] := by
    intro sp b hd
    rw [hrt]
    exact trodAll_mk1 (shut_bool hT _)
  have hvars : ∀ sp : Nat → Bool, DataW.TrodVars enc P W' sp s.vars ([] : List (DataW H)) [] := by
    intro sp; rw [hv0]; exact rfl
  refine ⟨ds, [], p ++ [], [], p, [], hW', by rw [hs]; exact hres _ _ _, by rw [hs]; exact a1, by rw [hs]; exact hvars _, World.keptBut_mono (fun x h => ⟨h, ?_⟩) (hb.frame (· ∈ p ++ [])), fun _ => ⟨?_, _, _, ([] ++ p) ++ [], ⟨[] ++ p, [], trodAll_append a2 (hres _ _ _), hvars _, rfl, fun b off h => ?_, ?_⟩, ?_⟩⟩
  · simpa using h
  · exact ok_one hrt rfl (okWide_bool_mk hT _)
  · have hin : MemPlace.cell b off ∈ p ++ [] := by simpa using h
    rw [hb.frozen (lt _ hin)]
    exact fz b off hin
  · intro h
    have := nd h
    simpa using this
  · intro y hy _
    simpa using hy

/-- THE WITNESS, in a world where the listed tables are laid by function -/
theorem witness_laid {H : Type} {enc : TypeId × Value → H} {C : Checked} {os : Os} {f : FuncId} {fn : Func} {s : OpenSpec} {conds : List PathCond} {apart : Bool} {laid : List (String × DataW Unit)} (modest : Bool) (w0 : World) (args : Array Value) (hos : w0.os = os)
    (hsh : (w0.forCall (fun _ _ => 0) ⟨#[], args, []⟩).Shaped C.prog)
    (hok : Input.okWideB C.prog (w0.forCall (fun _ _ => 0) ⟨#[], args, []⟩) f ⟨#[], args, []⟩ = true)
    (hrow : s.preRow enc C.prog fn conds apart laid (w0.forCall (fun _ _ => 0) ⟨#[], args, []⟩).memory args) :
    ∃ (w : World) (tape : Tape) (i : Input), w.os = os ∧ (w.forCall tape i).Shaped C.prog ∧ i.vars = [] ∧ Input.okWide C.prog (w.forCall tape i) .any w.heap.size f i ∧
      s.preRow enc C.prog fn conds apart laid (w.forCall tape i).memory i.args ∧ ({ modest := modest } : Assume).holds C.prog (lone (Frame.enter C.prog f i.args .normal) [] (w.forCall tape i)) :=
  ⟨w0, fun _ _ => 0, ⟨#[], args, []⟩, hos, hsh, (Input.okWide_of_okWideB (base := 0) hok).1, (Input.okWide_of_okWideB hok).2, hrow, by
    simp only [Assume.holds]
    exact ⟨by simp, by simp, fun _ => Modest.zero, by simp, by simp⟩⟩

end Go.Proofs.YtdapnemcdgjeeaaGreatDoor
