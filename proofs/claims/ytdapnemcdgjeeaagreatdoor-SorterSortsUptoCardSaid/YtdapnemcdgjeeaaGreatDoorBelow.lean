/- The last step of a row whose law answers with a bool and leaves what lay below the heap's end as it was; what the bound on the reading gives. -/
import Derived.Test.YtdapnemcdgjeeaaGreatDoorRows
import Derived.WalkKit
import Derived.ProofKit
import Derived.OpenShut
import Derived.JoinedCond
import Derived.Below
import Derived.ChangeSame
set_option maxRecDepth 100000
set_option linter.unusedVariables false
set_option linter.unusedSimpArgs false
namespace Go.Proofs.YtdapnemcdgjeeaaGreatDoor
open Go.ChangeShapes Go.WideShapes Go.ChangeAt Go.RowKit

/-- WHAT A LAW THAT ANSWERS WITH ONE VALUE OWES, FROM 'Below' ALONE -/
theorem post_low {H : Type} {enc : TypeId × Value → H} {P : Program} {f : Func} {s : ChangeSpec} {apart fresh handsOn again : Bool} {W W' : World} {args : Array Value} {v : Value} {ds gs : List (DataW H)} {before pa pv : List MemPlace}
    (hW : DataW.Whole enc P f.params.toList s.vars apart W args.toList ds gs before)
    (hr : ∀ (b : Nat) (sp : Nat → Bool) (hd : Bool), DataW.TrodAll enc P W' b sp hd f.resultTypes.toList (v.resultList f.resultTypes.size) (s.fn H (ds ++ gs)).results [])
    (ha : ∀ sp : Nat → Bool, (∀ p ∈ before, sp p.block = true) → DataW.TrodAll enc P W' 0 sp true f.params.toList args.toList (s.fn H (ds ++ gs)).args pa)
    (hv : ∀ sp : Nat → Bool, (∀ p ∈ before, sp p.block = true) → DataW.TrodVars enc P W' sp s.vars (s.fn H (ds ++ gs)).vars pv)
    (hp : before = pa ++ pv) (hb : Below W.heap.size W W')
    (hok : ∀ (j : Nat) (t : TypeId) (r : Value), f.resultTypes[j]? = some t → (v.resultList f.resultTypes.size)[j]? = some r → Value.okWide P W' .any 0 t r) :
    s.post enc P f apart fresh handsOn again W args v W' := by
  have lt : ∀ p ∈ before, p.block < W.heap.size := fun p h => hW.lt p h
  have sp0 : ∀ p ∈ before, (fun b => decide (b < W.heap.size)) p.block = true := fun p h => by simpa using lt p h
  obtain ⟨_, _, _, _, _, fz, nd⟩ := id hW
  refine ⟨ds, gs, before, [], pa, pv, hW, hr _ _ _, ha _ sp0, hv _ sp0, World.keptBut_mono (fun p h => ⟨h, ?_⟩) (hb.frame (· ∈ before)), fun _ => ⟨hok, _, _, ([] ++ pa) ++ pv, ⟨[] ++ pa, pv, trodAll_append (ha _ (fun _ _ => rfl)) (hr _ _ _), hv _ (fun _ _ => rfl), rfl, fun b off h => ?_, ?_⟩, ?_⟩⟩
  · rw [hp, List.mem_append] at h; exact .inr h
  · have hin : MemPlace.cell b off ∈ before := by rw [hp]; simpa using h
    rw [hb.frozen (lt _ hin)]
    exact fz b off hin
  · intro h
    have := nd h
    rw [hp] at this
    simpa using this
  · intro y hy _
    rw [hp]
    simpa using hy

theorem bound_of {H : Type} {l : List (DataW H)} (hk : Rows.uptoSmall H l = true) : Rows.uptoBulkAll l ≤ 1048576 := by simpa [Rows.uptoSmall] using hk

end Go.Proofs.YtdapnemcdgjeeaaGreatDoor
