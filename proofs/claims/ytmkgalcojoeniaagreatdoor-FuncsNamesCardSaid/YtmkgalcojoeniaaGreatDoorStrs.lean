/- Words on slices of texts. -/
import Derived.Test.YtmkgalcojoeniaaGreatDoorProg
import Derived.Test.YtmkgalcojoeniaaGreatDoorBase
set_option maxRecDepth 100000
set_option linter.unusedVariables false
set_option linter.unusedSimpArgs false
namespace Go.Proofs.YtmkgalcojoeniaaGreatDoor
open Go.RowKit

theorem str_info : (Tryz.prog.info? 9).map (fun i => (i.zero, i.size, i.bytes)) = some (some (.string ⟨#[]⟩), 1, 16) := by kernel_rfl
theorem one_str (s : ByteArray) : ∀ u ∈ (#[Value.string s] : Array Value).toList, u.oneCell' = true := by intro u hu; simp at hu; subst hu; rfl
/-- the cells of texts -/
def strC (l : List (List UInt8)) : List Value := l.map fun t => .string (bs t)
theorem strC_snoc (l : List (List UInt8)) (t : List UInt8) : strC (l ++ [t]) = strC l ++ [.string (bs t)] := by simp [strC]

end Go.Proofs.YtmkgalcojoeniaaGreatDoor
