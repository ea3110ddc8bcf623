/- Walks: the reference's sets: Takes. -/
import Derived.Test.YtmkgalcojoeniaaGreatDoorGlobR
set_option maxRecDepth 100000
set_option linter.unusedVariables false
set_option linter.unusedSimpArgs false
namespace Go.Proofs.YtmkgalcojoeniaaGreatDoor
open Go.RowKit

theorem tail_data (s : ByteArray) (k : Nat) : (s.extract k s.size).data.toList = s.data.toList.drop k := by
  rw [Lib.extract_data]; exact List.take_of_length_le (by simp)
end Go.Proofs.YtmkgalcojoeniaaGreatDoor
