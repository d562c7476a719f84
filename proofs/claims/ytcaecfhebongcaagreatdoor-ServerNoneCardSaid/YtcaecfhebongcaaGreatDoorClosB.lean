/-
  What the row says of functions that are not followed. Conditions: none.
-/
import Derived.Test.YtcaecfhebongcaaGreatDoorClos
import Derived.Test.YtcaecfhebongcaaGreatDoorParts

namespace Go.Proofs.YtcaecfhebongcaaGreatDoor
open Go Go.Abs Go.ChangeShapes Go.WideShapes Go.ChangeAt Go.RowKit Go.Joins Go.Deep
theorem jf10 : ((Rows.serverNoneRow.unfollowed == Tryz.pinned.checked.prog.unfollowed 3)) = true := by
  unfold Program.unfollowed
  rw [closure_bits]
  kernel_rfl
end Go.Proofs.YtcaecfhebongcaaGreatDoor
