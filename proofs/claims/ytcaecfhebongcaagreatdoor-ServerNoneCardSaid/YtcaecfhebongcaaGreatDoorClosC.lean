/-
  What the row says of recursion. Conditions: none.
-/
import Derived.Test.YtcaecfhebongcaaGreatDoorClos
import Derived.Test.YtcaecfhebongcaaGreatDoorParts

namespace Go.Proofs.YtcaecfhebongcaaGreatDoor
open Go Go.Abs Go.ChangeShapes Go.WideShapes Go.ChangeAt Go.RowKit Go.Joins Go.Deep
theorem jf11 : ((Rows.serverNoneRow.recurses == Tryz.pinned.checked.prog.recurses 3)) = true := by
  unfold Program.recurses Program.unfollowed
  rw [closure_bits]
  kernel_rfl
end Go.Proofs.YtcaecfhebongcaaGreatDoor
