/-
  What the row lists as standing in its place. Conditions: none.
-/
import Derived.Test.YtcaecfhebongcaaGreatDoorClos
import Derived.Test.YtcaecfhebongcaaGreatDoorParts

namespace Go.Proofs.YtcaecfhebongcaaGreatDoor
open Go Go.Abs Go.ChangeShapes Go.WideShapes Go.ChangeAt Go.RowKit Go.Joins Go.Deep
theorem jf9 : ((Rows.serverNoneRow.inPlace == Tryz.pinned.checked.prog.inPlace 3)) = true := by
  unfold Program.inPlace
  rw [closure_bits]
  kernel_rfl
end Go.Proofs.YtcaecfhebongcaaGreatDoor
