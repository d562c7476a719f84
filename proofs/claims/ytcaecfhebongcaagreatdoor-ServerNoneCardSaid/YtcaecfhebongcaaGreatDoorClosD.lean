/-
  What the row lists as named. Conditions: none.
-/
import Derived.Test.YtcaecfhebongcaaGreatDoorClos
import Derived.Test.YtcaecfhebongcaaGreatDoorParts

namespace Go.Proofs.YtcaecfhebongcaaGreatDoor
open Go Go.Abs Go.ChangeShapes Go.WideShapes Go.ChangeAt Go.RowKit Go.Joins Go.Deep
theorem jf12 : ((Rows.serverNoneRow.named == Tryz.pinned.checked.prog.varsNamed 3)) = true := by
  unfold Program.varsNamed
  rw [closure_bits]
  kernel_rfl
end Go.Proofs.YtcaecfhebongcaaGreatDoor
