/-
  What the row lists as standing in its place. Conditions: none.
-/
import Derived.Test.YtjbnbliakfeobaaGreatDoorClos
import Derived.Test.YtjbnbliakfeobaaGreatDoorParts
set_option linter.all false

namespace Go.Proofs.YtjbnbliakfeobaaGreatDoor
open Go Go.Abs Go.ChangeShapes Go.WideShapes Go.ChangeAt Go.RowKit Go.Joins Go.Deep
theorem jf9 : ((Rows.brokerTimesRow.inPlace == Tryz.pinned.checked.prog.inPlace 3)) = true := by
  unfold Program.inPlace
  rw [closure_bits]
  kernel_rfl
end Go.Proofs.YtjbnbliakfeobaaGreatDoor
