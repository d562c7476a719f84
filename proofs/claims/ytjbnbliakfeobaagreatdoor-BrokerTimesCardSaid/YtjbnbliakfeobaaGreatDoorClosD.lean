/-
  What the row lists as named. Conditions: none.
-/
import Derived.Test.YtjbnbliakfeobaaGreatDoorClos
import Derived.Test.YtjbnbliakfeobaaGreatDoorParts
set_option linter.all false

namespace Go.Proofs.YtjbnbliakfeobaaGreatDoor
open Go Go.Abs Go.ChangeShapes Go.WideShapes Go.ChangeAt Go.RowKit Go.Joins Go.Deep
theorem jf12 : ((Rows.brokerTimesRow.named == Tryz.pinned.checked.prog.varsNamed 3)) = true := by
  unfold Program.varsNamed
  rw [closure_bits]
  kernel_rfl
end Go.Proofs.YtjbnbliakfeobaaGreatDoor
