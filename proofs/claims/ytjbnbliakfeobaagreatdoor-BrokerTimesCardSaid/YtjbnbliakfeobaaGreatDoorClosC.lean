/-
  What the row says of recursion. Conditions: none.
-/
import Derived.Test.YtjbnbliakfeobaaGreatDoorClos
import Derived.Test.YtjbnbliakfeobaaGreatDoorParts
set_option linter.all false

namespace Go.Proofs.YtjbnbliakfeobaaGreatDoor
open Go Go.Abs Go.ChangeShapes Go.WideShapes Go.ChangeAt Go.RowKit Go.Joins Go.Deep
theorem jf11 : ((Rows.brokerTimesRow.recurses == Tryz.pinned.checked.prog.recurses 3)) = true := by
  unfold Program.recurses Program.unfollowed
  rw [closure_bits]
  kernel_rfl
end Go.Proofs.YtjbnbliakfeobaaGreatDoor
