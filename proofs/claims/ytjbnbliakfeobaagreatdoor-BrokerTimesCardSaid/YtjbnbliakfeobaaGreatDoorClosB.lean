/-
  What the row says of functions that are not followed. Conditions: none.
-/
import Derived.Test.YtjbnbliakfeobaaGreatDoorClos
import Derived.Test.YtjbnbliakfeobaaGreatDoorParts
set_option linter.all false

namespace Go.Proofs.YtjbnbliakfeobaaGreatDoor
open Go Go.Abs Go.ChangeShapes Go.WideShapes Go.ChangeAt Go.RowKit Go.Joins Go.Deep
theorem jf10 : ((Rows.brokerTimesRow.unfollowed == Tryz.pinned.checked.prog.unfollowed 3)) = true := by
  unfold Program.unfollowed
  rw [closure_bits]
  kernel_rfl
end Go.Proofs.YtjbnbliakfeobaaGreatDoor
