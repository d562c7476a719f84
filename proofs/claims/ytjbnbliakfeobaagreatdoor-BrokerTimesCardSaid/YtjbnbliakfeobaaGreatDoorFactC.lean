/-
  A part of what the row asks of the program. Conditions: none.
-/
import Derived.Test.YtjbnbliakfeobaaGreatDoorParts
set_option linter.all false

namespace Go.Proofs.YtjbnbliakfeobaaGreatDoor
open Go Go.Abs Go.ChangeShapes Go.WideShapes Go.ChangeAt Go.RowKit Go.Joins Go.Deep
theorem jf25 : (Tryz.pinned.checked.prog.mayEnter) = true := by kernel_rfl
end Go.Proofs.YtjbnbliakfeobaaGreatDoor
