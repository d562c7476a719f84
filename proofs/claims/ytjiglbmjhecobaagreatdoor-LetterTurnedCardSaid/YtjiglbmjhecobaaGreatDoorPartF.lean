/-
  What the card asks of looks and of stand-ins. Conditions: none.
-/
import Derived.Test.YtjiglbmjhecobaaGreatDoorPartA

namespace Go.Proofs.YtjiglbmjhecobaaGreatDoor
open Go.Abs Go.ChangeShapes Go.WideShapes Go.ChangeAt Go.RowKit Go.Joins Go.Deep
theorem bn_looks : true = Tryz.pinned.checked.prog.looks [] := by kernel_rfl
theorem bn_stand : ([29, 26, 22].all fun u => !Tryz.prog.wantsStandIn u) = true := by kernel_rfl
end Go.Proofs.YtjiglbmjhecobaaGreatDoor
