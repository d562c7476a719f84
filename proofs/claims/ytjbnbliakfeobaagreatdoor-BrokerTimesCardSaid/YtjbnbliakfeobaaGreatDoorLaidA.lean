/-
  The rows of some of the types are laid out. Conditions: none.
-/
import Derived.Test.YtjbnbliakfeobaaGreatDoorParts
set_option linter.all false

namespace Go.Proofs.YtjbnbliakfeobaaGreatDoor
open Go Go.Abs Go.ChangeShapes Go.WideShapes Go.ChangeAt Go.RowKit Go.Joins Go.Deep
theorem lo0 : ((List.range Tryz.prog.types.size).take 300).all (rowFine Tryz.prog) = true := by kernel_rfl
end Go.Proofs.YtjbnbliakfeobaaGreatDoor


namespace Go.Proofs.YtjbnbliakfeobaaGreatDoor
open Go Go.Abs Go.ChangeShapes Go.WideShapes Go.ChangeAt Go.RowKit Go.Joins Go.Deep
theorem lo1 : (((List.range Tryz.prog.types.size).drop 300).take 300).all (rowFine Tryz.prog) = true := by kernel_rfl
end Go.Proofs.YtjbnbliakfeobaaGreatDoor


namespace Go.Proofs.YtjbnbliakfeobaaGreatDoor
open Go Go.Abs Go.ChangeShapes Go.WideShapes Go.ChangeAt Go.RowKit Go.Joins Go.Deep
theorem lo2 : ((List.range Tryz.prog.types.size).drop 600).all (rowFine Tryz.prog) = true := by kernel_rfl
end Go.Proofs.YtjbnbliakfeobaaGreatDoor
