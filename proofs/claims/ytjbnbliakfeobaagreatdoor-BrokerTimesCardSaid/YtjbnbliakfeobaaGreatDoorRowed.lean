/-
  What is laid lies in rows. Conditions: none.
-/
import Derived.Test.YtjbnbliakfeobaaGreatDoorParts
set_option linter.all false

namespace Go.Proofs.YtjbnbliakfeobaaGreatDoor
open Go Go.Abs Go.ChangeShapes Go.WideShapes Go.ChangeAt Go.RowKit Go.Joins Go.Deep
theorem dmR (os : Os) (args : Array Value) : Option.map (fun x => laidRowsB Tryz.prog (mW os args) x.snd) (DataW.laidRun Tryz.prog (mW os args) 8 (List.map (fun x => x.fst) lD)) = some true := by kernel_rfl
end Go.Proofs.YtjbnbliakfeobaaGreatDoor
