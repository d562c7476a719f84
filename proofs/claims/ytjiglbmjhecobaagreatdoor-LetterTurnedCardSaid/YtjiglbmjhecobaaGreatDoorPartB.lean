/-
  What the program's own initialisers lay meets the rows. Conditions: none.
-/
import Derived.Test.YtjiglbmjhecobaaGreatDoorPartA

namespace Go.Proofs.YtjiglbmjhecobaaGreatDoor
open Go.Abs Go.ChangeShapes Go.WideShapes Go.ChangeAt Go.RowKit Go.Joins Go.Deep
theorem dm2 (os : Os) (args : Array Value) : Option.map (fun x => decide x.snd.Nodup && laidRowsB Tryz.prog (mW os args) x.snd) (DataW.laidRun Tryz.prog (mW os args) 8 (List.map (fun x => x.fst) lD)) = some true := by kernel_rfl
end Go.Proofs.YtjiglbmjhecobaaGreatDoor
