/-
  What the program's own initialisers lay meets the handles and the functions that are listed. Conditions: none.
-/
import Derived.Test.YtjiglbmjhecobaaGreatDoorPartA

namespace Go.Proofs.YtjiglbmjhecobaaGreatDoor
open Go.Abs Go.ChangeShapes Go.WideShapes Go.ChangeAt Go.RowKit Go.Joins Go.Deep
theorem dm3 (os : Os) (args : Array Value) : (List.filter (fun x => x.snd.handleName?.isSome && x.snd.funcsIn?.isNone) Rows.letterTurnedRow.laid).all (handleAtB Tryz.prog (mW os args)) = true := by kernel_rfl
theorem dm4 (os : Os) (args : Array Value) : funcsRun Tryz.prog (mW os args) 8 (List.map (fun x => x.fst) (funcsListed Rows.letterTurnedRow.laid)) = some (List.map (fun x => x.snd.funcsOut) (funcsListed Rows.letterTurnedRow.laid)) := by kernel_rfl
end Go.Proofs.YtjiglbmjhecobaaGreatDoor
