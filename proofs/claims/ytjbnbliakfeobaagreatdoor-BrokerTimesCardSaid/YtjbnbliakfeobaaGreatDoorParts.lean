/-
  Parts of BrokerTimes that the kernel computes over the whole program. Conditions: none.
-/
import Derived.Test.YtjbnbliakfeobaaGreatDoorBase
import Derived.Test.YtjbnbliakfeobaaGreatDoorCards
import Derived.Test.YtjbnbliakfeobaaGreatDoorBound
import Derived.LaidMore
import Derived.Lib.LaidTab
import Derived.Lib.SmallJoins
import Derived.Stop.LaidErr
import Derived.SevenTiedAt
import Derived.ChangeMaps5
import Derived.Deep.Strs
set_option linter.all false

namespace Go.Proofs.YtjbnbliakfeobaaGreatDoor
open Go.Abs Go.ChangeShapes Go.WideShapes Go.ChangeAt Go.RowKit Go.Joins Go.Deep

/-- the world that the program's own initialisers leave, Go's table of first bytes laid in it -/
noncomputable def doorW (os : Os) : World := { World.doorLaid Tryz.prog 400 os with heap := (World.doorLaid Tryz.prog 400 os).heap.set! 7 (.cells ⟨Go.Pinned.utf8FirstZ.map fun (n : Nat) => Value.int .u8 n⟩ 553 (0, 0)) }

noncomputable def mW (os : Os) (args : Array Value) : World := ((doorW os).forCall (fun _ _ => 0) ⟨#[], args, []⟩).memory
def lD : List (String × DataW Unit) := List.filter (fun x => x.snd.handleName?.isNone) Rows.brokerTimesRow.laid

theorem dm1 (os : Os) (args : Array Value) : Option.map (fun x => x.fst) (DataW.laidRun Tryz.prog (mW os args) 8 (List.map (fun x => x.fst) lD)) = some lD := by kernel_rfl
end Go.Proofs.YtjbnbliakfeobaaGreatDoor

namespace Go.Proofs.YtjbnbliakfeobaaGreatDoor
open Go.Abs Go.ChangeShapes Go.WideShapes Go.ChangeAt Go.RowKit Go.Joins Go.Deep
theorem dm3 (os : Os) (args : Array Value) : (List.filter (fun x => x.snd.handleName?.isSome && x.snd.funcsIn?.isNone) Rows.brokerTimesRow.laid).all (handleAtB Tryz.prog (mW os args)) = true := by kernel_rfl
theorem dm4 (os : Os) (args : Array Value) : funcsRun Tryz.prog (mW os args) 8 (List.map (fun x => x.fst) (funcsListed Rows.brokerTimesRow.laid)) = some (List.map (fun x => x.snd.funcsOut) (funcsListed Rows.brokerTimesRow.laid)) := by kernel_rfl
end Go.Proofs.YtjbnbliakfeobaaGreatDoor

namespace Go.Proofs.YtjbnbliakfeobaaGreatDoor
open Go.Abs Go.ChangeShapes Go.WideShapes Go.ChangeAt Go.RowKit Go.Joins Go.Deep
theorem bn_looks : true = Tryz.pinned.checked.prog.looks [] := by kernel_rfl
theorem bn_stand : ([5, 4].all fun u => !Tryz.prog.wantsStandIn u) = true := by kernel_rfl
end Go.Proofs.YtjbnbliakfeobaaGreatDoor
