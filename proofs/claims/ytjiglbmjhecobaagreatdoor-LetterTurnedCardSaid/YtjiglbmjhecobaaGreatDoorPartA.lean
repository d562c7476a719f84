/-
  Parts of LetterTurned that the kernel computes over the whole program. Conditions: none.
-/
import Derived.Test.YtjiglbmjhecobaaGreatDoorHead
import Derived.Test.YtjiglbmjhecobaaGreatDoorCards
import Derived.Test.YtjiglbmjhecobaaGreatDoorTie
import Derived.LaidMore
import Derived.Lib.LaidTab
import Derived.Lib.SmallJoins
import Derived.Stop.LaidErr
import Derived.SevenTiedAt
import Derived.ChangeMaps5
import Derived.Deep.Strs

namespace Go.Proofs.YtjiglbmjhecobaaGreatDoor
open Go.Abs Go.ChangeShapes Go.WideShapes Go.ChangeAt Go.RowKit Go.Joins Go.Deep

noncomputable def doorW (os : Os) : World := { World.doorLaid Tryz.prog 400 os with heap := (World.doorLaid Tryz.prog 400 os).heap.set! 7 (.cells ⟨Go.Pinned.utf8FirstZ.map fun (n : Nat) => Value.int .u8 n⟩ 521 (0, 0)) }

noncomputable def mW (os : Os) (args : Array Value) : World := ((doorW os).forCall (fun _ _ => 0) ⟨#[], args, []⟩).memory
def lD : List (String × DataW Unit) := List.filter (fun x => x.snd.handleName?.isNone) Rows.letterTurnedRow.laid

theorem dm1 (os : Os) (args : Array Value) : Option.map (fun x => x.fst) (DataW.laidRun Tryz.prog (mW os args) 8 (List.map (fun x => x.fst) lD)) = some lD := by kernel_rfl
end Go.Proofs.YtjiglbmjhecobaaGreatDoor
