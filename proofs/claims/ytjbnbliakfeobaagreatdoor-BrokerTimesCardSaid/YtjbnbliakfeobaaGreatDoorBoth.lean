/-
  What is laid, each place once, in rows. Conditions: none.
-/
import Derived.Test.YtjbnbliakfeobaaGreatDoorOnce
import Derived.Test.YtjbnbliakfeobaaGreatDoorRowed
set_option linter.all false

namespace Go.Proofs.YtjbnbliakfeobaaGreatDoor
open Go Go.Abs Go.ChangeShapes Go.WideShapes Go.ChangeAt Go.RowKit Go.Joins Go.Deep
theorem dm2 (os : Os) (args : Array Value) : Option.map (fun x => decide x.snd.Nodup && laidRowsB Tryz.prog (mW os args) x.snd) (DataW.laidRun Tryz.prog (mW os args) 8 (List.map (fun x => x.fst) lD)) = some true := by
  have h1 := dmN os args
  have h2 := dmR os args
  cases hx : DataW.laidRun Tryz.prog (mW os args) 8 (List.map (fun x => x.fst) lD) with
  | none => rw [hx] at h1; cases h1
  | some x =>
    rw [hx] at h1 h2
    simp only [Option.map_some, Option.some.injEq] at h1 h2 ⊢
    rw [h2, Bool.and_true]
    exact decide_eq_true (nodupM_spec _ _ h1).1
end Go.Proofs.YtjbnbliakfeobaaGreatDoor
