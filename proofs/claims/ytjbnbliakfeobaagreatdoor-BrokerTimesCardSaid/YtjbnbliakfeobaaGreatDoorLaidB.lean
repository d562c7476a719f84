/-
  The program is laid out. Conditions: none.
-/
import Derived.Test.YtjbnbliakfeobaaGreatDoorLaidA
set_option linter.all false

namespace Go.Proofs.YtjbnbliakfeobaaGreatDoor
open Go Go.Abs Go.ChangeShapes Go.WideShapes Go.ChangeAt Go.RowKit Go.Joins Go.Deep
theorem lo_globals : Tryz.prog.globals.all (fun g => decide (g.type < Tryz.prog.types.size)) = true := by kernel_rfl
theorem lo_funcs : Tryz.prog.funcs.all (fun f => f.params.all fun t => decide (t < Tryz.prog.types.size)) = true := by kernel_rfl
theorem Tryz.laidOut : laidOutB Tryz.prog = true := by
  unfold laidOutB
  rw [lo_globals, lo_funcs, Bool.and_true, Bool.and_true, List.all_eq_true]
  intro t ht
  rw [← List.take_append_drop 300 (List.range Tryz.prog.types.size)] at ht
  rcases List.mem_append.1 ht with ht | ht
  · exact List.all_eq_true.1 lo0 t ht
  rw [← List.take_append_drop 300 (List.drop 300 (List.range Tryz.prog.types.size)), List.drop_drop] at ht
  rcases List.mem_append.1 ht with ht | ht
  · exact List.all_eq_true.1 lo1 t ht
  · exact List.all_eq_true.1 lo2 t ht
end Go.Proofs.YtjbnbliakfeobaaGreatDoor
