/-
  This text is a part of what shows that the statement CoordFoundCardSaid holds of the program: the statement of its row. Conditions: those that each theorem states.
-/
import Derived.Test.YtkjlldaddekegaaGreatDoorPm
import Derived.Test.YtkjlldaddekegaaGreatDoorCards
import Derived.Test.YtkjlldaddekegaaGreatDoorTie
import Derived.LaidMore
import Derived.Lib.LaidTab
import Derived.Lib.SmallJoins
import Derived.Stop.LaidErr
import Derived.SevenTiedAt
import Derived.ChangeMaps5
import Derived.Deep.Strs
namespace Go.Proofs.YtkjlldaddekegaaGreatDoor
open Go Go.Abs Go.ChangeShapes Go.WideShapes Go.ChangeAt Go.RowKit Go.Joins Go.Deep
theorem holds_fn : Tryz.checked.prog.funcNamed Rows.coordFoundRow.func = some 3 := by kernel_rfl
theorem holds_inst : Tryz.f3.isInstance Tryz.checked.prog Rows.coordFoundRow.origin Rows.coordFoundRow.targs := of_decide_eq_true (by kernel_rfl)
theorem holds_wrap : Tryz.f3.isWrapper Tryz.checked.prog Rows.coordFoundRow.wrapper Rows.coordFoundRow.mainSum := by
  unfold Func.isWrapper
  first | (rw [if_pos (by decide +kernel)]; kernel_rfl) | (rw [if_neg (by decide +kernel)]; exact ⟨rfl, rfl⟩)
theorem coordFound_holds : Rows.CoordFoundSaid :=
  OpenClaim.holds_of_wide 3 Tryz.f3 rfl rfl rfl rfl rfl rfl rfl ⟨rfl, rfl, rfl, rfl, rfl⟩ rfl rfl rfl rfl rfl holds_fn Tryz.func3 cl_all holds_inst holds_wrap
    (fun os started H enc _ => coordFound_lifted os started H enc)
end Go.Proofs.YtkjlldaddekegaaGreatDoor
