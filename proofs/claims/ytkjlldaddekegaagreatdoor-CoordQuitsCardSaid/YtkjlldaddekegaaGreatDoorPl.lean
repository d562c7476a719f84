/-
  This text is a part of what shows that the statement CoordQuitsCardSaid holds of the program: the statement of its row. Conditions: those that each theorem states.
-/
import Derived.Test.YtkjlldaddekegaaGreatDoorPk
import Derived.ChangeMaps5
import Derived.Deep.Strs
import Derived.LaidMore
import Derived.Lib.LaidTab
import Derived.Lib.SmallJoins
import Derived.SevenTiedAt
import Derived.Stop.LaidErr
import Derived.Test.YtkjlldaddekegaaGreatDoorCards
import Derived.Test.YtkjlldaddekegaaGreatDoorTie
namespace Go.Proofs.YtkjlldaddekegaaGreatDoor
open Go Go.Abs Go.ChangeShapes Go.WideShapes Go.ChangeAt Go.RowKit Go.Joins Go.Deep
theorem holds_fn : Tryz.checked.prog.funcNamed Rows.coordQuitsRow.func = some 4 := by kernel_rfl
theorem holds_inst : Tryz.f4.isInstance Tryz.checked.prog Rows.coordQuitsRow.origin Rows.coordQuitsRow.targs := of_decide_eq_true (by kernel_rfl)
theorem holds_wrap : Tryz.f4.isWrapper Tryz.checked.prog Rows.coordQuitsRow.wrapper Rows.coordQuitsRow.mainSum := by
  unfold Func.isWrapper
  first | (rw [if_pos (by decide +kernel)]; kernel_rfl) | (rw [if_neg (by decide +kernel)]; exact ⟨rfl, rfl⟩)
theorem coordQuits_holds : Rows.CoordQuitsSaid :=
  OpenClaim.holds_of_wide 4 Tryz.f4 rfl rfl rfl rfl rfl rfl rfl ⟨rfl, rfl, rfl, rfl, rfl⟩ rfl rfl rfl rfl rfl holds_fn Tryz.func4 cl_all holds_inst holds_wrap
    (fun os started H enc _ => coordQuits_lifted os started H enc)
end Go.Proofs.YtkjlldaddekegaaGreatDoor
