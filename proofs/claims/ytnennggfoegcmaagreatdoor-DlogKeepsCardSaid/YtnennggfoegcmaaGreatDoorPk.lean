/-
  A part of what shows that DlogKeepsCardSaid holds: the statement of its row. Conditions: those that each theorem states.
-/
import Derived.Test.YtnennggfoegcmaaGreatDoorPj
set_option linter.all false
namespace Go.Proofs.YtnennggfoegcmaaGreatDoor
open Go Go.Abs Go.ChangeShapes Go.WideShapes Go.ChangeAt Go.RowKit Go.Joins Go.Deep
theorem holds_fn : Tryz.checked.prog.funcNamed Rows.dlogKeepsRow.func = some 3 := by kernel_rfl
theorem holds_inst : Tryz.f3.isInstance Tryz.checked.prog Rows.dlogKeepsRow.origin Rows.dlogKeepsRow.targs := of_decide_eq_true (by kernel_rfl)
theorem holds_wrap : Tryz.f3.isWrapper Tryz.checked.prog Rows.dlogKeepsRow.wrapper Rows.dlogKeepsRow.mainSum := by
  unfold Func.isWrapper
  first | (rw [if_pos (by decide +kernel)]; kernel_rfl) | (rw [if_neg (by decide +kernel)]; exact ⟨rfl, rfl⟩)
theorem dlogKeeps_holds : Rows.DlogKeepsSaid :=
  OpenClaim.holds_of_wide 3 Tryz.f3 rfl rfl rfl rfl rfl rfl rfl ⟨rfl, rfl, rfl, rfl, rfl⟩ rfl rfl rfl rfl rfl holds_fn Tryz.func3 cl_all holds_inst holds_wrap
    (fun os started H enc _ => dlogKeeps_lifted os started H enc)
end Go.Proofs.YtnennggfoegcmaaGreatDoor
