/-
  This text shows that the statement CoordFoundCardSaid holds of the program. Conditions: none for the last theorem, those that each theorem states for the others.
-/
import Derived.Test.YtkjlldaddekegaaGreatDoorPn
import Derived.Test.YtkjlldaddekegaaGreatDoorCards
import Derived.Test.YtkjlldaddekegaaGreatDoorTie
import Derived.LaidMore
import Derived.Lib.LaidTab
import Derived.Lib.SmallJoins
import Derived.Stop.LaidErr
import Derived.SevenTiedAt
import Derived.ChangeMaps5
import Derived.Deep.Strs
namespace Go.Proofs.YtkjlldaddekegaaGreatDoor
open Go Go.Abs Go.ChangeShapes Go.WideShapes Go.ChangeAt Go.RowKit Go.Joins Go.Deep
theorem ck1 : Rows.coordFoundRow.wfByText (OpenSpec.ofChange Rows.coordFoundSpec) = true := by kernel_rfl
theorem ck2 : Tryz.checked.prog.mainIs = some (true, "ac57a019f3ba3ddd4a0594a0d0fc03fb27874b8925381eaf8c8f65c05470883b".toList) := by kernel_rfl
theorem ck3 : Tryz.prog.funcNamed "posthouse/posthouselaw28.CoordFound" = some 3 := by kernel_rfl
theorem ck4 : true = Tryz.checked.prog.looks [] := by kernel_rfl
theorem ck5 : ([24, 5].all fun u => !Tryz.prog.wantsStandIn u) = true := by kernel_rfl
theorem ck6 : false = Rows.coordFoundRow.goesBy Tryz.checked.prog := by kernel_rfl
theorem coordFound_card : Rows.CoordFoundCardSaid :=
  Claim7.holds_tied_plain_at .later [] [.data, .data, .data, .data, .sentinel, .sentinel] true (true, "ac57a019f3ba3ddd4a0594a0d0fc03fb27874b8925381eaf8c8f65c05470883b") true
    coordFound_holds (fun _ h => by cases h) ck1 (fun _ h => by cases h) coordFound_row_tie rfl ⟨rfl, rfl⟩ ck2 rfl
    (fun f fn hf hfn => by
      obtain rfl : f = 3 := Option.some.inj (ck3.symm.trans hf) |>.symm
      obtain rfl : fn = Tryz.f3 := (Option.some.inj (Tryz.func3.symm.trans hfn)).symm
      exact ⟨ck4, fun j t ht => by
        rw [Tryz.params3] at ht
        have hm : t ∈ [24, 5] := by simpa using Array.mem_of_getElem? ht
        exact (show Tryz.prog.wantsStandIn t = false by simpa using List.all_eq_true.1 ck5 t hm)⟩)
    ck6
#print axioms coordFound_card
end Go.Proofs.YtkjlldaddekegaaGreatDoor
