/-
  This text shows that the statement CoordQuitsCardSaid holds of the program. Conditions: none for the last theorem, those that each theorem states for the others.
-/
import Derived.Test.YtkjlldaddekegaaGreatDoorPl
import Derived.ChangeMaps5
import Derived.Deep.Strs
import Derived.LaidMore
import Derived.Lib.LaidTab
import Derived.Lib.SmallJoins
import Derived.SevenTiedAt
import Derived.Stop.LaidErr
import Derived.Test.YtkjlldaddekegaaGreatDoorCards
import Derived.Test.YtkjlldaddekegaaGreatDoorTie
namespace Go.Proofs.YtkjlldaddekegaaGreatDoor
open Go Go.Abs Go.ChangeShapes Go.WideShapes Go.ChangeAt Go.RowKit Go.Joins Go.Deep
theorem ck1 : Rows.coordQuitsRow.wfByText (OpenSpec.ofChange Rows.coordQuitsSpec) = true := by kernel_rfl
theorem ck2 : Tryz.checked.prog.mainIs = some (true, "ac57a019f3ba3ddd4a0594a0d0fc03fb27874b8925381eaf8c8f65c05470883b".toList) := by kernel_rfl
theorem ck3 : Tryz.prog.funcNamed "posthouse/posthouselaw28.CoordQuits" = some 4 := by kernel_rfl
theorem ck4 : true = Tryz.checked.prog.looks [] := by kernel_rfl
theorem ck5 : ([52, 5].all fun u => !Tryz.prog.wantsStandIn u) = true := by kernel_rfl
theorem ck6 : false = Rows.coordQuitsRow.goesBy Tryz.checked.prog := by kernel_rfl
theorem coordQuits_card : Rows.CoordQuitsCardSaid :=
  Claim7.holds_tied_plain_at .later [] [.data, .data, .data, .data, .sentinel, .sentinel] true (true, "ac57a019f3ba3ddd4a0594a0d0fc03fb27874b8925381eaf8c8f65c05470883b") true
    coordQuits_holds (fun _ h => by cases h) ck1 (fun _ h => by cases h) coordQuits_row_tie rfl ⟨rfl, rfl⟩ ck2 rfl
    (fun f fn hf hfn => by
      obtain rfl : f = 4 := Option.some.inj (ck3.symm.trans hf) |>.symm
      obtain rfl : fn = Tryz.f4 := (Option.some.inj (Tryz.func4.symm.trans hfn)).symm
      exact ⟨ck4, fun j t ht => by
        rw [Tryz.params4] at ht
        have hm : t ∈ [52, 5] := by simpa using Array.mem_of_getElem? ht
        exact (show Tryz.prog.wantsStandIn t = false by simpa using List.all_eq_true.1 ck5 t hm)⟩)
    ck6
#print axioms coordQuits_card
end Go.Proofs.YtkjlldaddekegaaGreatDoor
