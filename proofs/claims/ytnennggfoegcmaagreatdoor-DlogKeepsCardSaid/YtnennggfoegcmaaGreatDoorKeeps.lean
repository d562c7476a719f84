/-
  This text shows that the statement DlogKeepsCardSaid holds of the program. Conditions: those that each theorem states.
-/
import Derived.Test.YtnennggfoegcmaaGreatDoorPk
set_option linter.all false
namespace Go.Proofs.YtnennggfoegcmaaGreatDoor
open Go Go.Abs Go.ChangeShapes Go.WideShapes Go.ChangeAt Go.RowKit Go.Joins Go.Deep
theorem ck1 : Rows.dlogKeepsRow.wfByText (OpenSpec.ofChange Rows.dlogKeepsSpec) = true := by kernel_rfl
theorem ck2 : Tryz.checked.prog.mainIs = some (true, "f2ea0b1d35f88889c77fc166eda9ee8f3284497b91ddec8d1343cf448aaf7d57".toList) := by kernel_rfl
theorem ck3 : Tryz.prog.funcNamed "posthouse/posthouselaw26.DlogKeeps" = some 3 := by kernel_rfl
theorem ck4 : true = Tryz.checked.prog.looks [] := by kernel_rfl
theorem ck5 : ([22].all fun u => !Tryz.prog.wantsStandIn u) = true := by kernel_rfl
theorem ck6 : false = Rows.dlogKeepsRow.goesBy Tryz.checked.prog := by kernel_rfl
theorem dlogKeeps_card : Rows.DlogKeepsCardSaid :=
  Claim7.holds_tied_plain_at .later [] [.data, .data, .data, .data, .sentinel, .sentinel] true (true, "f2ea0b1d35f88889c77fc166eda9ee8f3284497b91ddec8d1343cf448aaf7d57") true
    dlogKeeps_holds (fun _ h => by cases h) ck1 (fun _ h => by cases h) dlogKeeps_row_tie rfl ⟨rfl, rfl⟩ ck2 rfl
    (fun f fn hf hfn => by
      obtain rfl : f = 3 := Option.some.inj (ck3.symm.trans hf) |>.symm
      obtain rfl : fn = Tryz.f3 := (Option.some.inj (Tryz.func3.symm.trans hfn)).symm
      exact ⟨ck4, fun j t ht => by
        rw [Tryz.params3] at ht
        have hm : t ∈ [22] := by simpa using Array.mem_of_getElem? ht
        exact (show Tryz.prog.wantsStandIn t = false by simpa using List.all_eq_true.1 ck5 t hm)⟩)
    ck6
#print axioms dlogKeeps_card
end Go.Proofs.YtnennggfoegcmaaGreatDoor
