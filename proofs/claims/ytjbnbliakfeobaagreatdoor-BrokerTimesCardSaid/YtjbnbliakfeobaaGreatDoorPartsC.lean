/-
  What the card's form asks of the program. Conditions: none.
-/
import Derived.Test.YtjbnbliakfeobaaGreatDoorParts
set_option linter.all false

namespace Go.Proofs.YtjbnbliakfeobaaGreatDoor
open Go Go.Abs Go.ChangeShapes Go.WideShapes Go.ChangeAt Go.RowKit Go.Joins Go.Deep
theorem bn_named : Tryz.pinned.checked.prog.funcNamed Rows.brokerTimesRow.func = some 3 := by kernel_rfl
theorem bn_wf : OpenClaim.wfByText (OpenSpec.ofChange Rows.brokerTimesSpec) Rows.brokerTimesRow = true := by kernel_rfl
theorem bn_main : Tryz.pinned.checked.prog.mainIs = some (true, "20bf4b2e511811be556dfde224c5224be4ea8dd88b92e3d49bfec865580fcd84".toList) := by kernel_rfl
theorem bn_go0 : (Tryz.pinned.checked.prog.funcs.toList.take 100).any Func.goes = false := by kernel_rfl
theorem bn_go1 : ((Tryz.pinned.checked.prog.funcs.toList.drop 100).take 100).any Func.goes = false := by kernel_rfl
theorem bn_go2 : ((Tryz.pinned.checked.prog.funcs.toList.drop 200).take 100).any Func.goes = false := by kernel_rfl
theorem bn_go3 : ((Tryz.pinned.checked.prog.funcs.toList.drop 300).take 100).any Func.goes = false := by kernel_rfl
theorem bn_go4 : ((Tryz.pinned.checked.prog.funcs.toList.drop 400).take 100).any Func.goes = false := by kernel_rfl
theorem bn_go5 : ((Tryz.pinned.checked.prog.funcs.toList.drop 500)).any Func.goes = false := by kernel_rfl
theorem bn_goes : false = Rows.brokerTimesRow.goesBy Tryz.pinned.checked.prog := by
  have hall : ∀ g ∈ Tryz.pinned.checked.prog.funcs.toList, Func.goes g = false := by
    have h5 := fun g hg => List.any_eq_false.1 bn_go5 g hg
    have h4 := fun g hg => List.any_eq_false.1 bn_go4 g hg
    have h3 := fun g hg => List.any_eq_false.1 bn_go3 g hg
    have h2 := fun g hg => List.any_eq_false.1 bn_go2 g hg
    have h1 := fun g hg => List.any_eq_false.1 bn_go1 g hg
    have h0 := fun g hg => List.any_eq_false.1 bn_go0 g hg
    intro g hg
    rw [← List.take_append_drop 100 Tryz.pinned.checked.prog.funcs.toList] at hg
    rcases List.mem_append.1 hg with hg | hg
    · simpa using h0 g hg
    rw [← List.take_append_drop 100 (List.drop 100 Tryz.pinned.checked.prog.funcs.toList), List.drop_drop] at hg
    rcases List.mem_append.1 hg with hg | hg
    · simpa using h1 g hg
    rw [← List.take_append_drop 100 (List.drop (100 + 100) Tryz.pinned.checked.prog.funcs.toList), List.drop_drop] at hg
    rcases List.mem_append.1 hg with hg | hg
    · simpa using h2 g hg
    rw [← List.take_append_drop 100 (List.drop (100 + 100 + 100) Tryz.pinned.checked.prog.funcs.toList), List.drop_drop] at hg
    rcases List.mem_append.1 hg with hg | hg
    · simpa using h3 g hg
    rw [← List.take_append_drop 100 (List.drop (100 + 100 + 100 + 100) Tryz.pinned.checked.prog.funcs.toList), List.drop_drop] at hg
    rcases List.mem_append.1 hg with hg | hg
    · simpa using h4 g hg
    · simpa using h5 g hg
  have h2 : Tryz.pinned.checked.prog.funcs.any Func.goes = false := by
    rw [← Array.any_toList]
    exact List.any_eq_false.2 fun g hg => by simp [hall g hg]
  symm
  unfold OpenClaim.goesBy Program.goesAt Program.goesFrom
  have hs : Rows.brokerTimesRow.start = .entering := rfl
  rw [hs]
  simp only [Bool.or_false]
  rw [Option.any_eq_false]
  intro f _
  unfold Program.goes
  rw [h2, Bool.and_false, Bool.or_false]
  refine List.any_eq_false.2 fun g _ => ?_
  cases hg : Tryz.pinned.checked.prog.funcs[g]? with
  | none => simp
  | some fn =>
    have := hall fn (Array.mem_toList_iff.2 (Array.mem_of_getElem? hg))
    simp [this]
end Go.Proofs.YtjbnbliakfeobaaGreatDoor
