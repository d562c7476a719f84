/-
  This text is a part of what shows that the statement CoordFoundCardSaid holds of the program: what of the program is computed, part by part. Conditions: those that each theorem states.
-/
import Derived.Test.YtkjlldaddekegaaGreatDoorPl
import Derived.Test.YtkjlldaddekegaaGreatDoorCards
import Derived.Test.YtkjlldaddekegaaGreatDoorTie
import Derived.LaidMore
import Derived.Lib.LaidTab
import Derived.Lib.SmallJoins
import Derived.Stop.LaidErr
import Derived.SevenTiedAt
import Derived.ChangeMaps5
import Derived.Deep.Strs
namespace Go.Proofs.YtkjlldaddekegaaGreatDoor
open Go Go.Abs Go.ChangeShapes Go.WideShapes Go.ChangeAt Go.RowKit Go.Joins Go.Deep
theorem cl0 : (Rows.coordFoundRow.wf (OpenSpec.ofChange Rows.coordFoundSpec)) = true := by kernel_rfl
theorem cl1 : (laidOutB Tryz.checked.prog) = true := by kernel_rfl
theorem cl2 : (mapsRowed Tryz.checked.prog) = true := by kernel_rfl
theorem cl3 : (Tryz.f3.params.all (Tryz.checked.prog.readableRec ·)) = true := by kernel_rfl
theorem cl4 : (namedTie Tryz.checked.prog Rows.coordFoundRow.named Rows.coordFoundSpec.vars) = true := by kernel_rfl
theorem cl5 : ((Rows.coordFoundRow.stops == [])) = true := by kernel_rfl
theorem cl6 : ((Tryz.checked.prog.stops == [])) = true := by kernel_rfl
theorem cl7 : ((Rows.coordFoundRow.knobs == [])) = true := by kernel_rfl
theorem cl8 : ((Tryz.checked.prog.stopKnobs == [])) = true := by kernel_rfl
theorem cl9 : ((Rows.coordFoundRow.inPlace == Tryz.checked.prog.inPlace 3)) = true := by kernel_rfl
theorem cl10 : ((Rows.coordFoundRow.unfollowed == Tryz.checked.prog.unfollowed 3)) = true := by kernel_rfl
theorem cl11 : ((Rows.coordFoundRow.recurses == Tryz.checked.prog.recurses 3)) = true := by kernel_rfl
theorem cl12 : ((Rows.coordFoundRow.named == Tryz.checked.prog.varsNamed 3)) = true := by kernel_rfl
theorem cl13 : ((Rows.coordFoundRow.maps == (Tryz.f3.params.toList ++ Rows.coordFoundSpec.plain.varTypes Tryz.checked.prog).any (Tryz.checked.prog.mapsRec ·))) = true := by kernel_rfl
theorem cl14 : ((Rows.coordFoundRow.ifaces == (Tryz.f3.params.toList ++ Rows.coordFoundSpec.plain.varTypes Tryz.checked.prog).any (Tryz.checked.prog.ifacesRec ·))) = true := by kernel_rfl
theorem cl15 : ((Rows.coordFoundRow.mapsOut == Tryz.checked.prog.mapsAmong Tryz.f3.resultTypes.toList)) = true := by kernel_rfl
theorem cl16 : ((Rows.coordFoundRow.loops == (Tryz.f3.params.toList ++ Rows.coordFoundSpec.plain.varTypes Tryz.checked.prog).any (Tryz.checked.prog.loopsFrom ·))) = true := by kernel_rfl
theorem cl17 : ((Rows.coordFoundRow.wideKeys == (Tryz.f3.params.toList ++ Rows.coordFoundSpec.plain.varTypes Tryz.checked.prog ++ Tryz.f3.resultTypes.toList).any (Tryz.checked.prog.wideKeysFrom ·))) = true := by kernel_rfl
theorem cl18 : (Rows.coordFoundSpec.vars.all (Tryz.checked.prog.varReadable ·)) = true := by kernel_rfl
theorem cl19 : (Tryz.f3.resultTypes.all (fun t => Tryz.checked.prog.readableRec t && decide (t < Tryz.checked.prog.types.size))) = true := by kernel_rfl
theorem cl20 : ((Rows.coordFoundRow.ifacesOut == Tryz.f3.resultTypes.toList.any (Tryz.checked.prog.ifacesRec ·))) = true := by kernel_rfl
theorem cl21 : ((Rows.coordFoundRow.loopsOut == Tryz.f3.resultTypes.toList.any (Tryz.checked.prog.loopsFrom ·))) = true := by kernel_rfl
theorem cl22 : ((Rows.coordFoundRow.plainKeys == Tryz.checked.prog.plainKeys)) = true := by kernel_rfl
theorem cl23 : (Rows.coordFoundRow.shortTexts.isNone) = true := by kernel_rfl
theorem cl24 : (Tryz.checked.prog.stopsHeard) = true := by kernel_rfl
theorem cl25 : (Tryz.checked.prog.mayEnter) = true := by kernel_rfl
theorem cl26 : ((Rows.coordFoundRow.lifted == Tryz.checked.prog.liftsFinal)) = true := by kernel_rfl
theorem cl27 : ((Tryz.checked.prog.make == some Rows.coordFoundRow.make)) = true := by kernel_rfl
theorem cl28 : ((Rows.coordFoundRow.kinds == (if Rows.coordFoundRow.domain.isEmpty then [] else Tryz.f3.params.toList.map fun t => match Tryz.checked.prog.underlying t with | some (.int k) => some k | _ => none))) = true := by kernel_rfl
theorem cl29 : ((Rows.coordFoundRow.pinned == Rows.coordFoundRow.pinnedBy)) = true := by kernel_rfl
theorem cl30 : ((Rows.coordFoundRow.veiled == (Tryz.f3.params.toList ++ Rows.coordFoundSpec.plain.varTypes Tryz.checked.prog ++ Tryz.f3.resultTypes.toList).any (Tryz.checked.prog.veiledRec ·))) = true := by kernel_rfl
theorem cl31 : (Rows.coordFoundRow.veiledFits Tryz.checked.prog Tryz.f3.params.toList (Tryz.f3.params.toList ++ Rows.coordFoundSpec.plain.varTypes Tryz.checked.prog ++ Tryz.f3.resultTypes.toList)) = true := by kernel_rfl
theorem and_mk {a b : Bool} (ha : a = true) (hb : b = true) : (a && b) = true := by rw [ha, hb]; rfl
set_option maxRecDepth 100000 in
theorem cl_all : joinedFacts Tryz.checked.prog 3 Tryz.f3 Rows.coordFoundSpec Rows.coordFoundRow = true := by
  unfold joinedFacts
  exact and_mk (and_mk (and_mk (and_mk (and_mk (and_mk (and_mk (and_mk (and_mk (and_mk (and_mk (and_mk (and_mk (and_mk (and_mk (and_mk (and_mk (and_mk (and_mk (and_mk (and_mk (and_mk (and_mk (and_mk (and_mk (and_mk (and_mk (and_mk (and_mk (and_mk (and_mk (cl0) cl1) cl2) cl3) cl4) cl5) cl6) cl7) cl8) cl9) cl10) cl11) cl12) cl13) cl14) cl15) cl16) cl17) cl18) cl19) cl20) cl21) cl22) cl23) cl24) cl25) cl26) cl27) cl28) cl29) cl30) cl31
end Go.Proofs.YtkjlldaddekegaaGreatDoor
