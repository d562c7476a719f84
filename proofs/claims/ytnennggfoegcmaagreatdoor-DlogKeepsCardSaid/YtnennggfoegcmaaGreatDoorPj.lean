/-
  A part of what shows that DlogKeepsCardSaid holds: what of the program is computed, part by part. Conditions: those that each theorem states.
-/
import Derived.Test.YtnennggfoegcmaaGreatDoorPi
set_option linter.all false
namespace Go.Proofs.YtnennggfoegcmaaGreatDoor
open Go Go.Abs Go.ChangeShapes Go.WideShapes Go.ChangeAt Go.RowKit Go.Joins Go.Deep Rows
theorem cl0:(dlogKeepsRow.wf (OpenSpec.ofChange dlogKeepsSpec))=true:=by kernel_rfl
theorem cl1:(laidOutB Tryz.checked.prog)=true:=by kernel_rfl
theorem cl2:(mapsRowed Tryz.checked.prog)=true:=by kernel_rfl
theorem cl3:(Tryz.f3.params.all (Tryz.checked.prog.readableRec ·))=true:=by kernel_rfl
theorem cl4:(namedTie Tryz.checked.prog dlogKeepsRow.named dlogKeepsSpec.vars)=true:=by kernel_rfl
theorem cl5:((dlogKeepsRow.stops==[]))=true:=by kernel_rfl
theorem cl6:((Tryz.checked.prog.stops==[]))=true:=by kernel_rfl
theorem cl7:((dlogKeepsRow.knobs==[]))=true:=by kernel_rfl
theorem cl8:((Tryz.checked.prog.stopKnobs==[]))=true:=by kernel_rfl
theorem cl9:((dlogKeepsRow.inPlace==Tryz.checked.prog.inPlace 3))=true:=by kernel_rfl
theorem cl10:((dlogKeepsRow.unfollowed==Tryz.checked.prog.unfollowed 3))=true:=by kernel_rfl
theorem cl11:((dlogKeepsRow.recurses==Tryz.checked.prog.recurses 3))=true:=by kernel_rfl
theorem cl12:((dlogKeepsRow.named==Tryz.checked.prog.varsNamed 3))=true:=by kernel_rfl
theorem cl13:((dlogKeepsRow.maps==(Tryz.f3.params.toList++dlogKeepsSpec.plain.varTypes Tryz.checked.prog).any (Tryz.checked.prog.mapsRec ·)))=true:=by kernel_rfl
theorem cl14:((dlogKeepsRow.ifaces==(Tryz.f3.params.toList++dlogKeepsSpec.plain.varTypes Tryz.checked.prog).any (Tryz.checked.prog.ifacesRec ·)))=true:=by kernel_rfl
theorem cl15:((dlogKeepsRow.mapsOut==Tryz.checked.prog.mapsAmong Tryz.f3.resultTypes.toList))=true:=by kernel_rfl
theorem cl16:((dlogKeepsRow.loops==(Tryz.f3.params.toList++dlogKeepsSpec.plain.varTypes Tryz.checked.prog).any (Tryz.checked.prog.loopsFrom ·)))=true:=by kernel_rfl
theorem cl17:((dlogKeepsRow.wideKeys==(Tryz.f3.params.toList++dlogKeepsSpec.plain.varTypes Tryz.checked.prog++Tryz.f3.resultTypes.toList).any (Tryz.checked.prog.wideKeysFrom ·)))=true:=by kernel_rfl
theorem cl18:(dlogKeepsSpec.vars.all (Tryz.checked.prog.varReadable ·))=true:=by kernel_rfl
theorem cl19:(Tryz.f3.resultTypes.all (fun t => Tryz.checked.prog.readableRec t && decide (t < Tryz.checked.prog.types.size)))=true:=by kernel_rfl
theorem cl20:((dlogKeepsRow.ifacesOut==Tryz.f3.resultTypes.toList.any (Tryz.checked.prog.ifacesRec ·)))=true:=by kernel_rfl
theorem cl21:((dlogKeepsRow.loopsOut==Tryz.f3.resultTypes.toList.any (Tryz.checked.prog.loopsFrom ·)))=true:=by kernel_rfl
theorem cl22:((dlogKeepsRow.plainKeys==Tryz.checked.prog.plainKeys))=true:=by kernel_rfl
theorem cl23:(dlogKeepsRow.shortTexts.isNone)=true:=by kernel_rfl
theorem cl24:(Tryz.checked.prog.stopsHeard)=true:=by kernel_rfl
theorem cl25:(Tryz.checked.prog.mayEnter)=true:=by kernel_rfl
theorem cl26:((dlogKeepsRow.lifted==Tryz.checked.prog.liftsFinal))=true:=by kernel_rfl
theorem cl27:((Tryz.checked.prog.make==some dlogKeepsRow.make))=true:=by kernel_rfl
theorem cl28:((dlogKeepsRow.kinds==(if dlogKeepsRow.domain.isEmpty then [] else Tryz.f3.params.toList.map fun t => match Tryz.checked.prog.underlying t with | some (.int k) => some k | _ => none)))=true:=by kernel_rfl
theorem cl29:((dlogKeepsRow.pinned==dlogKeepsRow.pinnedBy))=true:=by kernel_rfl
theorem cl30:((dlogKeepsRow.veiled==(Tryz.f3.params.toList++dlogKeepsSpec.plain.varTypes Tryz.checked.prog++Tryz.f3.resultTypes.toList).any (Tryz.checked.prog.veiledRec ·)))=true:=by kernel_rfl
theorem cl31:(dlogKeepsRow.veiledFits Tryz.checked.prog Tryz.f3.params.toList (Tryz.f3.params.toList++dlogKeepsSpec.plain.varTypes Tryz.checked.prog++Tryz.f3.resultTypes.toList))=true:=by kernel_rfl
theorem and_mk {a b : Bool} (ha : a = true) (hb : b = true) : (a && b) = true := by rw [ha, hb]; rfl
set_option maxRecDepth 100000 in
theorem cl_all : joinedFacts Tryz.checked.prog 3 Tryz.f3 dlogKeepsSpec dlogKeepsRow = true := by
  unfold joinedFacts
  exact and_mk (and_mk (and_mk (and_mk (and_mk (and_mk (and_mk (and_mk (and_mk (and_mk (and_mk (and_mk (and_mk (and_mk (and_mk (and_mk (and_mk (and_mk (and_mk (and_mk (and_mk (and_mk (and_mk (and_mk (and_mk (and_mk (and_mk (and_mk (and_mk (and_mk (and_mk (cl0) cl1) cl2) cl3) cl4) cl5) cl6) cl7) cl8) cl9) cl10) cl11) cl12) cl13) cl14) cl15) cl16) cl17) cl18) cl19) cl20) cl21) cl22) cl23) cl24) cl25) cl26) cl27) cl28) cl29) cl30) cl31
end Go.Proofs.YtnennggfoegcmaaGreatDoor
