/-
  What the row asks of the program, joined. Conditions: none.
-/
import Derived.Test.YtcaecfhebongcaaGreatDoorPartsB
import Derived.Test.YtcaecfhebongcaaGreatDoorClosA
import Derived.Test.YtcaecfhebongcaaGreatDoorClosB
import Derived.Test.YtcaecfhebongcaaGreatDoorClosC
import Derived.Test.YtcaecfhebongcaaGreatDoorClosD
import Derived.Test.YtcaecfhebongcaaGreatDoorFactA
import Derived.Test.YtcaecfhebongcaaGreatDoorFactB
import Derived.Test.YtcaecfhebongcaaGreatDoorFactC
import Derived.Test.YtcaecfhebongcaaGreatDoorLaidB

namespace Go.Proofs.YtcaecfhebongcaaGreatDoor
open Go Go.Abs Go.ChangeShapes Go.WideShapes Go.ChangeAt Go.RowKit Go.Joins Go.Deep
set_option maxRecDepth 100000 in
theorem bn_joined : Go.joinedFacts Tryz.pinned.checked.prog 3 Tryz.f3 Rows.serverNoneSpec Rows.serverNoneRow = true := by
  unfold joinedFacts
  exact (Bool.and_eq_true_iff.2 ⟨(Bool.and_eq_true_iff.2 ⟨(Bool.and_eq_true_iff.2 ⟨(Bool.and_eq_true_iff.2 ⟨(Bool.and_eq_true_iff.2 ⟨(Bool.and_eq_true_iff.2 ⟨(Bool.and_eq_true_iff.2 ⟨(Bool.and_eq_true_iff.2 ⟨(Bool.and_eq_true_iff.2 ⟨(Bool.and_eq_true_iff.2 ⟨(Bool.and_eq_true_iff.2 ⟨(Bool.and_eq_true_iff.2 ⟨(Bool.and_eq_true_iff.2 ⟨(Bool.and_eq_true_iff.2 ⟨(Bool.and_eq_true_iff.2 ⟨(Bool.and_eq_true_iff.2 ⟨(Bool.and_eq_true_iff.2 ⟨(Bool.and_eq_true_iff.2 ⟨(Bool.and_eq_true_iff.2 ⟨(Bool.and_eq_true_iff.2 ⟨(Bool.and_eq_true_iff.2 ⟨(Bool.and_eq_true_iff.2 ⟨(Bool.and_eq_true_iff.2 ⟨(Bool.and_eq_true_iff.2 ⟨(Bool.and_eq_true_iff.2 ⟨(Bool.and_eq_true_iff.2 ⟨(Bool.and_eq_true_iff.2 ⟨(Bool.and_eq_true_iff.2 ⟨(Bool.and_eq_true_iff.2 ⟨(Bool.and_eq_true_iff.2 ⟨(Bool.and_eq_true_iff.2 ⟨jf0, show laidOutB Tryz.pinned.checked.prog = true from Tryz.laidOut⟩), jf2⟩), jf3⟩), jf4⟩), jf5⟩), jf6⟩), jf7⟩), jf8⟩), jf9⟩), jf10⟩), jf11⟩), jf12⟩), jf13⟩), jf14⟩), jf15⟩), jf16⟩), jf17⟩), jf18⟩), jf19⟩), jf20⟩), jf21⟩), jf22⟩), jf23⟩), jf24⟩), jf25⟩), jf26⟩), jf27⟩), jf28⟩), jf29⟩), jf30⟩), jf31⟩)
end Go.Proofs.YtcaecfhebongcaaGreatDoor
