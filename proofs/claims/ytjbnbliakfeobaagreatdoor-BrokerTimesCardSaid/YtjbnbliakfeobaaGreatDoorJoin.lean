/-
  What the row asks of the program, joined. Conditions: none.
-/
import Derived.Test.YtjbnbliakfeobaaGreatDoorPartsB
import Derived.Test.YtjbnbliakfeobaaGreatDoorClosA
import Derived.Test.YtjbnbliakfeobaaGreatDoorClosB
import Derived.Test.YtjbnbliakfeobaaGreatDoorClosC
import Derived.Test.YtjbnbliakfeobaaGreatDoorClosD
import Derived.Test.YtjbnbliakfeobaaGreatDoorFactA
import Derived.Test.YtjbnbliakfeobaaGreatDoorFactB
import Derived.Test.YtjbnbliakfeobaaGreatDoorFactC
import Derived.Test.YtjbnbliakfeobaaGreatDoorLaidB
set_option linter.all false

namespace Go.Proofs.YtjbnbliakfeobaaGreatDoor
open Go Go.Abs Go.ChangeShapes Go.WideShapes Go.ChangeAt Go.RowKit Go.Joins Go.Deep
set_option maxRecDepth 100000 in
theorem bn_joined : Go.joinedFacts Tryz.pinned.checked.prog 3 Tryz.f3 Rows.brokerTimesSpec Rows.brokerTimesRow = true := by
  unfold joinedFacts
  exact (Bool.and_eq_true_iff.2 ⟨(Bool.and_eq_true_iff.2 ⟨(Bool.and_eq_true_iff.2 ⟨(Bool.and_eq_true_iff.2 ⟨(Bool.and_eq_true_iff.2 ⟨(Bool.and_eq_true_iff.2 ⟨(Bool.and_eq_true_iff.2 ⟨(Bool.and_eq_true_iff.2 ⟨(Bool.and_eq_true_iff.2 ⟨(Bool.and_eq_true_iff.2 ⟨(Bool.and_eq_true_iff.2 ⟨(Bool.and_eq_true_iff.2 ⟨(Bool.and_eq_true_iff.2 ⟨(Bool.and_eq_true_iff.2 ⟨(Bool.and_eq_true_iff.2 ⟨(Bool.and_eq_true_iff.2 ⟨(Bool.and_eq_true_iff.2 ⟨(Bool.and_eq_true_iff.2 ⟨(Bool.and_eq_true_iff.2 ⟨(Bool.and_eq_true_iff.2 ⟨(Bool.and_eq_true_iff.2 ⟨(Bool.and_eq_true_iff.2 ⟨(Bool.and_eq_true_iff.2 ⟨(Bool.and_eq_true_iff.2 ⟨(Bool.and_eq_true_iff.2 ⟨(Bool.and_eq_true_iff.2 ⟨(Bool.and_eq_true_iff.2 ⟨(Bool.and_eq_true_iff.2 ⟨(Bool.and_eq_true_iff.2 ⟨(Bool.and_eq_true_iff.2 ⟨(Bool.and_eq_true_iff.2 ⟨jf0, show laidOutB Tryz.pinned.checked.prog = true from Tryz.laidOut⟩), jf2⟩), jf3⟩), jf4⟩), jf5⟩), jf6⟩), jf7⟩), jf8⟩), jf9⟩), jf10⟩), jf11⟩), jf12⟩), jf13⟩), jf14⟩), jf15⟩), jf16⟩), jf17⟩), jf18⟩), jf19⟩), jf20⟩), jf21⟩), jf22⟩), jf23⟩), jf24⟩), jf25⟩), jf26⟩), jf27⟩), jf28⟩), jf29⟩), jf30⟩), jf31⟩)
end Go.Proofs.YtjbnbliakfeobaaGreatDoor
