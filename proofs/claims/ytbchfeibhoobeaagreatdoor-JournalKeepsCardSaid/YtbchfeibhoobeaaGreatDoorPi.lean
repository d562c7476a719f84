/-
  This text prints what the functions reached ask of their memory, and shows what they answer. Conditions: none for the last theorem, those that each theorem states for the others.
-/
import Derived.Test.YtbchfeibhoobeaaGreatDoorPh
set_option maxRecDepth 100000
set_option maxHeartbeats 1000000
namespace Go.Proofs.YtbchfeibhoobeaaGreatDoor.Hd
open Go.Abs
theorem r3:((List.range 8).all fun n=>okN (n+17))=true:=by kernel_rfl
theorem q3:((List.range 8).all fun n=>okF (Go.Jr.nm (n+17)))=true:=by kernel_rfl
end Go.Proofs.YtbchfeibhoobeaaGreatDoor.Hd
