/-
  This text prints what the functions reached ask of their memory, and shows what they answer. Conditions: none for the last theorem, those that each theorem states for the others.
-/
import Derived.Test.YtbchfeibhoobeaaGreatDoorPk
set_option maxRecDepth 100000
set_option maxHeartbeats 1000000
namespace Go.Proofs.YtbchfeibhoobeaaGreatDoor
open Go Go.Abs
theorem nums_kc32 (W:World) (m:Inj Tp):NumsK W m 32:=by
 intro n h1 h2
 by_cases h:n≤24
 ·exact nums_kc W m n h1 h
 ·have a:=List.all_eq_true.1 Hd.r4 (n - 25) (List.mem_range.2 (by omega))
  have b:=List.all_eq_true.1 Hd.q4 (n - 25) (List.mem_range.2 (by omega))
  rw [show n - 25+25=n by omega] at a b
  exact ⟨Hd.kF b W m,Hd.kN a W m⟩
end Go.Proofs.YtbchfeibhoobeaaGreatDoor
