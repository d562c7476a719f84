/-
  DERIVED. GIVEN WITH THE SEED: THE CARDS: each row of YteooonkpannpbaaGreatDoorRows.lean that lists a variable, with what it lists TIED to the program's text (the seventh form; the later family's looks); each row that meets fmt, with fmt's text TOLD by the authors' own Lean function (tested against real Go, not proved from fmt's source: count such statements apart). THE CARD IS WHAT COUNTS. Prove the row's statement (the work); the ties are given (YteooonkpannpbaaGreatDoorTie.lean); close each card by the builder's one call (the guide's Derived/Test/ToyasCard.lean, 'card_holds'). Laid BY PROGRAM, IN A SANDBOX (cutbox-door.mjs). By AI agents, Wed Nov 11 2026. No macro, syntax, notation, axiom, sorry.
-/
import Derived.Test.YteooonkpannpbaaGreatDoorRows
import GoSem.ClaimSeven
namespace Go.Proofs.YteooonkpannpbaaGreatDoor
namespace Rows

/-- THE TIED CARD OF 'posthouselaw26.DlogPuts'. -/
def dlogPutsCard : Claim7 := { stood := { row := dlogPutsRow, standIns := [], harness := (true, "2e260be9ce8df8771929464bf9d20dacbd52618e1a03011eb3350571825d2f24"), looks := true }, kinds := [], alts := [], laidByText := true, laidKinds := [.data, .data, .data, .data, .sentinel, .sentinel], laidTests := true, laidLooks := .later }
def DlogPutsCardSaid : Prop := Claim7.holds Tryz.pinned (.plain (OpenSpec.ofChange dlogPutsSpec)) dlogPutsCard

/-- THE TIED CARD OF 'posthouselaw26.DlogGets'. -/
def dlogGetsCard : Claim7 := { stood := { row := dlogGetsRow, standIns := [], harness := (true, "2e260be9ce8df8771929464bf9d20dacbd52618e1a03011eb3350571825d2f24"), looks := true }, kinds := [], alts := [], laidByText := true, laidKinds := [.data, .data, .data, .data, .sentinel, .sentinel], laidTests := true, laidLooks := .later }
def DlogGetsCardSaid : Prop := Claim7.holds Tryz.pinned (.plain (OpenSpec.ofChange dlogGetsSpec)) dlogGetsCard

/-- THE SECOND FORM's CARD OF 'posthouselaw26.DlogPuts'. -/
def dlogPutsUptoCard : Claim7 := { stood := { row := dlogPutsUptoRow, standIns := [], harness := (true, "2e260be9ce8df8771929464bf9d20dacbd52618e1a03011eb3350571825d2f24"), looks := true }, kinds := [], alts := [], laidByText := true, laidKinds := [.data, .data, .data, .data, .sentinel, .sentinel], laidTests := true, laidLooks := .later }
def DlogPutsUptoCardSaid : Prop := Claim7.holds Tryz.pinned (.plain (OpenSpec.upto dlogPutsSpec)) dlogPutsUptoCard

/-- THE SECOND FORM's CARD OF 'posthouselaw26.DlogGets'. -/
def dlogGetsUptoCard : Claim7 := { stood := { row := dlogGetsUptoRow, standIns := [], harness := (true, "2e260be9ce8df8771929464bf9d20dacbd52618e1a03011eb3350571825d2f24"), looks := true }, kinds := [], alts := [], laidByText := true, laidKinds := [.data, .data, .data, .data, .sentinel, .sentinel], laidTests := true, laidLooks := .later }
def DlogGetsUptoCardSaid : Prop := Claim7.holds Tryz.pinned (.plain (OpenSpec.upto dlogGetsSpec)) dlogGetsUptoCard
end Rows
end Go.Proofs.YteooonkpannpbaaGreatDoor
