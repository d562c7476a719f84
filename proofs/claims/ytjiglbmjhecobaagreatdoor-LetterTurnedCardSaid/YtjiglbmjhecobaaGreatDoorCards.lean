/-
  DERIVED. GIVEN WITH THE SEED: THE CARDS: each row of YtjiglbmjhecobaaGreatDoorRows.lean that lists a variable, with what it lists TIED to the program's text (the seventh form; the later family's looks); each row that meets fmt, with fmt's text TOLD by the authors' own Lean function (tested against real Go, not proved from fmt's source: count such statements apart). THE CARD IS WHAT COUNTS. Prove the row's statement (the work); the ties are given (YtjiglbmjhecobaaGreatDoorTie.lean); close each card by the builder's one call (the guide's Derived/Test/ToyasCard.lean, 'card_holds'). Laid BY PROGRAM, IN A SANDBOX (cutbox-door.mjs). By AI agents, Wed Nov 11 2026. No macro, syntax, notation, axiom, sorry.
-/
import Derived.Test.YtjiglbmjhecobaaGreatDoorRows
import GoSem.ClaimSeven
namespace Go.Proofs.YtjiglbmjhecobaaGreatDoor
namespace Rows

/-- THE TIED CARD OF 'posthouselaw25.LetterPuts'. -/
def letterPutsCard : Claim7 := { stood := { row := letterPutsRow, standIns := [], harness := (true, "7d83aac3b3e8c7a7f8db59f7e26eb8e66ee710130342598a5ead0ab2a7ecfe1e"), looks := true }, kinds := [], alts := [], laidByText := true, laidKinds := [.data, .data, .data, .data, .data, .sentinel, .sentinel, .pinned], laidTests := true, laidLooks := .later }
def LetterPutsCardSaid : Prop := Claim7.holds Tryz.pinned (.plain (OpenSpec.ofChange letterPutsSpec)) letterPutsCard

/-- THE TIED CARD OF 'posthouselaw25.LetterGets'. -/
def letterGetsCard : Claim7 := { stood := { row := letterGetsRow, standIns := [], harness := (true, "7d83aac3b3e8c7a7f8db59f7e26eb8e66ee710130342598a5ead0ab2a7ecfe1e"), looks := true }, kinds := [], alts := [], laidByText := true, laidKinds := [.data, .data, .data, .data, .data, .sentinel, .sentinel, .pinned], laidTests := true, laidLooks := .later }
def LetterGetsCardSaid : Prop := Claim7.holds Tryz.pinned (.plain (OpenSpec.ofChange letterGetsSpec)) letterGetsCard

/-- THE TIED CARD OF 'posthouselaw25.LetterTurned'. -/
def letterTurnedCard : Claim7 := { stood := { row := letterTurnedRow, standIns := [], harness := (true, "7d83aac3b3e8c7a7f8db59f7e26eb8e66ee710130342598a5ead0ab2a7ecfe1e"), looks := true }, kinds := [], alts := [], laidByText := true, laidKinds := [.data, .data, .data, .data, .data, .sentinel, .sentinel, .pinned], laidTests := true, laidLooks := .later }
def LetterTurnedCardSaid : Prop := Claim7.holds Tryz.pinned (.plain (OpenSpec.ofChange letterTurnedSpec)) letterTurnedCard

/-- THE TIED CARD OF 'posthouselaw25.LetterBack'. -/
def letterBackCard : Claim7 := { stood := { row := letterBackRow, standIns := [], harness := (true, "7d83aac3b3e8c7a7f8db59f7e26eb8e66ee710130342598a5ead0ab2a7ecfe1e"), looks := true }, kinds := [], alts := [], laidByText := true, laidKinds := [.data, .data, .data, .data, .data, .sentinel, .sentinel, .pinned], laidTests := true, laidLooks := .later }
def LetterBackCardSaid : Prop := Claim7.holds Tryz.pinned (.plain (OpenSpec.ofChange letterBackSpec)) letterBackCard

/-- THE SECOND FORM's CARD OF 'posthouselaw25.LetterPuts'. -/
def letterPutsUptoCard : Claim7 := { stood := { row := letterPutsUptoRow, standIns := [], harness := (true, "7d83aac3b3e8c7a7f8db59f7e26eb8e66ee710130342598a5ead0ab2a7ecfe1e"), looks := true }, kinds := [], alts := [], laidByText := true, laidKinds := [.data, .data, .data, .data, .data, .sentinel, .sentinel, .pinned], laidTests := true, laidLooks := .later }
def LetterPutsUptoCardSaid : Prop := Claim7.holds Tryz.pinned (.plain (OpenSpec.upto letterPutsSpec)) letterPutsUptoCard

/-- THE SECOND FORM's CARD OF 'posthouselaw25.LetterGets'. -/
def letterGetsUptoCard : Claim7 := { stood := { row := letterGetsUptoRow, standIns := [], harness := (true, "7d83aac3b3e8c7a7f8db59f7e26eb8e66ee710130342598a5ead0ab2a7ecfe1e"), looks := true }, kinds := [], alts := [], laidByText := true, laidKinds := [.data, .data, .data, .data, .data, .sentinel, .sentinel, .pinned], laidTests := true, laidLooks := .later }
def LetterGetsUptoCardSaid : Prop := Claim7.holds Tryz.pinned (.plain (OpenSpec.upto letterGetsSpec)) letterGetsUptoCard

/-- THE SECOND FORM's CARD OF 'posthouselaw25.LetterTurned'. -/
def letterTurnedUptoCard : Claim7 := { stood := { row := letterTurnedUptoRow, standIns := [], harness := (true, "7d83aac3b3e8c7a7f8db59f7e26eb8e66ee710130342598a5ead0ab2a7ecfe1e"), looks := true }, kinds := [], alts := [], laidByText := true, laidKinds := [.data, .data, .data, .data, .data, .sentinel, .sentinel, .pinned], laidTests := true, laidLooks := .later }
def LetterTurnedUptoCardSaid : Prop := Claim7.holds Tryz.pinned (.plain (OpenSpec.upto letterTurnedSpec)) letterTurnedUptoCard

/-- THE SECOND FORM's CARD OF 'posthouselaw25.LetterBack'. -/
def letterBackUptoCard : Claim7 := { stood := { row := letterBackUptoRow, standIns := [], harness := (true, "7d83aac3b3e8c7a7f8db59f7e26eb8e66ee710130342598a5ead0ab2a7ecfe1e"), looks := true }, kinds := [], alts := [], laidByText := true, laidKinds := [.data, .data, .data, .data, .data, .sentinel, .sentinel, .pinned], laidTests := true, laidLooks := .later }
def LetterBackUptoCardSaid : Prop := Claim7.holds Tryz.pinned (.plain (OpenSpec.upto letterBackSpec)) letterBackUptoCard
end Rows
end Go.Proofs.YtjiglbmjhecobaaGreatDoor
