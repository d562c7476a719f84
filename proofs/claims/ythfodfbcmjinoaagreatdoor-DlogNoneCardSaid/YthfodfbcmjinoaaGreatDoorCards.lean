/-
  DERIVED. GIVEN WITH THE SEED: THE CARDS: each row of YthfodfbcmjinoaaGreatDoorRows.lean that lists a variable, with what it lists TIED to the program's text (the seventh form; the later family's looks); each row that meets fmt, with fmt's text TOLD by the authors' own Lean function (tested against real Go, not proved from fmt's source: count such statements apart). THE CARD IS WHAT COUNTS. Prove the row's statement (the work); the ties are given (YthfodfbcmjinoaaGreatDoorTie.lean); close each card by the builder's one call (the guide's Derived/Test/ToyasCard.lean, 'card_holds'). Laid BY PROGRAM, IN A SANDBOX (cutbox-door.mjs). By AI agents, Wed Nov 11 2026. No macro, syntax, notation, axiom, sorry.
-/
import Derived.Test.YthfodfbcmjinoaaGreatDoorRows
import GoSem.ClaimSeven
namespace Go.Proofs.YthfodfbcmjinoaaGreatDoor
namespace Rows

/-- THE TIED CARD OF 'posthouselaw26.DlogNone'. -/
def dlogNoneCard : Claim7 := { stood := { row := dlogNoneRow, standIns := [], harness := (true, "d1a2132177d8691ee5e6d9222b72be095f06fbab03b11cb49116a2c822eb9233"), looks := true }, kinds := [], alts := [], laidByText := true, laidKinds := [.data, .data, .data, .data, .sentinel, .sentinel], laidTests := true, laidLooks := .later }
def DlogNoneCardSaid : Prop := Claim7.holds Tryz.pinned (.plain (OpenSpec.ofChange dlogNoneSpec)) dlogNoneCard

/-- THE SECOND FORM's CARD OF 'posthouselaw26.DlogNone'. -/
def dlogNoneUptoCard : Claim7 := { stood := { row := dlogNoneUptoRow, standIns := [], harness := (true, "d1a2132177d8691ee5e6d9222b72be095f06fbab03b11cb49116a2c822eb9233"), looks := true }, kinds := [], alts := [], laidByText := true, laidKinds := [.data, .data, .data, .data, .sentinel, .sentinel], laidTests := true, laidLooks := .later }
def DlogNoneUptoCardSaid : Prop := Claim7.holds Tryz.pinned (.plain (OpenSpec.upto dlogNoneSpec)) dlogNoneUptoCard
end Rows
end Go.Proofs.YthfodfbcmjinoaaGreatDoor
