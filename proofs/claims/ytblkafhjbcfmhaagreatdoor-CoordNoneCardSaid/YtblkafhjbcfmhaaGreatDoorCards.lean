/-
  DERIVED. GIVEN WITH THE SEED: THE CARDS: each row of YtblkafhjbcfmhaaGreatDoorRows.lean that lists a variable, with what it lists TIED to the program's text (the seventh form; the later family's looks); each row that meets fmt, with fmt's text TOLD by the authors' own Lean function (tested against real Go, not proved from fmt's source: count such statements apart). THE CARD IS WHAT COUNTS. Prove the row's statement (the work); the ties are given (YtblkafhjbcfmhaaGreatDoorTie.lean); close each card by the builder's one call (the guide's Derived/Test/ToyasCard.lean, 'card_holds'). Laid BY PROGRAM, IN A SANDBOX (cutbox-door.mjs). By AI agents, Wed Nov 11 2026. No macro, syntax, notation, axiom, sorry.
-/
import Derived.Test.YtblkafhjbcfmhaaGreatDoorRows
import GoSem.ClaimSeven
namespace Go.Proofs.YtblkafhjbcfmhaaGreatDoor
namespace Rows

/-- THE TIED CARD OF 'posthouselaw28.CoordNone'. -/
def coordNoneCard : Claim7 := { stood := { row := coordNoneRow, standIns := [], harness := (true, "712841c653f05ebce1e1143f9f6324732efb68fd207964ea939a54b8c5c58136"), looks := true }, kinds := [], alts := [], laidByText := true, laidKinds := [.data, .data, .data, .data, .sentinel, .sentinel], laidTests := true, laidLooks := .later }
def CoordNoneCardSaid : Prop := Claim7.holds Tryz.pinned (.plain (OpenSpec.ofChange coordNoneSpec)) coordNoneCard

/-- THE SECOND FORM's CARD OF 'posthouselaw28.CoordNone'. -/
def coordNoneUptoCard : Claim7 := { stood := { row := coordNoneUptoRow, standIns := [], harness := (true, "712841c653f05ebce1e1143f9f6324732efb68fd207964ea939a54b8c5c58136"), looks := true }, kinds := [], alts := [], laidByText := true, laidKinds := [.data, .data, .data, .data, .sentinel, .sentinel], laidTests := true, laidLooks := .later }
def CoordNoneUptoCardSaid : Prop := Claim7.holds Tryz.pinned (.plain (OpenSpec.upto coordNoneSpec)) coordNoneUptoCard
end Rows
end Go.Proofs.YtblkafhjbcfmhaaGreatDoor
