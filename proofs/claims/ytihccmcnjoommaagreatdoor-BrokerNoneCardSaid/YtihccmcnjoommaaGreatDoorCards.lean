/-
  DERIVED. GIVEN WITH THE SEED: THE CARDS: each row of YtihccmcnjoommaaGreatDoorRows.lean that lists a variable, with what it lists TIED to the program's text (the seventh form; the later family's looks); each row that meets fmt, with fmt's text TOLD by the authors' own Lean function (tested against real Go, not proved from fmt's source: count such statements apart). THE CARD IS WHAT COUNTS. Prove the row's statement (the work); the ties are given (YtihccmcnjoommaaGreatDoorTie.lean); close each card by the builder's one call (the guide's Derived/Test/ToyasCard.lean, 'card_holds'). Laid BY PROGRAM, IN A SANDBOX (cutbox-door.mjs). By AI agents, Wed Nov 11 2026. No macro, syntax, notation, axiom, sorry.
-/
import Derived.Test.YtihccmcnjoommaaGreatDoorRows
import GoSem.ClaimSeven
namespace Go.Proofs.YtihccmcnjoommaaGreatDoor
namespace Rows

/-- THE TIED CARD OF 'posthouselaw20.BrokerNone'. -/
def brokerNoneCard : Claim7 := { stood := { row := brokerNoneRow, standIns := [], harness := (true, "784e064a0b80f5e461c8a1a6e96f9a276c1f97f4333ad6f0a80bf9f1aa52a9e9"), looks := true }, kinds := [], alts := [], laidByText := true, laidKinds := [.sentinel, .sentinel, .data, .data, .data, .data, .pinned, .data], laidTests := true, laidLooks := .later }
def BrokerNoneCardSaid : Prop := Claim7.holds Tryz.pinned (.plain (OpenSpec.ofChange brokerNoneSpec)) brokerNoneCard

/-- THE SECOND FORM's CARD OF 'posthouselaw20.BrokerNone'. -/
def brokerNoneUptoCard : Claim7 := { stood := { row := brokerNoneUptoRow, standIns := [], harness := (true, "784e064a0b80f5e461c8a1a6e96f9a276c1f97f4333ad6f0a80bf9f1aa52a9e9"), looks := true }, kinds := [], alts := [], laidByText := true, laidKinds := [.sentinel, .sentinel, .data, .data, .data, .data, .pinned, .data], laidTests := true, laidLooks := .later }
def BrokerNoneUptoCardSaid : Prop := Claim7.holds Tryz.pinned (.plain (OpenSpec.upto brokerNoneSpec)) brokerNoneUptoCard
end Rows
end Go.Proofs.YtihccmcnjoommaaGreatDoor
