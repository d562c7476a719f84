/-
  DERIVED. GIVEN WITH THE SEED: THE CARDS: each row of YtfkiogliiodpnaaGreatDoorRows.lean that lists a variable, with what it lists TIED to the program's text (the seventh form; the later family's looks); each row that meets fmt, with fmt's text TOLD by the authors' own Lean function (tested against real Go, not proved from fmt's source: count such statements apart). THE CARD IS WHAT COUNTS. Prove the row's statement (the work); the ties are given (YtfkiogliiodpnaaGreatDoorTie.lean); close each card by the builder's one call (the guide's Derived/Test/ToyasCard.lean, 'card_holds'). Laid BY PROGRAM, IN A SANDBOX (cutbox-door.mjs). By AI agents, Wed Nov 11 2026. No macro, syntax, notation, axiom, sorry.
-/
import Derived.Test.YtfkiogliiodpnaaGreatDoorRows
import GoSem.ClaimSeven
namespace Go.Proofs.YtfkiogliiodpnaaGreatDoor
namespace Rows

/-- THE TIED CARD OF 'posthouselaw12.JournalNone'. -/
def journalNoneCard : Claim7 := { stood := { row := journalNoneRow, standIns := [], harness := (true, "c52a7f9d2fd40b511c1c5bf5ce57f20c77c550ceddf092ac4356993a5f6f9a16"), looks := true }, kinds := [], alts := [], laidByText := true, laidKinds := [.data, .data, .data, .data, .sentinel, .sentinel], laidTests := true, laidLooks := .later }
def JournalNoneCardSaid : Prop := Claim7.holds Tryz.pinned (.plain (OpenSpec.ofChange journalNoneSpec)) journalNoneCard

/-- THE SECOND FORM's CARD OF 'posthouselaw12.JournalNone'. -/
def journalNoneUptoCard : Claim7 := { stood := { row := journalNoneUptoRow, standIns := [], harness := (true, "c52a7f9d2fd40b511c1c5bf5ce57f20c77c550ceddf092ac4356993a5f6f9a16"), looks := true }, kinds := [], alts := [], laidByText := true, laidKinds := [.data, .data, .data, .data, .sentinel, .sentinel], laidTests := true, laidLooks := .later }
def JournalNoneUptoCardSaid : Prop := Claim7.holds Tryz.pinned (.plain (OpenSpec.upto journalNoneSpec)) journalNoneUptoCard
end Rows
end Go.Proofs.YtfkiogliiodpnaaGreatDoor
