/-
  DERIVED. GIVEN WITH THE SEED: THE CARDS: each row of YtnennggfoegcmaaGreatDoorRows.lean that lists a variable, with what it lists TIED to the program's text (the seventh form; the later family's looks); each row that meets fmt, with fmt's text TOLD by the authors' own Lean function (tested against real Go, not proved from fmt's source: count such statements apart). THE CARD IS WHAT COUNTS. Prove the row's statement (the work); the ties are given (YtnennggfoegcmaaGreatDoorTie.lean); close each card by the builder's one call (the guide's Derived/Test/ToyasCard.lean, 'card_holds'). Laid BY PROGRAM, IN A SANDBOX (cutbox-door.mjs). By AI agents, Wed Nov 11 2026. No macro, syntax, notation, axiom, sorry.
-/
import Derived.Test.YtnennggfoegcmaaGreatDoorRows
import GoSem.ClaimSeven
namespace Go.Proofs.YtnennggfoegcmaaGreatDoor
namespace Rows

/-- THE TIED CARD OF 'posthouselaw26.DlogKeeps'. -/
def dlogKeepsCard : Claim7 := { stood := { row := dlogKeepsRow, standIns := [], harness := (true, "f2ea0b1d35f88889c77fc166eda9ee8f3284497b91ddec8d1343cf448aaf7d57"), looks := true }, kinds := [], alts := [], laidByText := true, laidKinds := [.data, .data, .data, .data, .sentinel, .sentinel], laidTests := true, laidLooks := .later }
def DlogKeepsCardSaid : Prop := Claim7.holds Tryz.pinned (.plain (OpenSpec.ofChange dlogKeepsSpec)) dlogKeepsCard

/-- THE TIED CARD OF 'posthouselaw26.DlogPlays'. -/
def dlogPlaysCard : Claim7 := { stood := { row := dlogPlaysRow, standIns := [], harness := (true, "f2ea0b1d35f88889c77fc166eda9ee8f3284497b91ddec8d1343cf448aaf7d57"), looks := true }, kinds := [], alts := [], laidByText := true, laidKinds := [.data, .data, .data, .data, .sentinel, .sentinel], laidTests := true, laidLooks := .later }
def DlogPlaysCardSaid : Prop := Claim7.holds Tryz.pinned (.plain (OpenSpec.ofChange dlogPlaysSpec)) dlogPlaysCard

/-- THE SECOND FORM's CARD OF 'posthouselaw26.DlogKeeps'. -/
def dlogKeepsUptoCard : Claim7 := { stood := { row := dlogKeepsUptoRow, standIns := [], harness := (true, "f2ea0b1d35f88889c77fc166eda9ee8f3284497b91ddec8d1343cf448aaf7d57"), looks := true }, kinds := [], alts := [], laidByText := true, laidKinds := [.data, .data, .data, .data, .sentinel, .sentinel], laidTests := true, laidLooks := .later }
def DlogKeepsUptoCardSaid : Prop := Claim7.holds Tryz.pinned (.plain (OpenSpec.upto dlogKeepsSpec)) dlogKeepsUptoCard

/-- THE SECOND FORM's CARD OF 'posthouselaw26.DlogPlays'. -/
def dlogPlaysUptoCard : Claim7 := { stood := { row := dlogPlaysUptoRow, standIns := [], harness := (true, "f2ea0b1d35f88889c77fc166eda9ee8f3284497b91ddec8d1343cf448aaf7d57"), looks := true }, kinds := [], alts := [], laidByText := true, laidKinds := [.data, .data, .data, .data, .sentinel, .sentinel], laidTests := true, laidLooks := .later }
def DlogPlaysUptoCardSaid : Prop := Claim7.holds Tryz.pinned (.plain (OpenSpec.upto dlogPlaysSpec)) dlogPlaysUptoCard
end Rows
end Go.Proofs.YtnennggfoegcmaaGreatDoor
