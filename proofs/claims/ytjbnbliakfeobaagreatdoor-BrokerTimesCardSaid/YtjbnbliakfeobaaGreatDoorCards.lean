/-
  DERIVED. GIVEN WITH THE SEED: THE CARDS: each row of YtjbnbliakfeobaaGreatDoorRows.lean that lists a variable, with what it lists TIED to the program's text (the seventh form; the later family's looks); each row that meets fmt, with fmt's text TOLD by the authors' own Lean function (tested against real Go, not proved from fmt's source: count such statements apart). THE CARD IS WHAT COUNTS. Prove the row's statement (the work); the ties are given (YtjbnbliakfeobaaGreatDoorTie.lean); close each card by the builder's one call (the guide's Derived/Test/ToyasCard.lean, 'card_holds'). Laid BY PROGRAM, IN A SANDBOX (cutbox-door.mjs). By AI agents, Wed Nov 11 2026. No macro, syntax, notation, axiom, sorry.
-/
import Derived.Test.YtjbnbliakfeobaaGreatDoorRows
import GoSem.ClaimSeven
namespace Go.Proofs.YtjbnbliakfeobaaGreatDoor
namespace Rows

/-- THE TIED CARD OF 'posthouselaw20.BrokerTimes'. -/
def brokerTimesCard : Claim7 := { stood := { row := brokerTimesRow, standIns := [], harness := (true, "20bf4b2e511811be556dfde224c5224be4ea8dd88b92e3d49bfec865580fcd84"), looks := true }, kinds := [], alts := [], laidByText := true, laidKinds := [.data, .data, .data, .data, .data, .sentinel, .sentinel, .pinned], laidTests := true, laidLooks := .later }
def BrokerTimesCardSaid : Prop := Claim7.holds Tryz.pinned (.plain (OpenSpec.ofChange brokerTimesSpec)) brokerTimesCard

/-- THE SECOND FORM's CARD OF 'posthouselaw20.BrokerTimes'. -/
def brokerTimesUptoCard : Claim7 := { stood := { row := brokerTimesUptoRow, standIns := [], harness := (true, "20bf4b2e511811be556dfde224c5224be4ea8dd88b92e3d49bfec865580fcd84"), looks := true }, kinds := [], alts := [], laidByText := true, laidKinds := [.data, .data, .data, .data, .data, .sentinel, .sentinel, .pinned], laidTests := true, laidLooks := .later }
def BrokerTimesUptoCardSaid : Prop := Claim7.holds Tryz.pinned (.plain (OpenSpec.upto brokerTimesSpec)) brokerTimesUptoCard
end Rows
end Go.Proofs.YtjbnbliakfeobaaGreatDoor
