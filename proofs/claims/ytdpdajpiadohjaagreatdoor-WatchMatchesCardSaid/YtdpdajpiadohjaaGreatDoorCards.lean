/-
  DERIVED. GIVEN WITH THE SEED: THE CARDS: each row of YtdpdajpiadohjaaGreatDoorRows.lean that lists a variable, with what it lists TIED to the program's text (the seventh form; the later family's looks); each row that meets fmt, with fmt's text TOLD by the authors' own Lean function (tested against real Go, not proved from fmt's source: count such statements apart). THE CARD IS WHAT COUNTS. Prove the row's statement (the work); the ties are given (YtdpdajpiadohjaaGreatDoorTie.lean); close each card by the builder's one call (the guide's Derived/Test/ToyasCard.lean, 'card_holds'). Laid BY PROGRAM, IN A SANDBOX (cutbox-door.mjs). By AI agents, Wed Nov 11 2026. No macro, syntax, notation, axiom, sorry.
-/
import Derived.Test.YtdpdajpiadohjaaGreatDoorRows
import GoSem.ClaimSeven
namespace Go.Proofs.YtdpdajpiadohjaaGreatDoor
namespace Rows

/-- THE TIED CARD OF 'posthouselaw30.WatchTallies'. -/
def watchTalliesCard : Claim7 := { stood := { row := watchTalliesRow, standIns := [], harness := (true, "07e324f1c851c94f802127128f4957f374b4a3c929f7deab66645d302b31af41"), looks := false }, kinds := [], alts := [], laidByText := true, laidKinds := [.data, .pinned], laidTests := true, laidLooks := .later }
def WatchTalliesCardSaid : Prop := Claim7.holds Tryz.pinned (.plain (OpenSpec.ofChange watchTalliesSpec)) watchTalliesCard

/-- THE TIED CARD OF 'posthouselaw30.WatchMatches'. -/
def watchMatchesCard : Claim7 := { stood := { row := watchMatchesRow, standIns := [], harness := (true, "07e324f1c851c94f802127128f4957f374b4a3c929f7deab66645d302b31af41"), looks := false }, kinds := [], alts := [], laidByText := true, laidKinds := [.data, .pinned], laidTests := true, laidLooks := .later }
def WatchMatchesCardSaid : Prop := Claim7.holds Tryz.pinned (.plain (OpenSpec.ofChange watchMatchesSpec)) watchMatchesCard

/-- THE TIED CARD OF 'posthouselaw30.WatchOrder'. -/
def watchOrderCard : Claim7 := { stood := { row := watchOrderRow, standIns := [], harness := (true, "07e324f1c851c94f802127128f4957f374b4a3c929f7deab66645d302b31af41"), looks := false }, kinds := [], alts := [], laidByText := true, laidKinds := [.data, .pinned], laidTests := true, laidLooks := .later }
def WatchOrderCardSaid : Prop := Claim7.holds Tryz.pinned (.plain (OpenSpec.ofChange watchOrderSpec)) watchOrderCard

/-- THE TIED CARD OF 'posthouselaw30.WatchCounts'. -/
def watchCountsCard : Claim7 := { stood := { row := watchCountsRow, standIns := [], harness := (true, "07e324f1c851c94f802127128f4957f374b4a3c929f7deab66645d302b31af41"), looks := false }, kinds := [], alts := [], laidByText := true, laidKinds := [.data, .pinned], laidTests := true, laidLooks := .later }
def WatchCountsCardSaid : Prop := Claim7.holds Tryz.pinned (.plain (OpenSpec.ofChange watchCountsSpec)) watchCountsCard

/-- THE SECOND FORM's CARD OF 'posthouselaw30.WatchTallies'. -/
def watchTalliesUptoCard : Claim7 := { stood := { row := watchTalliesUptoRow, standIns := [], harness := (true, "07e324f1c851c94f802127128f4957f374b4a3c929f7deab66645d302b31af41"), looks := false }, kinds := [], alts := [], laidByText := true, laidKinds := [.data, .pinned], laidTests := true, laidLooks := .later }
def WatchTalliesUptoCardSaid : Prop := Claim7.holds Tryz.pinned (.plain (OpenSpec.upto watchTalliesSpec)) watchTalliesUptoCard

/-- THE SECOND FORM's CARD OF 'posthouselaw30.WatchMatches'. -/
def watchMatchesUptoCard : Claim7 := { stood := { row := watchMatchesUptoRow, standIns := [], harness := (true, "07e324f1c851c94f802127128f4957f374b4a3c929f7deab66645d302b31af41"), looks := false }, kinds := [], alts := [], laidByText := true, laidKinds := [.data, .pinned], laidTests := true, laidLooks := .later }
def WatchMatchesUptoCardSaid : Prop := Claim7.holds Tryz.pinned (.plain (OpenSpec.upto watchMatchesSpec)) watchMatchesUptoCard

/-- THE SECOND FORM's CARD OF 'posthouselaw30.WatchOrder'. -/
def watchOrderUptoCard : Claim7 := { stood := { row := watchOrderUptoRow, standIns := [], harness := (true, "07e324f1c851c94f802127128f4957f374b4a3c929f7deab66645d302b31af41"), looks := false }, kinds := [], alts := [], laidByText := true, laidKinds := [.data, .pinned], laidTests := true, laidLooks := .later }
def WatchOrderUptoCardSaid : Prop := Claim7.holds Tryz.pinned (.plain (OpenSpec.upto watchOrderSpec)) watchOrderUptoCard

/-- THE SECOND FORM's CARD OF 'posthouselaw30.WatchCounts'. -/
def watchCountsUptoCard : Claim7 := { stood := { row := watchCountsUptoRow, standIns := [], harness := (true, "07e324f1c851c94f802127128f4957f374b4a3c929f7deab66645d302b31af41"), looks := false }, kinds := [], alts := [], laidByText := true, laidKinds := [.data, .pinned], laidTests := true, laidLooks := .later }
def WatchCountsUptoCardSaid : Prop := Claim7.holds Tryz.pinned (.plain (OpenSpec.upto watchCountsSpec)) watchCountsUptoCard
end Rows
end Go.Proofs.YtdpdajpiadohjaaGreatDoor
