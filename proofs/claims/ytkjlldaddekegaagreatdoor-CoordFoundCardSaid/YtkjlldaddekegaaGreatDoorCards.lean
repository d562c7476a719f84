/-
  DERIVED. GIVEN WITH THE SEED: THE CARDS: each row of YtkjlldaddekegaaGreatDoorRows.lean that lists a variable, with what it lists TIED to the program's text (the seventh form; the later family's looks); each row that meets fmt, with fmt's text TOLD by the authors' own Lean function (tested against real Go, not proved from fmt's source: count such statements apart). THE CARD IS WHAT COUNTS. Prove the row's statement (the work); the ties are given (YtkjlldaddekegaaGreatDoorTie.lean); close each card by the builder's one call (the guide's Derived/Test/ToyasCard.lean, 'card_holds'). Laid BY PROGRAM, IN A SANDBOX (cutbox-door.mjs). By AI agents, Wed Nov 11 2026. No macro, syntax, notation, axiom, sorry.
-/
import Derived.Test.YtkjlldaddekegaaGreatDoorRows
import GoSem.ClaimSeven
namespace Go.Proofs.YtkjlldaddekegaaGreatDoor
namespace Rows

/-- THE TIED CARD OF 'posthouselaw28.CoordFound'. -/
def coordFoundCard : Claim7 := { stood := { row := coordFoundRow, standIns := [], harness := (true, "ac57a019f3ba3ddd4a0594a0d0fc03fb27874b8925381eaf8c8f65c05470883b"), looks := true }, kinds := [], alts := [], laidByText := true, laidKinds := [.data, .data, .data, .data, .sentinel, .sentinel], laidTests := true, laidLooks := .later }
def CoordFoundCardSaid : Prop := Claim7.holds Tryz.pinned (.plain (OpenSpec.ofChange coordFoundSpec)) coordFoundCard

/-- THE TIED CARD OF 'posthouselaw28.CoordQuits'. -/
def coordQuitsCard : Claim7 := { stood := { row := coordQuitsRow, standIns := [], harness := (true, "ac57a019f3ba3ddd4a0594a0d0fc03fb27874b8925381eaf8c8f65c05470883b"), looks := true }, kinds := [], alts := [], laidByText := true, laidKinds := [.data, .data, .data, .data, .sentinel, .sentinel], laidTests := true, laidLooks := .later }
def CoordQuitsCardSaid : Prop := Claim7.holds Tryz.pinned (.plain (OpenSpec.ofChange coordQuitsSpec)) coordQuitsCard

/-- THE TIED CARD OF 'posthouselaw28.CoordAgain'. -/
def coordAgainCard : Claim7 := { stood := { row := coordAgainRow, standIns := [], harness := (true, "ac57a019f3ba3ddd4a0594a0d0fc03fb27874b8925381eaf8c8f65c05470883b"), looks := true }, kinds := [], alts := [], laidByText := true, laidKinds := [.data, .data, .data, .data, .sentinel, .sentinel], laidTests := true, laidLooks := .later }
def CoordAgainCardSaid : Prop := Claim7.holds Tryz.pinned (.plain (OpenSpec.ofChange coordAgainSpec)) coordAgainCard

/-- THE SECOND FORM's CARD OF 'posthouselaw28.CoordFound'. -/
def coordFoundUptoCard : Claim7 := { stood := { row := coordFoundUptoRow, standIns := [], harness := (true, "ac57a019f3ba3ddd4a0594a0d0fc03fb27874b8925381eaf8c8f65c05470883b"), looks := true }, kinds := [], alts := [], laidByText := true, laidKinds := [.data, .data, .data, .data, .sentinel, .sentinel], laidTests := true, laidLooks := .later }
def CoordFoundUptoCardSaid : Prop := Claim7.holds Tryz.pinned (.plain (OpenSpec.upto coordFoundSpec)) coordFoundUptoCard

/-- THE SECOND FORM's CARD OF 'posthouselaw28.CoordQuits'. -/
def coordQuitsUptoCard : Claim7 := { stood := { row := coordQuitsUptoRow, standIns := [], harness := (true, "ac57a019f3ba3ddd4a0594a0d0fc03fb27874b8925381eaf8c8f65c05470883b"), looks := true }, kinds := [], alts := [], laidByText := true, laidKinds := [.data, .data, .data, .data, .sentinel, .sentinel], laidTests := true, laidLooks := .later }
def CoordQuitsUptoCardSaid : Prop := Claim7.holds Tryz.pinned (.plain (OpenSpec.upto coordQuitsSpec)) coordQuitsUptoCard

/-- THE SECOND FORM's CARD OF 'posthouselaw28.CoordAgain'. -/
def coordAgainUptoCard : Claim7 := { stood := { row := coordAgainUptoRow, standIns := [], harness := (true, "ac57a019f3ba3ddd4a0594a0d0fc03fb27874b8925381eaf8c8f65c05470883b"), looks := true }, kinds := [], alts := [], laidByText := true, laidKinds := [.data, .data, .data, .data, .sentinel, .sentinel], laidTests := true, laidLooks := .later }
def CoordAgainUptoCardSaid : Prop := Claim7.holds Tryz.pinned (.plain (OpenSpec.upto coordAgainSpec)) coordAgainUptoCard
end Rows
end Go.Proofs.YtkjlldaddekegaaGreatDoor
