/-
  DERIVED. GIVEN WITH THE SEED: THE CARDS: each row of YtacpigichlicnaaGreatDoorRows.lean that lists a variable, with what it lists TIED to the program's text (the seventh form; the later family's looks); each row that meets fmt, with fmt's text TOLD by the authors' own Lean function (tested against real Go, not proved from fmt's source: count such statements apart). THE CARD IS WHAT COUNTS. Prove the row's statement (the work); the ties are given (YtacpigichlicnaaGreatDoorTie.lean); close each card by the builder's one call (the guide's Derived/Test/ToyasCard.lean, 'card_holds'). Laid BY PROGRAM, IN A SANDBOX (cutbox-door.mjs). By AI agents, Wed Nov 11 2026. No macro, syntax, notation, axiom, sorry.
-/
import Derived.Test.YtacpigichlicnaaGreatDoorRows
import GoSem.ClaimSeven
namespace Go.Proofs.YtacpigichlicnaaGreatDoor
namespace Rows

/-- THE TIED CARD OF 'satchellaw25.IntakeNone'. -/
def intakeNoneCard : Claim7 := { stood := { row := intakeNoneRow, standIns := [], harness := (true, "d3c438aa6b9a2bc15daa1b811c28195fb896cd1ba7f5142d98b096fd4dfb4c74"), looks := true }, kinds := [], alts := [], laidByText := true, laidKinds := [.data, .data, .data, .sentinel, .sentinel], laidTests := true, laidLooks := .later }
def IntakeNoneCardSaid : Prop := Claim7.holds Tryz.pinned (.plain (OpenSpec.ofChange intakeNoneSpec)) intakeNoneCard

/-- THE TIED CARD OF 'satchellaw25.IntakeKnown'. -/
def intakeKnownCard : Claim7 := { stood := { row := intakeKnownRow, standIns := [], harness := (true, "d3c438aa6b9a2bc15daa1b811c28195fb896cd1ba7f5142d98b096fd4dfb4c74"), looks := true }, kinds := [], alts := [], laidByText := true, laidKinds := [.data, .data, .data, .sentinel, .sentinel], laidTests := true, laidLooks := .later }
def IntakeKnownCardSaid : Prop := Claim7.holds Tryz.pinned (.plain (OpenSpec.ofChange intakeKnownSpec)) intakeKnownCard

/-- THE SECOND FORM's CARD OF 'satchellaw25.IntakeNone'. -/
def intakeNoneUptoCard : Claim7 := { stood := { row := intakeNoneUptoRow, standIns := [], harness := (true, "d3c438aa6b9a2bc15daa1b811c28195fb896cd1ba7f5142d98b096fd4dfb4c74"), looks := true }, kinds := [], alts := [], laidByText := true, laidKinds := [.data, .data, .data, .sentinel, .sentinel], laidTests := true, laidLooks := .later }
def IntakeNoneUptoCardSaid : Prop := Claim7.holds Tryz.pinned (.plain (OpenSpec.upto intakeNoneSpec)) intakeNoneUptoCard

/-- THE SECOND FORM's CARD OF 'satchellaw25.IntakeKnown'. -/
def intakeKnownUptoCard : Claim7 := { stood := { row := intakeKnownUptoRow, standIns := [], harness := (true, "d3c438aa6b9a2bc15daa1b811c28195fb896cd1ba7f5142d98b096fd4dfb4c74"), looks := true }, kinds := [], alts := [], laidByText := true, laidKinds := [.data, .data, .data, .sentinel, .sentinel], laidTests := true, laidLooks := .later }
def IntakeKnownUptoCardSaid : Prop := Claim7.holds Tryz.pinned (.plain (OpenSpec.upto intakeKnownSpec)) intakeKnownUptoCard
end Rows
end Go.Proofs.YtacpigichlicnaaGreatDoor
