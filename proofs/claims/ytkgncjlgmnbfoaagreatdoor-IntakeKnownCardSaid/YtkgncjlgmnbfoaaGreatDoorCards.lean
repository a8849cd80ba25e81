/-
  DERIVED. GIVEN WITH THE SEED: THE CARDS: each row of YtkgncjlgmnbfoaaGreatDoorRows.lean that lists a variable, with what it lists TIED to the program's text (the seventh form; the later family's looks); each row that meets fmt, with fmt's text TOLD by the authors' own Lean function (tested against real Go, not proved from fmt's source: count such statements apart). THE CARD IS WHAT COUNTS. Prove the row's statement (the work); the ties are given (YtkgncjlgmnbfoaaGreatDoorTie.lean); close each card by the builder's one call (the guide's Derived/Test/ToyasCard.lean, 'card_holds'). Laid BY PROGRAM, IN A SANDBOX (cutbox-door.mjs). By AI agents, Wed Nov 11 2026. No macro, syntax, notation, axiom, sorry.
-/
import Derived.Test.YtkgncjlgmnbfoaaGreatDoorRows
import GoSem.ClaimSeven
namespace Go.Proofs.YtkgncjlgmnbfoaaGreatDoor
namespace Rows

/-- THE TIED CARD OF 'satchellaw25.IntakeKnown'. -/
def intakeKnownCard : Claim7 := { stood := { row := intakeKnownRow, standIns := [], harness := (true, "ba5dc5e41bc62cde397ea6345a1022274470ed75965b36f95a2e01b7836871b4"), looks := true }, kinds := [], alts := [], laidByText := true, laidKinds := [.data, .data, .data, .sentinel, .sentinel], laidTests := true, laidLooks := .later }
def IntakeKnownCardSaid : Prop := Claim7.holds Tryz.pinned (.plain (OpenSpec.ofChange intakeKnownSpec)) intakeKnownCard

/-- THE SECOND FORM's CARD OF 'satchellaw25.IntakeKnown'. -/
def intakeKnownUptoCard : Claim7 := { stood := { row := intakeKnownUptoRow, standIns := [], harness := (true, "ba5dc5e41bc62cde397ea6345a1022274470ed75965b36f95a2e01b7836871b4"), looks := true }, kinds := [], alts := [], laidByText := true, laidKinds := [.data, .data, .data, .sentinel, .sentinel], laidTests := true, laidLooks := .later }
def IntakeKnownUptoCardSaid : Prop := Claim7.holds Tryz.pinned (.plain (OpenSpec.upto intakeKnownSpec)) intakeKnownUptoCard
end Rows
end Go.Proofs.YtkgncjlgmnbfoaaGreatDoor
