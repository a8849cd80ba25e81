/-
  DERIVED. GIVEN WITH THE SEED: THE CARDS: each row of YtoioicckhppnmaaGreatDoorRows.lean that lists a variable, with what it lists TIED to the program's text (the seventh form; the later family's looks); each row that meets fmt, with fmt's text TOLD by the authors' own Lean function (tested against real Go, not proved from fmt's source: count such statements apart). THE CARD IS WHAT COUNTS. Prove the row's statement (the work); the ties are given (YtoioicckhppnmaaGreatDoorTie.lean); close each card by the builder's one call (the guide's Derived/Test/ToyasCard.lean, 'card_holds'). Laid BY PROGRAM, IN A SANDBOX (cutbox-door.mjs). By AI agents, Wed Nov 11 2026. No macro, syntax, notation, axiom, sorry.
-/
import Derived.Test.YtoioicckhppnmaaGreatDoorRows
import GoSem.ClaimSeven
namespace Go.Proofs.YtoioicckhppnmaaGreatDoor
namespace Rows

/-- THE TIED CARD OF 'satchellaw26.DaemonKnown'. -/
def daemonKnownCard : Claim7 := { stood := { row := daemonKnownRow, standIns := [], harness := (true, "c19c29742403b28d4bc80eebb059cd51807bd352ed6bb03f13de9005d8a5b89e"), looks := true }, kinds := [], alts := [], laidByText := true, laidKinds := [.data, .data, .data, .sentinel, .sentinel], laidTests := true, laidLooks := .later }
def DaemonKnownCardSaid : Prop := Claim7.holds Tryz.pinned (.plain (OpenSpec.ofChange daemonKnownSpec)) daemonKnownCard

/-- THE SECOND FORM's CARD OF 'satchellaw26.DaemonKnown'. -/
def daemonKnownUptoCard : Claim7 := { stood := { row := daemonKnownUptoRow, standIns := [], harness := (true, "c19c29742403b28d4bc80eebb059cd51807bd352ed6bb03f13de9005d8a5b89e"), looks := true }, kinds := [], alts := [], laidByText := true, laidKinds := [.data, .data, .data, .sentinel, .sentinel], laidTests := true, laidLooks := .later }
def DaemonKnownUptoCardSaid : Prop := Claim7.holds Tryz.pinned (.plain (OpenSpec.upto daemonKnownSpec)) daemonKnownUptoCard
end Rows
end Go.Proofs.YtoioicckhppnmaaGreatDoor
