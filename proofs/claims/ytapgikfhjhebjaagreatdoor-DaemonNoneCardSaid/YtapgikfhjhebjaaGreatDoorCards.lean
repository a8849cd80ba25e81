/-
  DERIVED. GIVEN WITH THE SEED: THE CARDS: each row of YtapgikfhjhebjaaGreatDoorRows.lean that lists a variable, with what it lists TIED to the program's text (the seventh form; the later family's looks); each row that meets fmt, with fmt's text TOLD by the authors' own Lean function (tested against real Go, not proved from fmt's source: count such statements apart). THE CARD IS WHAT COUNTS. Prove the row's statement (the work); the ties are given (YtapgikfhjhebjaaGreatDoorTie.lean); close each card by the builder's one call (the guide's Derived/Test/ToyasCard.lean, 'card_holds'). Laid BY PROGRAM, IN A SANDBOX (cutbox-door.mjs). By AI agents, Wed Nov 11 2026. No macro, syntax, notation, axiom, sorry.
-/
import Derived.Test.YtapgikfhjhebjaaGreatDoorRows
import GoSem.ClaimSeven
namespace Go.Proofs.YtapgikfhjhebjaaGreatDoor
namespace Rows

/-- THE TIED CARD OF 'satchellaw26.DaemonNone'. -/
def daemonNoneCard : Claim7 := { stood := { row := daemonNoneRow, standIns := [], harness := (true, "c4ddd03b2bfa78ce0d913269327c572d6a5c7bd5b33cae7c51b332ced16bfaa8"), looks := true }, kinds := [], alts := [], laidByText := true, laidKinds := [.data, .data, .data, .sentinel, .sentinel], laidTests := true, laidLooks := .later }
def DaemonNoneCardSaid : Prop := Claim7.holds Tryz.pinned (.plain (OpenSpec.ofChange daemonNoneSpec)) daemonNoneCard

/-- THE SECOND FORM's CARD OF 'satchellaw26.DaemonNone'. -/
def daemonNoneUptoCard : Claim7 := { stood := { row := daemonNoneUptoRow, standIns := [], harness := (true, "c4ddd03b2bfa78ce0d913269327c572d6a5c7bd5b33cae7c51b332ced16bfaa8"), looks := true }, kinds := [], alts := [], laidByText := true, laidKinds := [.data, .data, .data, .sentinel, .sentinel], laidTests := true, laidLooks := .later }
def DaemonNoneUptoCardSaid : Prop := Claim7.holds Tryz.pinned (.plain (OpenSpec.upto daemonNoneSpec)) daemonNoneUptoCard
end Rows
end Go.Proofs.YtapgikfhjhebjaaGreatDoor
