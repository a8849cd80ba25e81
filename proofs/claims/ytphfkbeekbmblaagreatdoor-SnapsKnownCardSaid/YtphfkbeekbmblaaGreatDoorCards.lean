/-
  DERIVED. GIVEN WITH THE SEED: THE CARDS: each row of YtphfkbeekbmblaaGreatDoorRows.lean that lists a variable, with what it lists TIED to the program's text (the seventh form; the later family's looks); each row that meets fmt, with fmt's text TOLD by the authors' own Lean function (tested against real Go, not proved from fmt's source: count such statements apart). THE CARD IS WHAT COUNTS. Prove the row's statement (the work); the ties are given (YtphfkbeekbmblaaGreatDoorTie.lean); close each card by the builder's one call (the guide's Derived/Test/ToyasCard.lean, 'card_holds'). Laid BY PROGRAM, IN A SANDBOX (cutbox-door.mjs). By AI agents, Wed Nov 11 2026. No macro, syntax, notation, axiom, sorry.
-/
import Derived.Test.YtphfkbeekbmblaaGreatDoorRows
import GoSem.ClaimSeven
namespace Go.Proofs.YtphfkbeekbmblaaGreatDoor
namespace Rows

/-- THE TIED CARD OF 'satchellaw23.SnapsKnown'. -/
def snapsKnownCard : Claim7 := { stood := { row := snapsKnownRow, standIns := [], harness := (true, "04a23cbcd4c9bf4b36ec92ab283d0da6d937d6ab8cad292e1125ecfa4d114920"), looks := true }, kinds := [], alts := [], laidByText := true, laidKinds := [.data, .data, .data, .sentinel, .sentinel], laidTests := true, laidLooks := .later }
def SnapsKnownCardSaid : Prop := Claim7.holds Tryz.pinned (.plain (OpenSpec.ofChange snapsKnownSpec)) snapsKnownCard

/-- THE TIED CARD OF 'satchellaw23.SnapsNone'. -/
def snapsNoneCard : Claim7 := { stood := { row := snapsNoneRow, standIns := [], harness := (true, "04a23cbcd4c9bf4b36ec92ab283d0da6d937d6ab8cad292e1125ecfa4d114920"), looks := true }, kinds := [], alts := [], laidByText := true, laidKinds := [.data, .data, .data, .sentinel, .sentinel], laidTests := true, laidLooks := .later }
def SnapsNoneCardSaid : Prop := Claim7.holds Tryz.pinned (.plain (OpenSpec.ofChange snapsNoneSpec)) snapsNoneCard

/-- THE SECOND FORM's CARD OF 'satchellaw23.SnapsKnown'. -/
def snapsKnownUptoCard : Claim7 := { stood := { row := snapsKnownUptoRow, standIns := [], harness := (true, "04a23cbcd4c9bf4b36ec92ab283d0da6d937d6ab8cad292e1125ecfa4d114920"), looks := true }, kinds := [], alts := [], laidByText := true, laidKinds := [.data, .data, .data, .sentinel, .sentinel], laidTests := true, laidLooks := .later }
def SnapsKnownUptoCardSaid : Prop := Claim7.holds Tryz.pinned (.plain (OpenSpec.upto snapsKnownSpec)) snapsKnownUptoCard

/-- THE SECOND FORM's CARD OF 'satchellaw23.SnapsNone'. -/
def snapsNoneUptoCard : Claim7 := { stood := { row := snapsNoneUptoRow, standIns := [], harness := (true, "04a23cbcd4c9bf4b36ec92ab283d0da6d937d6ab8cad292e1125ecfa4d114920"), looks := true }, kinds := [], alts := [], laidByText := true, laidKinds := [.data, .data, .data, .sentinel, .sentinel], laidTests := true, laidLooks := .later }
def SnapsNoneUptoCardSaid : Prop := Claim7.holds Tryz.pinned (.plain (OpenSpec.upto snapsNoneSpec)) snapsNoneUptoCard
end Rows
end Go.Proofs.YtphfkbeekbmblaaGreatDoor
