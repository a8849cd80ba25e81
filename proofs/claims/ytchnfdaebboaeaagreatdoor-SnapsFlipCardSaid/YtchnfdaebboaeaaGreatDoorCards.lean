/-
  DERIVED. GIVEN WITH THE SEED: THE CARDS: each row of YtchnfdaebboaeaaGreatDoorRows.lean that lists a variable, with what it lists TIED to the program's text (the seventh form; the later family's looks); each row that meets fmt, with fmt's text TOLD by the authors' own Lean function (tested against real Go, not proved from fmt's source: count such statements apart). THE CARD IS WHAT COUNTS. Prove the row's statement (the work); the ties are given (YtchnfdaebboaeaaGreatDoorTie.lean); close each card by the builder's one call (the guide's Derived/Test/ToyasCard.lean, 'card_holds'). Laid BY PROGRAM, IN A SANDBOX (cutbox-door.mjs). By AI agents, Wed Nov 11 2026. No macro, syntax, notation, axiom, sorry.
-/
import Derived.Test.YtchnfdaebboaeaaGreatDoorRows
import GoSem.ClaimSeven
namespace Go.Proofs.YtchnfdaebboaeaaGreatDoor
namespace Rows

/-- THE TIED CARD OF 'satchellaw23.SnapsBack'. -/
def snapsBackCard : Claim7 := { stood := { row := snapsBackRow, standIns := [], harness := (true, "153c981beef4faa6336a9b76dcd46cc9d9f8afadb02afc9c8e2c32e40eb4ada2"), looks := true }, kinds := [], alts := [], laidByText := true, laidKinds := [.data, .data, .data, .sentinel, .sentinel], laidTests := true, laidLooks := .later }
def SnapsBackCardSaid : Prop := Claim7.holds Tryz.pinned (.plain (OpenSpec.ofChange snapsBackSpec)) snapsBackCard

/-- THE TIED CARD OF 'satchellaw23.SnapsFlip'. -/
def snapsFlipCard : Claim7 := { stood := { row := snapsFlipRow, standIns := [], harness := (true, "153c981beef4faa6336a9b76dcd46cc9d9f8afadb02afc9c8e2c32e40eb4ada2"), looks := true }, kinds := [], alts := [], laidByText := true, laidKinds := [.data, .data, .data, .sentinel, .sentinel], laidTests := true, laidLooks := .later }
def SnapsFlipCardSaid : Prop := Claim7.holds Tryz.pinned (.plain (OpenSpec.ofChange snapsFlipSpec)) snapsFlipCard

/-- THE TIED CARD OF 'satchellaw23.SnapsApart'. -/
def snapsApartCard : Claim7 := { stood := { row := snapsApartRow, standIns := [], harness := (true, "153c981beef4faa6336a9b76dcd46cc9d9f8afadb02afc9c8e2c32e40eb4ada2"), looks := true }, kinds := [], alts := [], laidByText := true, laidKinds := [.data, .data, .data, .sentinel, .sentinel], laidTests := true, laidLooks := .later }
def SnapsApartCardSaid : Prop := Claim7.holds Tryz.pinned (.plain (OpenSpec.ofChange snapsApartSpec)) snapsApartCard

/-- THE TIED CARD OF 'satchellaw23.SnapsCrash'. -/
def snapsCrashCard : Claim7 := { stood := { row := snapsCrashRow, standIns := [], harness := (true, "153c981beef4faa6336a9b76dcd46cc9d9f8afadb02afc9c8e2c32e40eb4ada2"), looks := true }, kinds := [], alts := [], laidByText := true, laidKinds := [.data, .data, .data, .sentinel, .sentinel], laidTests := true, laidLooks := .later }
def SnapsCrashCardSaid : Prop := Claim7.holds Tryz.pinned (.plain (OpenSpec.ofChange snapsCrashSpec)) snapsCrashCard

/-- THE SECOND FORM's CARD OF 'satchellaw23.SnapsBack'. -/
def snapsBackUptoCard : Claim7 := { stood := { row := snapsBackUptoRow, standIns := [], harness := (true, "153c981beef4faa6336a9b76dcd46cc9d9f8afadb02afc9c8e2c32e40eb4ada2"), looks := true }, kinds := [], alts := [], laidByText := true, laidKinds := [.data, .data, .data, .sentinel, .sentinel], laidTests := true, laidLooks := .later }
def SnapsBackUptoCardSaid : Prop := Claim7.holds Tryz.pinned (.plain (OpenSpec.upto snapsBackSpec)) snapsBackUptoCard

/-- THE SECOND FORM's CARD OF 'satchellaw23.SnapsFlip'. -/
def snapsFlipUptoCard : Claim7 := { stood := { row := snapsFlipUptoRow, standIns := [], harness := (true, "153c981beef4faa6336a9b76dcd46cc9d9f8afadb02afc9c8e2c32e40eb4ada2"), looks := true }, kinds := [], alts := [], laidByText := true, laidKinds := [.data, .data, .data, .sentinel, .sentinel], laidTests := true, laidLooks := .later }
def SnapsFlipUptoCardSaid : Prop := Claim7.holds Tryz.pinned (.plain (OpenSpec.upto snapsFlipSpec)) snapsFlipUptoCard

/-- THE SECOND FORM's CARD OF 'satchellaw23.SnapsApart'. -/
def snapsApartUptoCard : Claim7 := { stood := { row := snapsApartUptoRow, standIns := [], harness := (true, "153c981beef4faa6336a9b76dcd46cc9d9f8afadb02afc9c8e2c32e40eb4ada2"), looks := true }, kinds := [], alts := [], laidByText := true, laidKinds := [.data, .data, .data, .sentinel, .sentinel], laidTests := true, laidLooks := .later }
def SnapsApartUptoCardSaid : Prop := Claim7.holds Tryz.pinned (.plain (OpenSpec.upto snapsApartSpec)) snapsApartUptoCard

/-- THE SECOND FORM's CARD OF 'satchellaw23.SnapsCrash'. -/
def snapsCrashUptoCard : Claim7 := { stood := { row := snapsCrashUptoRow, standIns := [], harness := (true, "153c981beef4faa6336a9b76dcd46cc9d9f8afadb02afc9c8e2c32e40eb4ada2"), looks := true }, kinds := [], alts := [], laidByText := true, laidKinds := [.data, .data, .data, .sentinel, .sentinel], laidTests := true, laidLooks := .later }
def SnapsCrashUptoCardSaid : Prop := Claim7.holds Tryz.pinned (.plain (OpenSpec.upto snapsCrashSpec)) snapsCrashUptoCard
end Rows
end Go.Proofs.YtchnfdaebboaeaaGreatDoor
