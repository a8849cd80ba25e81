/-
  DERIVED. GIVEN WITH THE SEED: THE CARDS: each row of YtbmkpcjkadifhaaGreatDoorRows.lean that lists a variable, with what it lists TIED to the program's text (the seventh form; the later family's looks); each row that meets fmt, with fmt's text TOLD by the authors' own Lean function (tested against real Go, not proved from fmt's source: count such statements apart). THE CARD IS WHAT COUNTS. Prove the row's statement (the work); the ties are given (YtbmkpcjkadifhaaGreatDoorTie.lean); close each card by the builder's one call (the guide's Derived/Test/ToyasCard.lean, 'card_holds'). Laid BY PROGRAM, IN A SANDBOX (cutbox-door.mjs). By AI agents, Wed Nov 11 2026. No macro, syntax, notation, axiom, sorry.
-/
import Derived.Test.YtbmkpcjkadifhaaGreatDoorRows
import GoSem.ClaimSeven
namespace Go.Proofs.YtbmkpcjkadifhaaGreatDoor
namespace Rows

/-- THE TIED CARD OF 'satchellaw23.SnapsNone'. -/
def snapsNoneCard : Claim7 := { stood := { row := snapsNoneRow, standIns := [], harness := (true, "13287ac47efc84ddd62c642add4b7b8c49448bf30d10e23827a35459d3799148"), looks := true }, kinds := [], alts := [], laidByText := true, laidKinds := [.data, .data, .data, .sentinel, .sentinel], laidTests := true, laidLooks := .later }
def SnapsNoneCardSaid : Prop := Claim7.holds Tryz.pinned (.plain (OpenSpec.ofChange snapsNoneSpec)) snapsNoneCard

/-- THE SECOND FORM's CARD OF 'satchellaw23.SnapsNone'. -/
def snapsNoneUptoCard : Claim7 := { stood := { row := snapsNoneUptoRow, standIns := [], harness := (true, "13287ac47efc84ddd62c642add4b7b8c49448bf30d10e23827a35459d3799148"), looks := true }, kinds := [], alts := [], laidByText := true, laidKinds := [.data, .data, .data, .sentinel, .sentinel], laidTests := true, laidLooks := .later }
def SnapsNoneUptoCardSaid : Prop := Claim7.holds Tryz.pinned (.plain (OpenSpec.upto snapsNoneSpec)) snapsNoneUptoCard
end Rows
end Go.Proofs.YtbmkpcjkadifhaaGreatDoor
