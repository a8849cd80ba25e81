/-
  DERIVED. GIVEN WITH THE SEED: THE CARDS: each row of YtndednnianphoaaGreatDoorRows.lean that lists a variable, with what it lists TIED to the program's text (the seventh form; the later family's looks); each row that meets fmt, with fmt's text TOLD by the authors' own Lean function (tested against real Go, not proved from fmt's source: count such statements apart). THE CARD IS WHAT COUNTS. Prove the row's statement (the work); the ties are given (YtndednnianphoaaGreatDoorTie.lean); close each card by the builder's one call (the guide's Derived/Test/ToyasCard.lean, 'card_holds'). Laid BY PROGRAM, IN A SANDBOX (cutbox-door.mjs). By AI agents, Wed Nov 11 2026. No macro, syntax, notation, axiom, sorry.
-/
import Derived.Test.YtndednnianphoaaGreatDoorRows
import GoSem.ClaimSeven
namespace Go.Proofs.YtndednnianphoaaGreatDoor
namespace Rows

/-- THE TIED CARD OF 'satchellaw24.JournalTorn'. -/
def journalTornCard : Claim7 := { stood := { row := journalTornRow, standIns := [], harness := (true, "ec8633819778393104fdc933fc4a871aa42645a66f6bc7e52d62f9e8a52423c3"), looks := true }, kinds := [], alts := [], laidByText := true, laidKinds := [.data, .data, .data, .sentinel, .sentinel], laidTests := true, laidLooks := .later }
def JournalTornCardSaid : Prop := Claim7.holds Tryz.pinned (.plain (OpenSpec.ofChange journalTornSpec)) journalTornCard

/-- THE TIED CARD OF 'satchellaw24.JournalFiles'. -/
def journalFilesCard : Claim7 := { stood := { row := journalFilesRow, standIns := [], harness := (true, "ec8633819778393104fdc933fc4a871aa42645a66f6bc7e52d62f9e8a52423c3"), looks := true }, kinds := [], alts := [], laidByText := true, laidKinds := [.data, .data, .data, .sentinel, .sentinel], laidTests := true, laidLooks := .later }
def JournalFilesCardSaid : Prop := Claim7.holds Tryz.pinned (.plain (OpenSpec.ofChange journalFilesSpec)) journalFilesCard

/-- THE TIED CARD OF 'satchellaw24.JournalOnce'. -/
def journalOnceCard : Claim7 := { stood := { row := journalOnceRow, standIns := [], harness := (true, "ec8633819778393104fdc933fc4a871aa42645a66f6bc7e52d62f9e8a52423c3"), looks := true }, kinds := [], alts := [], laidByText := true, laidKinds := [.data, .data, .data, .sentinel, .sentinel], laidTests := true, laidLooks := .later }
def JournalOnceCardSaid : Prop := Claim7.holds Tryz.pinned (.plain (OpenSpec.ofChange journalOnceSpec)) journalOnceCard

/-- THE SECOND FORM's CARD OF 'satchellaw24.JournalTorn'. -/
def journalTornUptoCard : Claim7 := { stood := { row := journalTornUptoRow, standIns := [], harness := (true, "ec8633819778393104fdc933fc4a871aa42645a66f6bc7e52d62f9e8a52423c3"), looks := true }, kinds := [], alts := [], laidByText := true, laidKinds := [.data, .data, .data, .sentinel, .sentinel], laidTests := true, laidLooks := .later }
def JournalTornUptoCardSaid : Prop := Claim7.holds Tryz.pinned (.plain (OpenSpec.upto journalTornSpec)) journalTornUptoCard

/-- THE SECOND FORM's CARD OF 'satchellaw24.JournalFiles'. -/
def journalFilesUptoCard : Claim7 := { stood := { row := journalFilesUptoRow, standIns := [], harness := (true, "ec8633819778393104fdc933fc4a871aa42645a66f6bc7e52d62f9e8a52423c3"), looks := true }, kinds := [], alts := [], laidByText := true, laidKinds := [.data, .data, .data, .sentinel, .sentinel], laidTests := true, laidLooks := .later }
def JournalFilesUptoCardSaid : Prop := Claim7.holds Tryz.pinned (.plain (OpenSpec.upto journalFilesSpec)) journalFilesUptoCard

/-- THE SECOND FORM's CARD OF 'satchellaw24.JournalOnce'. -/
def journalOnceUptoCard : Claim7 := { stood := { row := journalOnceUptoRow, standIns := [], harness := (true, "ec8633819778393104fdc933fc4a871aa42645a66f6bc7e52d62f9e8a52423c3"), looks := true }, kinds := [], alts := [], laidByText := true, laidKinds := [.data, .data, .data, .sentinel, .sentinel], laidTests := true, laidLooks := .later }
def JournalOnceUptoCardSaid : Prop := Claim7.holds Tryz.pinned (.plain (OpenSpec.upto journalOnceSpec)) journalOnceUptoCard
end Rows
end Go.Proofs.YtndednnianphoaaGreatDoor
