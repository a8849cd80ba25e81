/-
  DERIVED. GIVEN WITH THE SEED: THE CARDS: each row of YtbcnghhkccfilaaGreatDoorRows.lean that lists a variable, with what it lists TIED to the program's text (the seventh form; the later family's looks); each row that meets fmt, with fmt's text TOLD by the authors' own Lean function (tested against real Go, not proved from fmt's source: count such statements apart). THE CARD IS WHAT COUNTS. Prove the row's statement (the work); the ties are given (YtbcnghhkccfilaaGreatDoorTie.lean); close each card by the builder's one call (the guide's Derived/Test/ToyasCard.lean, 'card_holds'). Laid BY PROGRAM, IN A SANDBOX (cutbox-door.mjs). By AI agents, Wed Nov 11 2026. No macro, syntax, notation, axiom, sorry.
-/
import Derived.Test.YtbcnghhkccfilaaGreatDoorRows
import GoSem.ClaimSeven
namespace Go.Proofs.YtbcnghhkccfilaaGreatDoor
namespace Rows

/-- THE TIED CARD OF 'satchellaw24.JournalNone'. -/
def journalNoneCard : Claim7 := { stood := { row := journalNoneRow, standIns := [], harness := (true, "3ae8dfb44a68318902370f33a7f105780bf2299d1898b1a32d587f86377641c1"), looks := true }, kinds := [], alts := [], laidByText := true, laidKinds := [.data, .data, .data, .sentinel, .sentinel], laidTests := true, laidLooks := .later }
def JournalNoneCardSaid : Prop := Claim7.holds Tryz.pinned (.plain (OpenSpec.ofChange journalNoneSpec)) journalNoneCard

/-- THE TIED CARD OF 'satchellaw24.JournalKnown'. -/
def journalKnownCard : Claim7 := { stood := { row := journalKnownRow, standIns := [], harness := (true, "3ae8dfb44a68318902370f33a7f105780bf2299d1898b1a32d587f86377641c1"), looks := true }, kinds := [], alts := [], laidByText := true, laidKinds := [.data, .data, .data, .sentinel, .sentinel], laidTests := true, laidLooks := .later }
def JournalKnownCardSaid : Prop := Claim7.holds Tryz.pinned (.plain (OpenSpec.ofChange journalKnownSpec)) journalKnownCard

/-- THE SECOND FORM's CARD OF 'satchellaw24.JournalNone'. -/
def journalNoneUptoCard : Claim7 := { stood := { row := journalNoneUptoRow, standIns := [], harness := (true, "3ae8dfb44a68318902370f33a7f105780bf2299d1898b1a32d587f86377641c1"), looks := true }, kinds := [], alts := [], laidByText := true, laidKinds := [.data, .data, .data, .sentinel, .sentinel], laidTests := true, laidLooks := .later }
def JournalNoneUptoCardSaid : Prop := Claim7.holds Tryz.pinned (.plain (OpenSpec.upto journalNoneSpec)) journalNoneUptoCard

/-- THE SECOND FORM's CARD OF 'satchellaw24.JournalKnown'. -/
def journalKnownUptoCard : Claim7 := { stood := { row := journalKnownUptoRow, standIns := [], harness := (true, "3ae8dfb44a68318902370f33a7f105780bf2299d1898b1a32d587f86377641c1"), looks := true }, kinds := [], alts := [], laidByText := true, laidKinds := [.data, .data, .data, .sentinel, .sentinel], laidTests := true, laidLooks := .later }
def JournalKnownUptoCardSaid : Prop := Claim7.holds Tryz.pinned (.plain (OpenSpec.upto journalKnownSpec)) journalKnownUptoCard
end Rows
end Go.Proofs.YtbcnghhkccfilaaGreatDoor
