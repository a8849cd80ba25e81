/-
  DERIVED. GIVEN WITH THE SEED: THE CARDS: each row of YtieohifdhplgbaaGreatDoorRows.lean that lists a variable, with what it lists TIED to the program's text (the seventh form; the later family's looks); each row that meets fmt, with fmt's text TOLD by the authors' own Lean function (tested against real Go, not proved from fmt's source: count such statements apart). THE CARD IS WHAT COUNTS. Prove the row's statement (the work); the ties are given (YtieohifdhplgbaaGreatDoorTie.lean); close each card by the builder's one call (the guide's Derived/Test/ToyasCard.lean, 'card_holds'). Laid BY PROGRAM, IN A SANDBOX (cutbox-door.mjs). By AI agents, Wed Nov 11 2026. No macro, syntax, notation, axiom, sorry.
-/
import Derived.Test.YtieohifdhplgbaaGreatDoorRows
import GoSem.ClaimSeven
namespace Go.Proofs.YtieohifdhplgbaaGreatDoor
namespace Rows

/-- THE TIED CARD OF 'satchellaw29.AgentNone'. -/
def agentNoneCard : Claim7 := { stood := { row := agentNoneRow, standIns := [], harness := (true, "71eb97fe2e18474432b2531304a4e614f18c6a3f008742a1cc593c9d0832fca4"), looks := true }, kinds := [], alts := [], laidByText := true, laidKinds := [.data, .data, .data, .sentinel, .sentinel], laidTests := true, laidLooks := .later }
def AgentNoneCardSaid : Prop := Claim7.holds Tryz.pinned (.plain (OpenSpec.ofChange agentNoneSpec)) agentNoneCard

/-- THE TIED CARD OF 'satchellaw29.AgentKnown'. -/
def agentKnownCard : Claim7 := { stood := { row := agentKnownRow, standIns := [], harness := (true, "71eb97fe2e18474432b2531304a4e614f18c6a3f008742a1cc593c9d0832fca4"), looks := true }, kinds := [], alts := [], laidByText := true, laidKinds := [.data, .data, .data, .sentinel, .sentinel], laidTests := true, laidLooks := .later }
def AgentKnownCardSaid : Prop := Claim7.holds Tryz.pinned (.plain (OpenSpec.ofChange agentKnownSpec)) agentKnownCard

/-- THE SECOND FORM's CARD OF 'satchellaw29.AgentNone'. -/
def agentNoneUptoCard : Claim7 := { stood := { row := agentNoneUptoRow, standIns := [], harness := (true, "71eb97fe2e18474432b2531304a4e614f18c6a3f008742a1cc593c9d0832fca4"), looks := true }, kinds := [], alts := [], laidByText := true, laidKinds := [.data, .data, .data, .sentinel, .sentinel], laidTests := true, laidLooks := .later }
def AgentNoneUptoCardSaid : Prop := Claim7.holds Tryz.pinned (.plain (OpenSpec.upto agentNoneSpec)) agentNoneUptoCard

/-- THE SECOND FORM's CARD OF 'satchellaw29.AgentKnown'. -/
def agentKnownUptoCard : Claim7 := { stood := { row := agentKnownUptoRow, standIns := [], harness := (true, "71eb97fe2e18474432b2531304a4e614f18c6a3f008742a1cc593c9d0832fca4"), looks := true }, kinds := [], alts := [], laidByText := true, laidKinds := [.data, .data, .data, .sentinel, .sentinel], laidTests := true, laidLooks := .later }
def AgentKnownUptoCardSaid : Prop := Claim7.holds Tryz.pinned (.plain (OpenSpec.upto agentKnownSpec)) agentKnownUptoCard
end Rows
end Go.Proofs.YtieohifdhplgbaaGreatDoor
