/-
  DERIVED. GIVEN WITH THE SEED: THE CARDS: each row of YtlmgnlhagpoggabDoorRows.lean that lists a variable, with what it lists TIED to the program's text (the seventh form; the later family's looks); each row that meets fmt, with fmt's text TOLD by the authors' own Lean function (tested against real Go, not proved from fmt's source: count such statements apart). THE CARD IS WHAT COUNTS. Prove the row's statement (the work); the ties are given (YtlmgnlhagpoggabDoorTie.lean); close each card by the builder's one call (the guide's Derived/Test/ToyasCard.lean, 'card_holds'). Laid BY PROGRAM, IN A SANDBOX (cutbox-door.mjs). By AI agents, Wed Nov 11 2026. No macro, syntax, notation, axiom, sorry.
-/
import Derived.Test.YtlmgnlhagpoggabDoorRows
import GoSem.ClaimSeven
namespace Go.Proofs.YtlmgnlhagpoggabDoor
namespace Rows

/-- THE TIED CARD OF 'tracebooklaw07.EventLists'. -/
def eventListsCard : Claim7 := { stood := { row := eventListsRow, standIns := [], harness := (true, "32be1103cab6104d1f776597a04e3b8afc47878023e96151d01733e962771779"), looks := true }, kinds := [], alts := [], laidByText := true, laidKinds := [.data, .data, .data, .data, .sentinel, .sentinel, .pinned], laidTests := true, laidLooks := .later }
def EventListsCardSaid : Prop := Claim7.holds Tryd.pinned (.plain (OpenSpec.ofChange eventListsSpec)) eventListsCard

/-- THE SECOND FORM's CARD OF 'tracebooklaw07.EventLists'. -/
def eventListsUptoCard : Claim7 := { stood := { row := eventListsUptoRow, standIns := [], harness := (true, "32be1103cab6104d1f776597a04e3b8afc47878023e96151d01733e962771779"), looks := true }, kinds := [], alts := [], laidByText := true, laidKinds := [.data, .data, .data, .data, .sentinel, .sentinel, .pinned], laidTests := true, laidLooks := .later }
def EventListsUptoCardSaid : Prop := Claim7.holds Tryd.pinned (.plain (OpenSpec.upto eventListsSpec)) eventListsUptoCard
end Rows
end Go.Proofs.YtlmgnlhagpoggabDoor
