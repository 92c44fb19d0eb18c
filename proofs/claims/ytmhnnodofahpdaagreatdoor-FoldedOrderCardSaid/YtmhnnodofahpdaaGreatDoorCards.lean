/-
  DERIVED. GIVEN WITH THE SEED: THE CARDS: each row of YtmhnnodofahpdaaGreatDoorRows.lean that lists a variable, with what it lists TIED to the program's text (the seventh form; the later family's looks); each row that meets fmt, with fmt's text TOLD by the authors' own Lean function (tested against real Go, not proved from fmt's source: count such statements apart). THE CARD IS WHAT COUNTS. Prove the row's statement (the work); the ties are given (YtmhnnodofahpdaaGreatDoorTie.lean); close each card by the builder's one call (the guide's Derived/Test/ToyasCard.lean, 'card_holds'). Laid BY PROGRAM, IN A SANDBOX (cutbox-door.mjs). By AI agents, Wed Nov 11 2026. No macro, syntax, notation, axiom, sorry.
-/
import Derived.Test.YtmhnnodofahpdaaGreatDoorRows
import GoSem.ClaimSeven
namespace Go.Proofs.YtmhnnodofahpdaaGreatDoor
namespace Rows

/-- THE TIED CARD OF 'tracebooklaw24.FoldedImports'. -/
def foldedImportsCard : Claim7 := { stood := { row := foldedImportsRow, standIns := [], harness := (true, "d7c56710f4931d52fe46f3184bfdc617518c097332128930fee9be6908f43e38"), looks := true }, kinds := [], alts := [], laidByText := true, laidKinds := [.data, .data, .data, .data, .sentinel, .sentinel, .pinned], laidTests := true, laidLooks := .later }
def FoldedImportsCardSaid : Prop := Claim7.holds Tryz.pinned (.plain (OpenSpec.ofChange foldedImportsSpec)) foldedImportsCard

/-- THE TIED CARD OF 'tracebooklaw24.FoldedPrints'. -/
def foldedPrintsCard : Claim7 := { stood := { row := foldedPrintsRow, standIns := [], harness := (true, "d7c56710f4931d52fe46f3184bfdc617518c097332128930fee9be6908f43e38"), looks := true }, kinds := [], alts := [], laidByText := true, laidKinds := [.data, .data, .data, .data, .sentinel, .sentinel, .pinned], laidTests := true, laidLooks := .later }
def FoldedPrintsCardSaid : Prop := Claim7.holds Tryz.pinned (.plain (OpenSpec.ofChange foldedPrintsSpec)) foldedPrintsCard

/-- THE TIED CARD OF 'tracebooklaw24.FoldedBack'. -/
def foldedBackCard : Claim7 := { stood := { row := foldedBackRow, standIns := [], harness := (true, "d7c56710f4931d52fe46f3184bfdc617518c097332128930fee9be6908f43e38"), looks := true }, kinds := [], alts := [], laidByText := true, laidKinds := [.data, .data, .data, .data, .sentinel, .sentinel, .pinned], laidTests := true, laidLooks := .later }
def FoldedBackCardSaid : Prop := Claim7.holds Tryz.pinned (.plain (OpenSpec.ofChange foldedBackSpec)) foldedBackCard

/-- THE TIED CARD OF 'tracebooklaw24.FoldedOrder'. -/
def foldedOrderCard : Claim7 := { stood := { row := foldedOrderRow, standIns := [], harness := (true, "d7c56710f4931d52fe46f3184bfdc617518c097332128930fee9be6908f43e38"), looks := true }, kinds := [], alts := [], laidByText := true, laidKinds := [.data, .data, .data, .data, .sentinel, .sentinel, .pinned], laidTests := true, laidLooks := .later }
def FoldedOrderCardSaid : Prop := Claim7.holds Tryz.pinned (.plain (OpenSpec.ofChange foldedOrderSpec)) foldedOrderCard

/-- THE TIED CARD OF 'tracebooklaw24.FoldedLines'. -/
def foldedLinesCard : Claim7 := { stood := { row := foldedLinesRow, standIns := [], harness := (true, "d7c56710f4931d52fe46f3184bfdc617518c097332128930fee9be6908f43e38"), looks := true }, kinds := [], alts := [], laidByText := true, laidKinds := [.data, .data, .data, .data, .sentinel, .sentinel, .pinned], laidTests := true, laidLooks := .later }
def FoldedLinesCardSaid : Prop := Claim7.holds Tryz.pinned (.plain (OpenSpec.ofChange foldedLinesSpec)) foldedLinesCard

/-- THE SECOND FORM's CARD OF 'tracebooklaw24.FoldedImports'. -/
def foldedImportsUptoCard : Claim7 := { stood := { row := foldedImportsUptoRow, standIns := [], harness := (true, "d7c56710f4931d52fe46f3184bfdc617518c097332128930fee9be6908f43e38"), looks := true }, kinds := [], alts := [], laidByText := true, laidKinds := [.data, .data, .data, .data, .sentinel, .sentinel, .pinned], laidTests := true, laidLooks := .later }
def FoldedImportsUptoCardSaid : Prop := Claim7.holds Tryz.pinned (.plain (OpenSpec.upto foldedImportsSpec)) foldedImportsUptoCard

/-- THE SECOND FORM's CARD OF 'tracebooklaw24.FoldedPrints'. -/
def foldedPrintsUptoCard : Claim7 := { stood := { row := foldedPrintsUptoRow, standIns := [], harness := (true, "d7c56710f4931d52fe46f3184bfdc617518c097332128930fee9be6908f43e38"), looks := true }, kinds := [], alts := [], laidByText := true, laidKinds := [.data, .data, .data, .data, .sentinel, .sentinel, .pinned], laidTests := true, laidLooks := .later }
def FoldedPrintsUptoCardSaid : Prop := Claim7.holds Tryz.pinned (.plain (OpenSpec.upto foldedPrintsSpec)) foldedPrintsUptoCard

/-- THE SECOND FORM's CARD OF 'tracebooklaw24.FoldedBack'. -/
def foldedBackUptoCard : Claim7 := { stood := { row := foldedBackUptoRow, standIns := [], harness := (true, "d7c56710f4931d52fe46f3184bfdc617518c097332128930fee9be6908f43e38"), looks := true }, kinds := [], alts := [], laidByText := true, laidKinds := [.data, .data, .data, .data, .sentinel, .sentinel, .pinned], laidTests := true, laidLooks := .later }
def FoldedBackUptoCardSaid : Prop := Claim7.holds Tryz.pinned (.plain (OpenSpec.upto foldedBackSpec)) foldedBackUptoCard

/-- THE SECOND FORM's CARD OF 'tracebooklaw24.FoldedOrder'. -/
def foldedOrderUptoCard : Claim7 := { stood := { row := foldedOrderUptoRow, standIns := [], harness := (true, "d7c56710f4931d52fe46f3184bfdc617518c097332128930fee9be6908f43e38"), looks := true }, kinds := [], alts := [], laidByText := true, laidKinds := [.data, .data, .data, .data, .sentinel, .sentinel, .pinned], laidTests := true, laidLooks := .later }
def FoldedOrderUptoCardSaid : Prop := Claim7.holds Tryz.pinned (.plain (OpenSpec.upto foldedOrderSpec)) foldedOrderUptoCard

/-- THE SECOND FORM's CARD OF 'tracebooklaw24.FoldedLines'. -/
def foldedLinesUptoCard : Claim7 := { stood := { row := foldedLinesUptoRow, standIns := [], harness := (true, "d7c56710f4931d52fe46f3184bfdc617518c097332128930fee9be6908f43e38"), looks := true }, kinds := [], alts := [], laidByText := true, laidKinds := [.data, .data, .data, .data, .sentinel, .sentinel, .pinned], laidTests := true, laidLooks := .later }
def FoldedLinesUptoCardSaid : Prop := Claim7.holds Tryz.pinned (.plain (OpenSpec.upto foldedLinesSpec)) foldedLinesUptoCard
end Rows
end Go.Proofs.YtmhnnodofahpdaaGreatDoor
