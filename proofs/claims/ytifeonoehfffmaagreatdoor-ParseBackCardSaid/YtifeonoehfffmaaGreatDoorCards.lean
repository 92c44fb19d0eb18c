/-
  DERIVED. GIVEN WITH THE SEED: THE CARDS: each row of YtifeonoehfffmaaGreatDoorRows.lean that lists a variable, with what it lists TIED to the program's text (the seventh form; the later family's looks); each row that meets fmt, with fmt's text TOLD by the authors' own Lean function (tested against real Go, not proved from fmt's source: count such statements apart). THE CARD IS WHAT COUNTS. Prove the row's statement (the work); the ties are given (YtifeonoehfffmaaGreatDoorTie.lean); close each card by the builder's one call (the guide's Derived/Test/ToyasCard.lean, 'card_holds'). Laid BY PROGRAM, IN A SANDBOX (cutbox-door.mjs). By AI agents, Wed Nov 11 2026. No macro, syntax, notation, axiom, sorry.
-/
import Derived.Test.YtifeonoehfffmaaGreatDoorRows
import GoSem.ClaimSeven
namespace Go.Proofs.YtifeonoehfffmaaGreatDoor
namespace Rows

/-- THE TIED CARD OF 'tracebooklaw37.ParseQueries'. -/
def parseQueriesCard : Claim7 := { stood := { row := parseQueriesRow, standIns := [], harness := (true, "c6d0185c683ac86ccda9b5ee711391df344f73109ff9de6cb6b00af8de8986aa"), looks := true }, kinds := [], alts := [], laidByText := true, laidKinds := [.data, .data, .data, .sentinel, .sentinel], laidTests := true, laidLooks := .later }
def ParseQueriesCardSaid : Prop := Claim7.holds Tryz.pinned (.plain (OpenSpec.ofChange parseQueriesSpec)) parseQueriesCard

/-- THE TIED CARD OF 'tracebooklaw37.ParseExprs'. -/
def parseExprsCard : Claim7 := { stood := { row := parseExprsRow, standIns := [], harness := (true, "c6d0185c683ac86ccda9b5ee711391df344f73109ff9de6cb6b00af8de8986aa"), looks := true }, kinds := [], alts := [], laidByText := true, laidKinds := [.data, .data, .data, .sentinel, .sentinel], laidTests := true, laidLooks := .later }
def ParseExprsCardSaid : Prop := Claim7.holds Tryz.pinned (.plain (OpenSpec.ofChange parseExprsSpec)) parseExprsCard

/-- THE TIED CARD OF 'tracebooklaw37.ParseBack'. -/
def parseBackCard : Claim7 := { stood := { row := parseBackRow, standIns := [], harness := (true, "c6d0185c683ac86ccda9b5ee711391df344f73109ff9de6cb6b00af8de8986aa"), looks := true }, kinds := [], alts := [], laidByText := true, laidKinds := [.data, .data, .data, .sentinel, .sentinel], laidTests := true, laidLooks := .later }
def ParseBackCardSaid : Prop := Claim7.holds Tryz.pinned (.plain (OpenSpec.ofChange parseBackSpec)) parseBackCard

/-- THE TIED CARD OF 'tracebooklaw37.ParseExprBack'. -/
def parseExprBackCard : Claim7 := { stood := { row := parseExprBackRow, standIns := [], harness := (true, "c6d0185c683ac86ccda9b5ee711391df344f73109ff9de6cb6b00af8de8986aa"), looks := true }, kinds := [], alts := [], laidByText := true, laidKinds := [.data, .data, .data, .sentinel, .sentinel], laidTests := true, laidLooks := .later }
def ParseExprBackCardSaid : Prop := Claim7.holds Tryz.pinned (.plain (OpenSpec.ofChange parseExprBackSpec)) parseExprBackCard

/-- THE TIED CARD OF 'tracebooklaw37.ParseSpaces'. -/
def parseSpacesCard : Claim7 := { stood := { row := parseSpacesRow, standIns := [], harness := (true, "c6d0185c683ac86ccda9b5ee711391df344f73109ff9de6cb6b00af8de8986aa"), looks := true }, kinds := [], alts := [], laidByText := true, laidKinds := [.data, .data, .data, .sentinel, .sentinel], laidTests := true, laidLooks := .later }
def ParseSpacesCardSaid : Prop := Claim7.holds Tryz.pinned (.plain (OpenSpec.ofChange parseSpacesSpec)) parseSpacesCard

/-- THE TIED CARD OF 'tracebooklaw37.ParseSteps'. -/
def parseStepsCard : Claim7 := { stood := { row := parseStepsRow, standIns := [], harness := (true, "c6d0185c683ac86ccda9b5ee711391df344f73109ff9de6cb6b00af8de8986aa"), looks := true }, kinds := [], alts := [], laidByText := true, laidKinds := [.data, .data, .data, .sentinel, .sentinel], laidTests := true, laidLooks := .later }
def ParseStepsCardSaid : Prop := Claim7.holds Tryz.pinned (.plain (OpenSpec.ofChange parseStepsSpec)) parseStepsCard

/-- THE SECOND FORM's CARD OF 'tracebooklaw37.ParseQueries'. -/
def parseQueriesUptoCard : Claim7 := { stood := { row := parseQueriesUptoRow, standIns := [], harness := (true, "c6d0185c683ac86ccda9b5ee711391df344f73109ff9de6cb6b00af8de8986aa"), looks := true }, kinds := [], alts := [], laidByText := true, laidKinds := [.data, .data, .data, .sentinel, .sentinel], laidTests := true, laidLooks := .later }
def ParseQueriesUptoCardSaid : Prop := Claim7.holds Tryz.pinned (.plain (OpenSpec.upto parseQueriesSpec)) parseQueriesUptoCard

/-- THE SECOND FORM's CARD OF 'tracebooklaw37.ParseExprs'. -/
def parseExprsUptoCard : Claim7 := { stood := { row := parseExprsUptoRow, standIns := [], harness := (true, "c6d0185c683ac86ccda9b5ee711391df344f73109ff9de6cb6b00af8de8986aa"), looks := true }, kinds := [], alts := [], laidByText := true, laidKinds := [.data, .data, .data, .sentinel, .sentinel], laidTests := true, laidLooks := .later }
def ParseExprsUptoCardSaid : Prop := Claim7.holds Tryz.pinned (.plain (OpenSpec.upto parseExprsSpec)) parseExprsUptoCard

/-- THE SECOND FORM's CARD OF 'tracebooklaw37.ParseBack'. -/
def parseBackUptoCard : Claim7 := { stood := { row := parseBackUptoRow, standIns := [], harness := (true, "c6d0185c683ac86ccda9b5ee711391df344f73109ff9de6cb6b00af8de8986aa"), looks := true }, kinds := [], alts := [], laidByText := true, laidKinds := [.data, .data, .data, .sentinel, .sentinel], laidTests := true, laidLooks := .later }
def ParseBackUptoCardSaid : Prop := Claim7.holds Tryz.pinned (.plain (OpenSpec.upto parseBackSpec)) parseBackUptoCard

/-- THE SECOND FORM's CARD OF 'tracebooklaw37.ParseExprBack'. -/
def parseExprBackUptoCard : Claim7 := { stood := { row := parseExprBackUptoRow, standIns := [], harness := (true, "c6d0185c683ac86ccda9b5ee711391df344f73109ff9de6cb6b00af8de8986aa"), looks := true }, kinds := [], alts := [], laidByText := true, laidKinds := [.data, .data, .data, .sentinel, .sentinel], laidTests := true, laidLooks := .later }
def ParseExprBackUptoCardSaid : Prop := Claim7.holds Tryz.pinned (.plain (OpenSpec.upto parseExprBackSpec)) parseExprBackUptoCard

/-- THE SECOND FORM's CARD OF 'tracebooklaw37.ParseSpaces'. -/
def parseSpacesUptoCard : Claim7 := { stood := { row := parseSpacesUptoRow, standIns := [], harness := (true, "c6d0185c683ac86ccda9b5ee711391df344f73109ff9de6cb6b00af8de8986aa"), looks := true }, kinds := [], alts := [], laidByText := true, laidKinds := [.data, .data, .data, .sentinel, .sentinel], laidTests := true, laidLooks := .later }
def ParseSpacesUptoCardSaid : Prop := Claim7.holds Tryz.pinned (.plain (OpenSpec.upto parseSpacesSpec)) parseSpacesUptoCard

/-- THE SECOND FORM's CARD OF 'tracebooklaw37.ParseSteps'. -/
def parseStepsUptoCard : Claim7 := { stood := { row := parseStepsUptoRow, standIns := [], harness := (true, "c6d0185c683ac86ccda9b5ee711391df344f73109ff9de6cb6b00af8de8986aa"), looks := true }, kinds := [], alts := [], laidByText := true, laidKinds := [.data, .data, .data, .sentinel, .sentinel], laidTests := true, laidLooks := .later }
def ParseStepsUptoCardSaid : Prop := Claim7.holds Tryz.pinned (.plain (OpenSpec.upto parseStepsSpec)) parseStepsUptoCard
end Rows
end Go.Proofs.YtifeonoehfffmaaGreatDoor
