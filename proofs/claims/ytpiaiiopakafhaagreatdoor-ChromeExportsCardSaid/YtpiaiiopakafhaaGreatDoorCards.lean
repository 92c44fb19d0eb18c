/-
  DERIVED. GIVEN WITH THE SEED: THE CARDS: each row of YtpiaiiopakafhaaGreatDoorRows.lean that lists a variable, with what it lists TIED to the program's text (the seventh form; the later family's looks); each row that meets fmt, with fmt's text TOLD by the authors' own Lean function (tested against real Go, not proved from fmt's source: count such statements apart). THE CARD IS WHAT COUNTS. Prove the row's statement (the work); the ties are given (YtpiaiiopakafhaaGreatDoorTie.lean); close each card by the builder's one call (the guide's Derived/Test/ToyasCard.lean, 'card_holds'). Laid BY PROGRAM, IN A SANDBOX (cutbox-door.mjs). By AI agents, Wed Nov 11 2026. No macro, syntax, notation, axiom, sorry.
-/
import Derived.Test.YtpiaiiopakafhaaGreatDoorRows
import GoSem.ClaimSeven
namespace Go.Proofs.YtpiaiiopakafhaaGreatDoor
namespace Rows

/-- THE TIED CARD OF 'tracebooklaw22.ChromeImports'. -/
def chromeImportsCard : Claim7 := { stood := { row := chromeImportsRow, standIns := [], harness := (true, "1dae4bde635f40ea12784293ed2cd6d80f558439a319b6874bc2c370dcbb9741"), looks := true }, kinds := [], alts := [], laidByText := true, laidKinds := [.data, .data, .data, .sentinel, .sentinel], laidTests := true, laidLooks := .later }
def ChromeImportsCardSaid : Prop := Claim7.holds Tryz.pinned (.plain (OpenSpec.ofChange chromeImportsSpec)) chromeImportsCard

/-- THE TIED CARD OF 'tracebooklaw22.ChromeExports'. -/
def chromeExportsCard : Claim7 := { stood := { row := chromeExportsRow, standIns := [], harness := (true, "1dae4bde635f40ea12784293ed2cd6d80f558439a319b6874bc2c370dcbb9741"), looks := true }, kinds := [], alts := [], laidByText := true, laidKinds := [.data, .data, .data, .sentinel, .sentinel], laidTests := true, laidLooks := .later }
def ChromeExportsCardSaid : Prop := Claim7.holds Tryz.pinned (.plain (OpenSpec.ofChange chromeExportsSpec)) chromeExportsCard

/-- THE TIED CARD OF 'tracebooklaw22.ChromeEvents'. -/
def chromeEventsCard : Claim7 := { stood := { row := chromeEventsRow, standIns := [], harness := (true, "1dae4bde635f40ea12784293ed2cd6d80f558439a319b6874bc2c370dcbb9741"), looks := true }, kinds := [], alts := [], laidByText := true, laidKinds := [.data, .data, .data, .sentinel, .sentinel], laidTests := true, laidLooks := .later }
def ChromeEventsCardSaid : Prop := Claim7.holds Tryz.pinned (.plain (OpenSpec.ofChange chromeEventsSpec)) chromeEventsCard

/-- THE TIED CARD OF 'tracebooklaw22.ChromeSingle'. -/
def chromeSingleCard : Claim7 := { stood := { row := chromeSingleRow, standIns := [], harness := (true, "1dae4bde635f40ea12784293ed2cd6d80f558439a319b6874bc2c370dcbb9741"), looks := true }, kinds := [], alts := [], laidByText := true, laidKinds := [.data, .data, .data, .sentinel, .sentinel], laidTests := true, laidLooks := .later }
def ChromeSingleCardSaid : Prop := Claim7.holds Tryz.pinned (.plain (OpenSpec.ofChange chromeSingleSpec)) chromeSingleCard

/-- THE TIED CARD OF 'tracebooklaw22.ChromeRefuses'. -/
def chromeRefusesCard : Claim7 := { stood := { row := chromeRefusesRow, standIns := [], harness := (true, "1dae4bde635f40ea12784293ed2cd6d80f558439a319b6874bc2c370dcbb9741"), looks := true }, kinds := [], alts := [], laidByText := true, laidKinds := [.data, .data, .data, .sentinel, .sentinel], laidTests := true, laidLooks := .later }
def ChromeRefusesCardSaid : Prop := Claim7.holds Tryz.pinned (.plain (OpenSpec.ofChange chromeRefusesSpec)) chromeRefusesCard

/-- THE SECOND FORM's CARD OF 'tracebooklaw22.ChromeImports'. -/
def chromeImportsUptoCard : Claim7 := { stood := { row := chromeImportsUptoRow, standIns := [], harness := (true, "1dae4bde635f40ea12784293ed2cd6d80f558439a319b6874bc2c370dcbb9741"), looks := true }, kinds := [], alts := [], laidByText := true, laidKinds := [.data, .data, .data, .sentinel, .sentinel], laidTests := true, laidLooks := .later }
def ChromeImportsUptoCardSaid : Prop := Claim7.holds Tryz.pinned (.plain (OpenSpec.upto chromeImportsSpec)) chromeImportsUptoCard

/-- THE SECOND FORM's CARD OF 'tracebooklaw22.ChromeExports'. -/
def chromeExportsUptoCard : Claim7 := { stood := { row := chromeExportsUptoRow, standIns := [], harness := (true, "1dae4bde635f40ea12784293ed2cd6d80f558439a319b6874bc2c370dcbb9741"), looks := true }, kinds := [], alts := [], laidByText := true, laidKinds := [.data, .data, .data, .sentinel, .sentinel], laidTests := true, laidLooks := .later }
def ChromeExportsUptoCardSaid : Prop := Claim7.holds Tryz.pinned (.plain (OpenSpec.upto chromeExportsSpec)) chromeExportsUptoCard

/-- THE SECOND FORM's CARD OF 'tracebooklaw22.ChromeEvents'. -/
def chromeEventsUptoCard : Claim7 := { stood := { row := chromeEventsUptoRow, standIns := [], harness := (true, "1dae4bde635f40ea12784293ed2cd6d80f558439a319b6874bc2c370dcbb9741"), looks := true }, kinds := [], alts := [], laidByText := true, laidKinds := [.data, .data, .data, .sentinel, .sentinel], laidTests := true, laidLooks := .later }
def ChromeEventsUptoCardSaid : Prop := Claim7.holds Tryz.pinned (.plain (OpenSpec.upto chromeEventsSpec)) chromeEventsUptoCard

/-- THE SECOND FORM's CARD OF 'tracebooklaw22.ChromeSingle'. -/
def chromeSingleUptoCard : Claim7 := { stood := { row := chromeSingleUptoRow, standIns := [], harness := (true, "1dae4bde635f40ea12784293ed2cd6d80f558439a319b6874bc2c370dcbb9741"), looks := true }, kinds := [], alts := [], laidByText := true, laidKinds := [.data, .data, .data, .sentinel, .sentinel], laidTests := true, laidLooks := .later }
def ChromeSingleUptoCardSaid : Prop := Claim7.holds Tryz.pinned (.plain (OpenSpec.upto chromeSingleSpec)) chromeSingleUptoCard

/-- THE SECOND FORM's CARD OF 'tracebooklaw22.ChromeRefuses'. -/
def chromeRefusesUptoCard : Claim7 := { stood := { row := chromeRefusesUptoRow, standIns := [], harness := (true, "1dae4bde635f40ea12784293ed2cd6d80f558439a319b6874bc2c370dcbb9741"), looks := true }, kinds := [], alts := [], laidByText := true, laidKinds := [.data, .data, .data, .sentinel, .sentinel], laidTests := true, laidLooks := .later }
def ChromeRefusesUptoCardSaid : Prop := Claim7.holds Tryz.pinned (.plain (OpenSpec.upto chromeRefusesSpec)) chromeRefusesUptoCard
end Rows
end Go.Proofs.YtpiaiiopakafhaaGreatDoor
