/-
  DERIVED. GIVEN WITH THE SEED: THE CARDS: each row of YtpkfchdnpdcenaaDoorRows.lean that lists a variable, with what it lists TIED to the program's text (the seventh form; the later family's looks); each row that meets fmt, with fmt's text TOLD by the authors' own Lean function (tested against real Go, not proved from fmt's source: count such statements apart). THE CARD IS WHAT COUNTS. Prove the row's statement (the work); the ties are given (YtpkfchdnpdcenaaDoorTie.lean); close each card by the builder's one call (the guide's Derived/Test/ToyasCard.lean, 'card_holds'). Laid BY PROGRAM, IN A SANDBOX (cutbox-door.mjs). By AI agents, Wed Nov 11 2026. No macro, syntax, notation, axiom, sorry.
-/
import Derived.Test.YtpkfchdnpdcenaaDoorRows
import GoSem.ClaimSeven
namespace Go.Proofs.YtpkfchdnpdcenaaDoor
namespace Rows

/-- THE TIED CARD OF 'tracebooklaw25.HeapdumpChecks'. -/
def heapdumpChecksCard : Claim7 := { stood := { row := heapdumpChecksRow, standIns := [], harness := (true, "a610cfc97d8b7f117b6a8379095bc196aa4569fca42b131cf860153c0c8ee175"), looks := true }, kinds := [], alts := [], laidByText := true, laidKinds := [.data, .data, .data, .data, .sentinel, .sentinel, .pinned], laidTests := true, laidLooks := .later }
def HeapdumpChecksCardSaid : Prop := Claim7.holds Tryd.pinned (.plain (OpenSpec.ofChange heapdumpChecksSpec)) heapdumpChecksCard

/-- THE TIED CARD OF 'tracebooklaw25.HeapdumpPrints'. -/
def heapdumpPrintsCard : Claim7 := { stood := { row := heapdumpPrintsRow, standIns := [], harness := (true, "a610cfc97d8b7f117b6a8379095bc196aa4569fca42b131cf860153c0c8ee175"), looks := true }, kinds := [], alts := [], laidByText := true, laidKinds := [.data, .data, .data, .data, .sentinel, .sentinel, .pinned], laidTests := true, laidLooks := .later }
def HeapdumpPrintsCardSaid : Prop := Claim7.holds Tryd.pinned (.plain (OpenSpec.ofChange heapdumpPrintsSpec)) heapdumpPrintsCard

/-- THE TIED CARD OF 'tracebooklaw25.HeapdumpImports'. -/
def heapdumpImportsCard : Claim7 := { stood := { row := heapdumpImportsRow, standIns := [], harness := (true, "a610cfc97d8b7f117b6a8379095bc196aa4569fca42b131cf860153c0c8ee175"), looks := true }, kinds := [], alts := [], laidByText := true, laidKinds := [.data, .data, .data, .data, .sentinel, .sentinel, .pinned], laidTests := true, laidLooks := .later }
def HeapdumpImportsCardSaid : Prop := Claim7.holds Tryd.pinned (.plain (OpenSpec.ofChange heapdumpImportsSpec)) heapdumpImportsCard

/-- THE TIED CARD OF 'tracebooklaw25.HeapdumpFinds'. -/
def heapdumpFindsCard : Claim7 := { stood := { row := heapdumpFindsRow, standIns := [], harness := (true, "a610cfc97d8b7f117b6a8379095bc196aa4569fca42b131cf860153c0c8ee175"), looks := true }, kinds := [], alts := [], laidByText := true, laidKinds := [.data, .data, .data, .data, .sentinel, .sentinel, .pinned], laidTests := true, laidLooks := .later }
def HeapdumpFindsCardSaid : Prop := Claim7.holds Tryd.pinned (.plain (OpenSpec.ofChange heapdumpFindsSpec)) heapdumpFindsCard

/-- THE TIED CARD OF 'tracebooklaw25.HeapdumpMisses'. -/
def heapdumpMissesCard : Claim7 := { stood := { row := heapdumpMissesRow, standIns := [], harness := (true, "a610cfc97d8b7f117b6a8379095bc196aa4569fca42b131cf860153c0c8ee175"), looks := true }, kinds := [], alts := [], laidByText := true, laidKinds := [.data, .data, .data, .data, .sentinel, .sentinel, .pinned], laidTests := true, laidLooks := .later }
def HeapdumpMissesCardSaid : Prop := Claim7.holds Tryd.pinned (.plain (OpenSpec.ofChange heapdumpMissesSpec)) heapdumpMissesCard

/-- THE SECOND FORM's CARD OF 'tracebooklaw25.HeapdumpChecks'. -/
def heapdumpChecksUptoCard : Claim7 := { stood := { row := heapdumpChecksUptoRow, standIns := [], harness := (true, "a610cfc97d8b7f117b6a8379095bc196aa4569fca42b131cf860153c0c8ee175"), looks := true }, kinds := [], alts := [], laidByText := true, laidKinds := [.data, .data, .data, .data, .sentinel, .sentinel, .pinned], laidTests := true, laidLooks := .later }
def HeapdumpChecksUptoCardSaid : Prop := Claim7.holds Tryd.pinned (.plain (OpenSpec.upto heapdumpChecksSpec)) heapdumpChecksUptoCard

/-- THE SECOND FORM's CARD OF 'tracebooklaw25.HeapdumpPrints'. -/
def heapdumpPrintsUptoCard : Claim7 := { stood := { row := heapdumpPrintsUptoRow, standIns := [], harness := (true, "a610cfc97d8b7f117b6a8379095bc196aa4569fca42b131cf860153c0c8ee175"), looks := true }, kinds := [], alts := [], laidByText := true, laidKinds := [.data, .data, .data, .data, .sentinel, .sentinel, .pinned], laidTests := true, laidLooks := .later }
def HeapdumpPrintsUptoCardSaid : Prop := Claim7.holds Tryd.pinned (.plain (OpenSpec.upto heapdumpPrintsSpec)) heapdumpPrintsUptoCard

/-- THE SECOND FORM's CARD OF 'tracebooklaw25.HeapdumpImports'. -/
def heapdumpImportsUptoCard : Claim7 := { stood := { row := heapdumpImportsUptoRow, standIns := [], harness := (true, "a610cfc97d8b7f117b6a8379095bc196aa4569fca42b131cf860153c0c8ee175"), looks := true }, kinds := [], alts := [], laidByText := true, laidKinds := [.data, .data, .data, .data, .sentinel, .sentinel, .pinned], laidTests := true, laidLooks := .later }
def HeapdumpImportsUptoCardSaid : Prop := Claim7.holds Tryd.pinned (.plain (OpenSpec.upto heapdumpImportsSpec)) heapdumpImportsUptoCard

/-- THE SECOND FORM's CARD OF 'tracebooklaw25.HeapdumpFinds'. -/
def heapdumpFindsUptoCard : Claim7 := { stood := { row := heapdumpFindsUptoRow, standIns := [], harness := (true, "a610cfc97d8b7f117b6a8379095bc196aa4569fca42b131cf860153c0c8ee175"), looks := true }, kinds := [], alts := [], laidByText := true, laidKinds := [.data, .data, .data, .data, .sentinel, .sentinel, .pinned], laidTests := true, laidLooks := .later }
def HeapdumpFindsUptoCardSaid : Prop := Claim7.holds Tryd.pinned (.plain (OpenSpec.upto heapdumpFindsSpec)) heapdumpFindsUptoCard

/-- THE SECOND FORM's CARD OF 'tracebooklaw25.HeapdumpMisses'. -/
def heapdumpMissesUptoCard : Claim7 := { stood := { row := heapdumpMissesUptoRow, standIns := [], harness := (true, "a610cfc97d8b7f117b6a8379095bc196aa4569fca42b131cf860153c0c8ee175"), looks := true }, kinds := [], alts := [], laidByText := true, laidKinds := [.data, .data, .data, .data, .sentinel, .sentinel, .pinned], laidTests := true, laidLooks := .later }
def HeapdumpMissesUptoCardSaid : Prop := Claim7.holds Tryd.pinned (.plain (OpenSpec.upto heapdumpMissesSpec)) heapdumpMissesUptoCard
end Rows
end Go.Proofs.YtpkfchdnpdcenaaDoor
