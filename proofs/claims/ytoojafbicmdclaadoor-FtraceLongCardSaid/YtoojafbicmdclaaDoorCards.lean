/-
  DERIVED. GIVEN WITH THE SEED: THE CARDS: each row of YtoojafbicmdclaaDoorRows.lean that lists a variable, with what it lists TIED to the program's text (the seventh form; the later family's looks); each row that meets fmt, with fmt's text TOLD by the authors' own Lean function (tested against real Go, not proved from fmt's source: count such statements apart). THE CARD IS WHAT COUNTS. Prove the row's statement (the work); the ties are given (YtoojafbicmdclaaDoorTie.lean); close each card by the builder's one call (the guide's Derived/Test/ToyasCard.lean, 'card_holds'). Laid BY PROGRAM, IN A SANDBOX (cutbox-door.mjs). By AI agents, Wed Nov 11 2026. No macro, syntax, notation, axiom, sorry.
-/
import Derived.Test.YtoojafbicmdclaaDoorRows
import GoSem.ClaimSeven
namespace Go.Proofs.YtoojafbicmdclaaDoor
namespace Rows

/-- THE TIED CARD OF 'tracebooklaw23.FtraceLines'. -/
def ftraceLinesCard : Claim7 := { stood := { row := ftraceLinesRow, standIns := [], harness := (true, "5fbe8582c8e33cff824125d763096d7c15d6a05ac8f9bd9fd8bcc326d603db89"), looks := true }, kinds := [], alts := [], laidByText := true, laidKinds := [.data, .data, .data, .data, .sentinel, .sentinel, .pinned], laidTests := true, laidLooks := .later }
def FtraceLinesCardSaid : Prop := Claim7.holds Tryd.pinned (.plain (OpenSpec.ofChange ftraceLinesSpec)) ftraceLinesCard

/-- THE TIED CARD OF 'tracebooklaw23.FtraceBlank'. -/
def ftraceBlankCard : Claim7 := { stood := { row := ftraceBlankRow, standIns := [], harness := (true, "5fbe8582c8e33cff824125d763096d7c15d6a05ac8f9bd9fd8bcc326d603db89"), looks := true }, kinds := [], alts := [], laidByText := true, laidKinds := [.data, .data, .data, .data, .sentinel, .sentinel, .pinned], laidTests := true, laidLooks := .later }
def FtraceBlankCardSaid : Prop := Claim7.holds Tryd.pinned (.plain (OpenSpec.ofChange ftraceBlankSpec)) ftraceBlankCard

/-- THE TIED CARD OF 'tracebooklaw23.FtraceCounts'. -/
def ftraceCountsCard : Claim7 := { stood := { row := ftraceCountsRow, standIns := [], harness := (true, "5fbe8582c8e33cff824125d763096d7c15d6a05ac8f9bd9fd8bcc326d603db89"), looks := true }, kinds := [], alts := [], laidByText := true, laidKinds := [.data, .data, .data, .data, .sentinel, .sentinel, .pinned], laidTests := true, laidLooks := .later }
def FtraceCountsCardSaid : Prop := Claim7.holds Tryd.pinned (.plain (OpenSpec.ofChange ftraceCountsSpec)) ftraceCountsCard

/-- THE TIED CARD OF 'tracebooklaw23.FtraceStops'. -/
def ftraceStopsCard : Claim7 := { stood := { row := ftraceStopsRow, standIns := [], harness := (true, "5fbe8582c8e33cff824125d763096d7c15d6a05ac8f9bd9fd8bcc326d603db89"), looks := true }, kinds := [], alts := [], laidByText := true, laidKinds := [.data, .data, .data, .data, .sentinel, .sentinel, .pinned], laidTests := true, laidLooks := .later }
def FtraceStopsCardSaid : Prop := Claim7.holds Tryd.pinned (.plain (OpenSpec.ofChange ftraceStopsSpec)) ftraceStopsCard

/-- THE TIED CARD OF 'tracebooklaw23.FtraceLong'. -/
def ftraceLongCard : Claim7 := { stood := { row := ftraceLongRow, standIns := [], harness := (true, "5fbe8582c8e33cff824125d763096d7c15d6a05ac8f9bd9fd8bcc326d603db89"), looks := true }, kinds := [], alts := [], laidByText := true, laidKinds := [.data, .data, .data, .data, .sentinel, .sentinel, .pinned], laidTests := true, laidLooks := .later }
def FtraceLongCardSaid : Prop := Claim7.holds Tryd.pinned (.plain (OpenSpec.ofChange ftraceLongSpec)) ftraceLongCard

/-- THE SECOND FORM's CARD OF 'tracebooklaw23.FtraceLines'. -/
def ftraceLinesUptoCard : Claim7 := { stood := { row := ftraceLinesUptoRow, standIns := [], harness := (true, "5fbe8582c8e33cff824125d763096d7c15d6a05ac8f9bd9fd8bcc326d603db89"), looks := true }, kinds := [], alts := [], laidByText := true, laidKinds := [.data, .data, .data, .data, .sentinel, .sentinel, .pinned], laidTests := true, laidLooks := .later }
def FtraceLinesUptoCardSaid : Prop := Claim7.holds Tryd.pinned (.plain (OpenSpec.upto ftraceLinesSpec)) ftraceLinesUptoCard

/-- THE SECOND FORM's CARD OF 'tracebooklaw23.FtraceBlank'. -/
def ftraceBlankUptoCard : Claim7 := { stood := { row := ftraceBlankUptoRow, standIns := [], harness := (true, "5fbe8582c8e33cff824125d763096d7c15d6a05ac8f9bd9fd8bcc326d603db89"), looks := true }, kinds := [], alts := [], laidByText := true, laidKinds := [.data, .data, .data, .data, .sentinel, .sentinel, .pinned], laidTests := true, laidLooks := .later }
def FtraceBlankUptoCardSaid : Prop := Claim7.holds Tryd.pinned (.plain (OpenSpec.upto ftraceBlankSpec)) ftraceBlankUptoCard

/-- THE SECOND FORM's CARD OF 'tracebooklaw23.FtraceCounts'. -/
def ftraceCountsUptoCard : Claim7 := { stood := { row := ftraceCountsUptoRow, standIns := [], harness := (true, "5fbe8582c8e33cff824125d763096d7c15d6a05ac8f9bd9fd8bcc326d603db89"), looks := true }, kinds := [], alts := [], laidByText := true, laidKinds := [.data, .data, .data, .data, .sentinel, .sentinel, .pinned], laidTests := true, laidLooks := .later }
def FtraceCountsUptoCardSaid : Prop := Claim7.holds Tryd.pinned (.plain (OpenSpec.upto ftraceCountsSpec)) ftraceCountsUptoCard

/-- THE SECOND FORM's CARD OF 'tracebooklaw23.FtraceStops'. -/
def ftraceStopsUptoCard : Claim7 := { stood := { row := ftraceStopsUptoRow, standIns := [], harness := (true, "5fbe8582c8e33cff824125d763096d7c15d6a05ac8f9bd9fd8bcc326d603db89"), looks := true }, kinds := [], alts := [], laidByText := true, laidKinds := [.data, .data, .data, .data, .sentinel, .sentinel, .pinned], laidTests := true, laidLooks := .later }
def FtraceStopsUptoCardSaid : Prop := Claim7.holds Tryd.pinned (.plain (OpenSpec.upto ftraceStopsSpec)) ftraceStopsUptoCard

/-- THE SECOND FORM's CARD OF 'tracebooklaw23.FtraceLong'. -/
def ftraceLongUptoCard : Claim7 := { stood := { row := ftraceLongUptoRow, standIns := [], harness := (true, "5fbe8582c8e33cff824125d763096d7c15d6a05ac8f9bd9fd8bcc326d603db89"), looks := true }, kinds := [], alts := [], laidByText := true, laidKinds := [.data, .data, .data, .data, .sentinel, .sentinel, .pinned], laidTests := true, laidLooks := .later }
def FtraceLongUptoCardSaid : Prop := Claim7.holds Tryd.pinned (.plain (OpenSpec.upto ftraceLongSpec)) ftraceLongUptoCard
end Rows
end Go.Proofs.YtoojafbicmdclaaDoor
