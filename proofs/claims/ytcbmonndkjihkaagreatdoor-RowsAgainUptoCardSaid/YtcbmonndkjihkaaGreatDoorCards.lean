/-
  DERIVED. GIVEN WITH THE SEED: THE CARDS: each row of YtcbmonndkjihkaaGreatDoorRows.lean that lists a variable, with what it lists TIED to the program's text (the seventh form; the later family's looks); each row that meets fmt, with fmt's text TOLD by the authors' own Lean function (tested against real Go, not proved from fmt's source: count such statements apart). THE CARD IS WHAT COUNTS. Prove the row's statement (the work); the ties are given (YtcbmonndkjihkaaGreatDoorTie.lean); close each card by the builder's one call (the guide's Derived/Test/ToyasCard.lean, 'card_holds'). Laid BY PROGRAM, IN A SANDBOX (cutbox-door.mjs). By AI agents, Wed Nov 11 2026. No macro, syntax, notation, axiom, sorry.
-/
import Derived.Test.YtcbmonndkjihkaaGreatDoorRows
import GoSem.ClaimSeven
namespace Go.Proofs.YtcbmonndkjihkaaGreatDoor
namespace Rows

/-- THE TIED CARD OF 'furrowlaw06.RowsScans'. -/
def rowsScansCard : Claim7 := { stood := { row := rowsScansRow, standIns := [], harness := (true, "e90087c10c96257d2e7be0809a58fc7abee69e28fc05af22099eb5e269b4e3df"), looks := true }, kinds := [], alts := [], laidByText := true, laidKinds := [.data, .data, .data, .data, .handle, .sentinel, .sentinel, .pinned], laidTests := true, laidLooks := .later }
def RowsScansCardSaid : Prop := Claim7.holds Tryz.pinned (.plain (OpenSpec.ofChange rowsScansSpec)) rowsScansCard

/-- THE TIED CARD OF 'furrowlaw06.RowsReads'. -/
def rowsReadsCard : Claim7 := { stood := { row := rowsReadsRow, standIns := [], harness := (true, "e90087c10c96257d2e7be0809a58fc7abee69e28fc05af22099eb5e269b4e3df"), looks := true }, kinds := [], alts := [], laidByText := true, laidKinds := [.data, .data, .data, .data, .handle, .sentinel, .sentinel, .pinned], laidTests := true, laidLooks := .later }
def RowsReadsCardSaid : Prop := Claim7.holds Tryz.pinned (.plain (OpenSpec.ofChange rowsReadsSpec)) rowsReadsCard

/-- THE TIED CARD OF 'furrowlaw06.RowsBlank'. -/
def rowsBlankCard : Claim7 := { stood := { row := rowsBlankRow, standIns := [], harness := (true, "e90087c10c96257d2e7be0809a58fc7abee69e28fc05af22099eb5e269b4e3df"), looks := true }, kinds := [], alts := [], laidByText := true, laidKinds := [.data, .data, .data, .data, .handle, .sentinel, .sentinel, .pinned], laidTests := true, laidLooks := .later }
def RowsBlankCardSaid : Prop := Claim7.holds Tryz.pinned (.plain (OpenSpec.ofChange rowsBlankSpec)) rowsBlankCard

/-- THE TIED CARD OF 'furrowlaw06.RowsOne'. -/
def rowsOneCard : Claim7 := { stood := { row := rowsOneRow, standIns := [], harness := (true, "e90087c10c96257d2e7be0809a58fc7abee69e28fc05af22099eb5e269b4e3df"), looks := true }, kinds := [], alts := [], laidByText := true, laidKinds := [.data, .data, .data, .data, .handle, .sentinel, .sentinel, .pinned], laidTests := true, laidLooks := .later }
def RowsOneCardSaid : Prop := Claim7.holds Tryz.pinned (.plain (OpenSpec.ofChange rowsOneSpec)) rowsOneCard

/-- THE TIED CARD OF 'furrowlaw06.RowsPrints'. -/
def rowsPrintsCard : Claim7 := { stood := { row := rowsPrintsRow, standIns := [], harness := (true, "e90087c10c96257d2e7be0809a58fc7abee69e28fc05af22099eb5e269b4e3df"), looks := true }, kinds := [], alts := [], laidByText := true, laidKinds := [.data, .data, .data, .data, .handle, .sentinel, .sentinel, .pinned], laidTests := true, laidLooks := .later }
def RowsPrintsCardSaid : Prop := Claim7.holds Tryz.pinned (.plain (OpenSpec.ofChange rowsPrintsSpec)) rowsPrintsCard

/-- THE TIED CARD OF 'furrowlaw06.RowsBack'. -/
def rowsBackCard : Claim7 := { stood := { row := rowsBackRow, standIns := [], harness := (true, "e90087c10c96257d2e7be0809a58fc7abee69e28fc05af22099eb5e269b4e3df"), looks := true }, kinds := [], alts := [], laidByText := true, laidKinds := [.data, .data, .data, .data, .handle, .sentinel, .sentinel, .pinned], laidTests := true, laidLooks := .later }
def RowsBackCardSaid : Prop := Claim7.holds Tryz.pinned (.plain (OpenSpec.ofChange rowsBackSpec)) rowsBackCard

/-- THE TIED CARD OF 'furrowlaw06.RowsAgain'. -/
def rowsAgainCard : Claim7 := { stood := { row := rowsAgainRow, standIns := [], harness := (true, "e90087c10c96257d2e7be0809a58fc7abee69e28fc05af22099eb5e269b4e3df"), looks := true }, kinds := [], alts := [], laidByText := true, laidKinds := [.data, .data, .data, .data, .handle, .sentinel, .sentinel, .pinned], laidTests := true, laidLooks := .later }
def RowsAgainCardSaid : Prop := Claim7.holds Tryz.pinned (.plain (OpenSpec.ofChange rowsAgainSpec)) rowsAgainCard

/-- THE SECOND FORM's CARD OF 'furrowlaw06.RowsScans'. -/
def rowsScansUptoCard : Claim7 := { stood := { row := rowsScansUptoRow, standIns := [], harness := (true, "e90087c10c96257d2e7be0809a58fc7abee69e28fc05af22099eb5e269b4e3df"), looks := true }, kinds := [], alts := [], laidByText := true, laidKinds := [.data, .data, .data, .data, .handle, .sentinel, .sentinel, .pinned], laidTests := true, laidLooks := .later }
def RowsScansUptoCardSaid : Prop := Claim7.holds Tryz.pinned (.plain (OpenSpec.upto rowsScansSpec)) rowsScansUptoCard

/-- THE SECOND FORM's CARD OF 'furrowlaw06.RowsReads'. -/
def rowsReadsUptoCard : Claim7 := { stood := { row := rowsReadsUptoRow, standIns := [], harness := (true, "e90087c10c96257d2e7be0809a58fc7abee69e28fc05af22099eb5e269b4e3df"), looks := true }, kinds := [], alts := [], laidByText := true, laidKinds := [.data, .data, .data, .data, .handle, .sentinel, .sentinel, .pinned], laidTests := true, laidLooks := .later }
def RowsReadsUptoCardSaid : Prop := Claim7.holds Tryz.pinned (.plain (OpenSpec.upto rowsReadsSpec)) rowsReadsUptoCard

/-- THE SECOND FORM's CARD OF 'furrowlaw06.RowsBlank'. -/
def rowsBlankUptoCard : Claim7 := { stood := { row := rowsBlankUptoRow, standIns := [], harness := (true, "e90087c10c96257d2e7be0809a58fc7abee69e28fc05af22099eb5e269b4e3df"), looks := true }, kinds := [], alts := [], laidByText := true, laidKinds := [.data, .data, .data, .data, .handle, .sentinel, .sentinel, .pinned], laidTests := true, laidLooks := .later }
def RowsBlankUptoCardSaid : Prop := Claim7.holds Tryz.pinned (.plain (OpenSpec.upto rowsBlankSpec)) rowsBlankUptoCard

/-- THE SECOND FORM's CARD OF 'furrowlaw06.RowsOne'. -/
def rowsOneUptoCard : Claim7 := { stood := { row := rowsOneUptoRow, standIns := [], harness := (true, "e90087c10c96257d2e7be0809a58fc7abee69e28fc05af22099eb5e269b4e3df"), looks := true }, kinds := [], alts := [], laidByText := true, laidKinds := [.data, .data, .data, .data, .handle, .sentinel, .sentinel, .pinned], laidTests := true, laidLooks := .later }
def RowsOneUptoCardSaid : Prop := Claim7.holds Tryz.pinned (.plain (OpenSpec.upto rowsOneSpec)) rowsOneUptoCard

/-- THE SECOND FORM's CARD OF 'furrowlaw06.RowsPrints'. -/
def rowsPrintsUptoCard : Claim7 := { stood := { row := rowsPrintsUptoRow, standIns := [], harness := (true, "e90087c10c96257d2e7be0809a58fc7abee69e28fc05af22099eb5e269b4e3df"), looks := true }, kinds := [], alts := [], laidByText := true, laidKinds := [.data, .data, .data, .data, .handle, .sentinel, .sentinel, .pinned], laidTests := true, laidLooks := .later }
def RowsPrintsUptoCardSaid : Prop := Claim7.holds Tryz.pinned (.plain (OpenSpec.upto rowsPrintsSpec)) rowsPrintsUptoCard

/-- THE SECOND FORM's CARD OF 'furrowlaw06.RowsBack'. -/
def rowsBackUptoCard : Claim7 := { stood := { row := rowsBackUptoRow, standIns := [], harness := (true, "e90087c10c96257d2e7be0809a58fc7abee69e28fc05af22099eb5e269b4e3df"), looks := true }, kinds := [], alts := [], laidByText := true, laidKinds := [.data, .data, .data, .data, .handle, .sentinel, .sentinel, .pinned], laidTests := true, laidLooks := .later }
def RowsBackUptoCardSaid : Prop := Claim7.holds Tryz.pinned (.plain (OpenSpec.upto rowsBackSpec)) rowsBackUptoCard

/-- THE SECOND FORM's CARD OF 'furrowlaw06.RowsAgain'. -/
def rowsAgainUptoCard : Claim7 := { stood := { row := rowsAgainUptoRow, standIns := [], harness := (true, "e90087c10c96257d2e7be0809a58fc7abee69e28fc05af22099eb5e269b4e3df"), looks := true }, kinds := [], alts := [], laidByText := true, laidKinds := [.data, .data, .data, .data, .handle, .sentinel, .sentinel, .pinned], laidTests := true, laidLooks := .later }
def RowsAgainUptoCardSaid : Prop := Claim7.holds Tryz.pinned (.plain (OpenSpec.upto rowsAgainSpec)) rowsAgainUptoCard
end Rows
end Go.Proofs.YtcbmonndkjihkaaGreatDoor
