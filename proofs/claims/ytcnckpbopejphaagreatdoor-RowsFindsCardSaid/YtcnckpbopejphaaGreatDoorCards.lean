/-
  DERIVED. GIVEN WITH THE SEED: THE CARDS: each row of YtcnckpbopejphaaGreatDoorRows.lean that lists a variable, with what it lists TIED to the program's text (the seventh form; the later family's looks); each row that meets fmt, with fmt's text TOLD by the authors' own Lean function (tested against real Go, not proved from fmt's source: count such statements apart). THE CARD IS WHAT COUNTS. Prove the row's statement (the work); the ties are given (YtcnckpbopejphaaGreatDoorTie.lean); close each card by the builder's one call (the guide's Derived/Test/ToyasCard.lean, 'card_holds'). Laid BY PROGRAM, IN A SANDBOX (cutbox-door.mjs). By AI agents, Wed Nov 11 2026. No macro, syntax, notation, axiom, sorry.
-/
import Derived.Test.YtcnckpbopejphaaGreatDoorRows
import GoSem.ClaimSeven
namespace Go.Proofs.YtcnckpbopejphaaGreatDoor
namespace Rows

/-- THE TIED CARD OF 'furrowlaw06.RowsScans'. -/
def rowsScansCard : Claim7 := { stood := { row := rowsScansRow, standIns := [], harness := (true, "f4de4dc33d0ebf3473fbed386922dff1b7e4f03f898bd092c73f8f60edb5cf46"), looks := true }, kinds := [], alts := [], laidByText := true, laidKinds := [.data, .data, .data, .data, .handle, .sentinel, .sentinel, .pinned], laidTests := true, laidLooks := .later }
def RowsScansCardSaid : Prop := Claim7.holds Tryz.pinned (.plain (OpenSpec.ofChange rowsScansSpec)) rowsScansCard

/-- THE TIED CARD OF 'furrowlaw06.RowsReads'. -/
def rowsReadsCard : Claim7 := { stood := { row := rowsReadsRow, standIns := [], harness := (true, "f4de4dc33d0ebf3473fbed386922dff1b7e4f03f898bd092c73f8f60edb5cf46"), looks := true }, kinds := [], alts := [], laidByText := true, laidKinds := [.data, .data, .data, .data, .handle, .sentinel, .sentinel, .pinned], laidTests := true, laidLooks := .later }
def RowsReadsCardSaid : Prop := Claim7.holds Tryz.pinned (.plain (OpenSpec.ofChange rowsReadsSpec)) rowsReadsCard

/-- THE TIED CARD OF 'furrowlaw06.RowsFinds'. -/
def rowsFindsCard : Claim7 := { stood := { row := rowsFindsRow, standIns := [], harness := (true, "f4de4dc33d0ebf3473fbed386922dff1b7e4f03f898bd092c73f8f60edb5cf46"), looks := true }, kinds := [], alts := [], laidByText := true, laidKinds := [.data, .data, .data, .data, .handle, .sentinel, .sentinel, .pinned], laidTests := true, laidLooks := .later }
def RowsFindsCardSaid : Prop := Claim7.holds Tryz.pinned (.plain (OpenSpec.ofChange rowsFindsSpec)) rowsFindsCard

/-- THE TIED CARD OF 'furrowlaw06.RowsBlank'. -/
def rowsBlankCard : Claim7 := { stood := { row := rowsBlankRow, standIns := [], harness := (true, "f4de4dc33d0ebf3473fbed386922dff1b7e4f03f898bd092c73f8f60edb5cf46"), looks := true }, kinds := [], alts := [], laidByText := true, laidKinds := [.data, .data, .data, .data, .handle, .sentinel, .sentinel, .pinned], laidTests := true, laidLooks := .later }
def RowsBlankCardSaid : Prop := Claim7.holds Tryz.pinned (.plain (OpenSpec.ofChange rowsBlankSpec)) rowsBlankCard

/-- THE TIED CARD OF 'furrowlaw06.RowsNames'. -/
def rowsNamesCard : Claim7 := { stood := { row := rowsNamesRow, standIns := [], harness := (true, "f4de4dc33d0ebf3473fbed386922dff1b7e4f03f898bd092c73f8f60edb5cf46"), looks := true }, kinds := [], alts := [], laidByText := true, laidKinds := [.data, .data, .data, .data, .handle, .sentinel, .sentinel, .pinned], laidTests := true, laidLooks := .later }
def RowsNamesCardSaid : Prop := Claim7.holds Tryz.pinned (.plain (OpenSpec.ofChange rowsNamesSpec)) rowsNamesCard

/-- THE TIED CARD OF 'furrowlaw06.RowsRunes'. -/
def rowsRunesCard : Claim7 := { stood := { row := rowsRunesRow, standIns := [], harness := (true, "f4de4dc33d0ebf3473fbed386922dff1b7e4f03f898bd092c73f8f60edb5cf46"), looks := true }, kinds := [], alts := [], laidByText := true, laidKinds := [.data, .data, .data, .data, .handle, .sentinel, .sentinel, .pinned], laidTests := true, laidLooks := .later }
def RowsRunesCardSaid : Prop := Claim7.holds Tryz.pinned (.plain (OpenSpec.ofChange rowsRunesSpec)) rowsRunesCard

/-- THE TIED CARD OF 'furrowlaw06.RowsOne'. -/
def rowsOneCard : Claim7 := { stood := { row := rowsOneRow, standIns := [], harness := (true, "f4de4dc33d0ebf3473fbed386922dff1b7e4f03f898bd092c73f8f60edb5cf46"), looks := true }, kinds := [], alts := [], laidByText := true, laidKinds := [.data, .data, .data, .data, .handle, .sentinel, .sentinel, .pinned], laidTests := true, laidLooks := .later }
def RowsOneCardSaid : Prop := Claim7.holds Tryz.pinned (.plain (OpenSpec.ofChange rowsOneSpec)) rowsOneCard

/-- THE TIED CARD OF 'furrowlaw06.RowsPrints'. -/
def rowsPrintsCard : Claim7 := { stood := { row := rowsPrintsRow, standIns := [], harness := (true, "f4de4dc33d0ebf3473fbed386922dff1b7e4f03f898bd092c73f8f60edb5cf46"), looks := true }, kinds := [], alts := [], laidByText := true, laidKinds := [.data, .data, .data, .data, .handle, .sentinel, .sentinel, .pinned], laidTests := true, laidLooks := .later }
def RowsPrintsCardSaid : Prop := Claim7.holds Tryz.pinned (.plain (OpenSpec.ofChange rowsPrintsSpec)) rowsPrintsCard

/-- THE TIED CARD OF 'furrowlaw06.RowsBack'. -/
def rowsBackCard : Claim7 := { stood := { row := rowsBackRow, standIns := [], harness := (true, "f4de4dc33d0ebf3473fbed386922dff1b7e4f03f898bd092c73f8f60edb5cf46"), looks := true }, kinds := [], alts := [], laidByText := true, laidKinds := [.data, .data, .data, .data, .handle, .sentinel, .sentinel, .pinned], laidTests := true, laidLooks := .later }
def RowsBackCardSaid : Prop := Claim7.holds Tryz.pinned (.plain (OpenSpec.ofChange rowsBackSpec)) rowsBackCard

/-- THE TIED CARD OF 'furrowlaw06.RowsAgain'. -/
def rowsAgainCard : Claim7 := { stood := { row := rowsAgainRow, standIns := [], harness := (true, "f4de4dc33d0ebf3473fbed386922dff1b7e4f03f898bd092c73f8f60edb5cf46"), looks := true }, kinds := [], alts := [], laidByText := true, laidKinds := [.data, .data, .data, .data, .handle, .sentinel, .sentinel, .pinned], laidTests := true, laidLooks := .later }
def RowsAgainCardSaid : Prop := Claim7.holds Tryz.pinned (.plain (OpenSpec.ofChange rowsAgainSpec)) rowsAgainCard

/-- THE SECOND FORM's CARD OF 'furrowlaw06.RowsScans'. -/
def rowsScansUptoCard : Claim7 := { stood := { row := rowsScansUptoRow, standIns := [], harness := (true, "f4de4dc33d0ebf3473fbed386922dff1b7e4f03f898bd092c73f8f60edb5cf46"), looks := true }, kinds := [], alts := [], laidByText := true, laidKinds := [.data, .data, .data, .data, .handle, .sentinel, .sentinel, .pinned], laidTests := true, laidLooks := .later }
def RowsScansUptoCardSaid : Prop := Claim7.holds Tryz.pinned (.plain (OpenSpec.upto rowsScansSpec)) rowsScansUptoCard

/-- THE SECOND FORM's CARD OF 'furrowlaw06.RowsReads'. -/
def rowsReadsUptoCard : Claim7 := { stood := { row := rowsReadsUptoRow, standIns := [], harness := (true, "f4de4dc33d0ebf3473fbed386922dff1b7e4f03f898bd092c73f8f60edb5cf46"), looks := true }, kinds := [], alts := [], laidByText := true, laidKinds := [.data, .data, .data, .data, .handle, .sentinel, .sentinel, .pinned], laidTests := true, laidLooks := .later }
def RowsReadsUptoCardSaid : Prop := Claim7.holds Tryz.pinned (.plain (OpenSpec.upto rowsReadsSpec)) rowsReadsUptoCard

/-- THE SECOND FORM's CARD OF 'furrowlaw06.RowsFinds'. -/
def rowsFindsUptoCard : Claim7 := { stood := { row := rowsFindsUptoRow, standIns := [], harness := (true, "f4de4dc33d0ebf3473fbed386922dff1b7e4f03f898bd092c73f8f60edb5cf46"), looks := true }, kinds := [], alts := [], laidByText := true, laidKinds := [.data, .data, .data, .data, .handle, .sentinel, .sentinel, .pinned], laidTests := true, laidLooks := .later }
def RowsFindsUptoCardSaid : Prop := Claim7.holds Tryz.pinned (.plain (OpenSpec.upto rowsFindsSpec)) rowsFindsUptoCard

/-- THE SECOND FORM's CARD OF 'furrowlaw06.RowsBlank'. -/
def rowsBlankUptoCard : Claim7 := { stood := { row := rowsBlankUptoRow, standIns := [], harness := (true, "f4de4dc33d0ebf3473fbed386922dff1b7e4f03f898bd092c73f8f60edb5cf46"), looks := true }, kinds := [], alts := [], laidByText := true, laidKinds := [.data, .data, .data, .data, .handle, .sentinel, .sentinel, .pinned], laidTests := true, laidLooks := .later }
def RowsBlankUptoCardSaid : Prop := Claim7.holds Tryz.pinned (.plain (OpenSpec.upto rowsBlankSpec)) rowsBlankUptoCard

/-- THE SECOND FORM's CARD OF 'furrowlaw06.RowsNames'. -/
def rowsNamesUptoCard : Claim7 := { stood := { row := rowsNamesUptoRow, standIns := [], harness := (true, "f4de4dc33d0ebf3473fbed386922dff1b7e4f03f898bd092c73f8f60edb5cf46"), looks := true }, kinds := [], alts := [], laidByText := true, laidKinds := [.data, .data, .data, .data, .handle, .sentinel, .sentinel, .pinned], laidTests := true, laidLooks := .later }
def RowsNamesUptoCardSaid : Prop := Claim7.holds Tryz.pinned (.plain (OpenSpec.upto rowsNamesSpec)) rowsNamesUptoCard

/-- THE SECOND FORM's CARD OF 'furrowlaw06.RowsRunes'. -/
def rowsRunesUptoCard : Claim7 := { stood := { row := rowsRunesUptoRow, standIns := [], harness := (true, "f4de4dc33d0ebf3473fbed386922dff1b7e4f03f898bd092c73f8f60edb5cf46"), looks := true }, kinds := [], alts := [], laidByText := true, laidKinds := [.data, .data, .data, .data, .handle, .sentinel, .sentinel, .pinned], laidTests := true, laidLooks := .later }
def RowsRunesUptoCardSaid : Prop := Claim7.holds Tryz.pinned (.plain (OpenSpec.upto rowsRunesSpec)) rowsRunesUptoCard

/-- THE SECOND FORM's CARD OF 'furrowlaw06.RowsOne'. -/
def rowsOneUptoCard : Claim7 := { stood := { row := rowsOneUptoRow, standIns := [], harness := (true, "f4de4dc33d0ebf3473fbed386922dff1b7e4f03f898bd092c73f8f60edb5cf46"), looks := true }, kinds := [], alts := [], laidByText := true, laidKinds := [.data, .data, .data, .data, .handle, .sentinel, .sentinel, .pinned], laidTests := true, laidLooks := .later }
def RowsOneUptoCardSaid : Prop := Claim7.holds Tryz.pinned (.plain (OpenSpec.upto rowsOneSpec)) rowsOneUptoCard

/-- THE SECOND FORM's CARD OF 'furrowlaw06.RowsPrints'. -/
def rowsPrintsUptoCard : Claim7 := { stood := { row := rowsPrintsUptoRow, standIns := [], harness := (true, "f4de4dc33d0ebf3473fbed386922dff1b7e4f03f898bd092c73f8f60edb5cf46"), looks := true }, kinds := [], alts := [], laidByText := true, laidKinds := [.data, .data, .data, .data, .handle, .sentinel, .sentinel, .pinned], laidTests := true, laidLooks := .later }
def RowsPrintsUptoCardSaid : Prop := Claim7.holds Tryz.pinned (.plain (OpenSpec.upto rowsPrintsSpec)) rowsPrintsUptoCard

/-- THE SECOND FORM's CARD OF 'furrowlaw06.RowsBack'. -/
def rowsBackUptoCard : Claim7 := { stood := { row := rowsBackUptoRow, standIns := [], harness := (true, "f4de4dc33d0ebf3473fbed386922dff1b7e4f03f898bd092c73f8f60edb5cf46"), looks := true }, kinds := [], alts := [], laidByText := true, laidKinds := [.data, .data, .data, .data, .handle, .sentinel, .sentinel, .pinned], laidTests := true, laidLooks := .later }
def RowsBackUptoCardSaid : Prop := Claim7.holds Tryz.pinned (.plain (OpenSpec.upto rowsBackSpec)) rowsBackUptoCard

/-- THE SECOND FORM's CARD OF 'furrowlaw06.RowsAgain'. -/
def rowsAgainUptoCard : Claim7 := { stood := { row := rowsAgainUptoRow, standIns := [], harness := (true, "f4de4dc33d0ebf3473fbed386922dff1b7e4f03f898bd092c73f8f60edb5cf46"), looks := true }, kinds := [], alts := [], laidByText := true, laidKinds := [.data, .data, .data, .data, .handle, .sentinel, .sentinel, .pinned], laidTests := true, laidLooks := .later }
def RowsAgainUptoCardSaid : Prop := Claim7.holds Tryz.pinned (.plain (OpenSpec.upto rowsAgainSpec)) rowsAgainUptoCard
end Rows
end Go.Proofs.YtcnckpbopejphaaGreatDoor
