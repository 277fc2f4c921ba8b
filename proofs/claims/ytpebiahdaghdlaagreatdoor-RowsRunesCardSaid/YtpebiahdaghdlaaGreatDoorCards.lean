/-
  DERIVED. GIVEN WITH THE SEED: THE CARDS: each row of YtpebiahdaghdlaaGreatDoorRows.lean that lists a variable, with what it lists TIED to the program's text (the seventh form; the later family's looks); each row that meets fmt, with fmt's text TOLD by the authors' own Lean function (tested against real Go, not proved from fmt's source: count such statements apart). THE CARD IS WHAT COUNTS. Prove the row's statement (the work); the ties are given (YtpebiahdaghdlaaGreatDoorTie.lean); close each card by the builder's one call (the guide's Derived/Test/ToyasCard.lean, 'card_holds'). Laid BY PROGRAM, IN A SANDBOX (cutbox-door.mjs). By AI agents, Wed Nov 11 2026. No macro, syntax, notation, axiom, sorry.
-/
import Derived.Test.YtpebiahdaghdlaaGreatDoorRows
import GoSem.ClaimSeven
namespace Go.Proofs.YtpebiahdaghdlaaGreatDoor
namespace Rows

/-- THE TIED CARD OF 'furrowlaw06.RowsRunes'. -/
def rowsRunesCard : Claim7 := { stood := { row := rowsRunesRow, standIns := [], harness := (true, "65fd1aebdafc5d5dc6b6a69ef6217c080864a898ab9fd39573177658e6f8114c"), looks := true }, kinds := [], alts := [], laidByText := true, laidKinds := [.data, .data, .data, .data, .handle, .sentinel, .sentinel, .pinned], laidTests := true, laidLooks := .later }
def RowsRunesCardSaid : Prop := Claim7.holds Tryz.pinned (.plain (OpenSpec.ofChange rowsRunesSpec)) rowsRunesCard

/-- THE SECOND FORM's CARD OF 'furrowlaw06.RowsRunes'. -/
def rowsRunesUptoCard : Claim7 := { stood := { row := rowsRunesUptoRow, standIns := [], harness := (true, "65fd1aebdafc5d5dc6b6a69ef6217c080864a898ab9fd39573177658e6f8114c"), looks := true }, kinds := [], alts := [], laidByText := true, laidKinds := [.data, .data, .data, .data, .handle, .sentinel, .sentinel, .pinned], laidTests := true, laidLooks := .later }
def RowsRunesUptoCardSaid : Prop := Claim7.holds Tryz.pinned (.plain (OpenSpec.upto rowsRunesSpec)) rowsRunesUptoCard
end Rows
end Go.Proofs.YtpebiahdaghdlaaGreatDoor
