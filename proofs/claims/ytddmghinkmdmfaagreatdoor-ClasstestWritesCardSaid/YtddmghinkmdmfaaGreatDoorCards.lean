/-
  DERIVED. GIVEN WITH THE SEED: THE CARDS: each row of YtddmghinkmdmfaaGreatDoorRows.lean that lists a variable, with what it lists TIED to the program's text (the seventh form; the later family's looks); each row that meets fmt, with fmt's text TOLD by the authors' own Lean function (tested against real Go, not proved from fmt's source: count such statements apart). THE CARD IS WHAT COUNTS. Prove the row's statement (the work); the ties are given (YtddmghinkmdmfaaGreatDoorTie.lean); close each card by the builder's one call (the guide's Derived/Test/ToyasCard.lean, 'card_holds'). Laid BY PROGRAM, IN A SANDBOX (cutbox-door.mjs). By AI agents, Wed Nov 11 2026. No macro, syntax, notation, axiom, sorry.
-/
import Derived.Test.YtddmghinkmdmfaaGreatDoorRows
import GoSem.ClaimSeven
namespace Go.Proofs.YtddmghinkmdmfaaGreatDoor
namespace Rows

/-- THE TIED CARD OF 'furrowlaw28.ClasstestWrites'. -/
def classtestWritesCard : Claim7 := { stood := { row := classtestWritesRow, standIns := [], harness := (true, "264a494ea43ccb25202d101a2cc4dda4972bcd6def91cf525e13ed7af7649a26"), looks := false }, kinds := [], alts := [], laidByText := true, laidKinds := [.data, .data, .data, .data, .pinned], laidTests := true, laidLooks := .later }
def ClasstestWritesCardSaid : Prop := Claim7.holds Tryz.pinned (.plain (OpenSpec.ofChange classtestWritesSpec)) classtestWritesCard

/-- THE SECOND FORM's CARD OF 'furrowlaw28.ClasstestWrites'. -/
def classtestWritesUptoCard : Claim7 := { stood := { row := classtestWritesUptoRow, standIns := [], harness := (true, "264a494ea43ccb25202d101a2cc4dda4972bcd6def91cf525e13ed7af7649a26"), looks := false }, kinds := [], alts := [], laidByText := true, laidKinds := [.data, .data, .data, .data, .pinned], laidTests := true, laidLooks := .later }
def ClasstestWritesUptoCardSaid : Prop := Claim7.holds Tryz.pinned (.plain (OpenSpec.upto classtestWritesSpec)) classtestWritesUptoCard
end Rows
end Go.Proofs.YtddmghinkmdmfaaGreatDoor
