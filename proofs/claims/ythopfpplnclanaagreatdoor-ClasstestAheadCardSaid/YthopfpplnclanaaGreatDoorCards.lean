/-
  DERIVED. GIVEN WITH THE SEED: THE CARDS: each row of YthopfpplnclanaaGreatDoorRows.lean that lists a variable, with what it lists TIED to the program's text (the seventh form; the later family's looks); each row that meets fmt, with fmt's text TOLD by the authors' own Lean function (tested against real Go, not proved from fmt's source: count such statements apart). THE CARD IS WHAT COUNTS. Prove the row's statement (the work); the ties are given (YthopfpplnclanaaGreatDoorTie.lean); close each card by the builder's one call (the guide's Derived/Test/ToyasCard.lean, 'card_holds'). Laid BY PROGRAM, IN A SANDBOX (cutbox-door.mjs). By AI agents, Wed Nov 11 2026. No macro, syntax, notation, axiom, sorry.
-/
import Derived.Test.YthopfpplnclanaaGreatDoorRows
import GoSem.ClaimSeven
namespace Go.Proofs.YthopfpplnclanaaGreatDoor
namespace Rows

/-- THE TIED CARD OF 'furrowlaw28.ClasstestAhead'. -/
def classtestAheadCard : Claim7 := { stood := { row := classtestAheadRow, standIns := [], harness := (true, "8b8c5f24f2a2cbcad840e23a0f65855a9db9d343a4272aac3aedfa29a82e3a08"), looks := false }, kinds := [], alts := [], laidByText := true, laidKinds := [.data, .data, .data, .data, .pinned], laidTests := true, laidLooks := .later }
def ClasstestAheadCardSaid : Prop := Claim7.holds Tryz.pinned (.plain (OpenSpec.ofChange classtestAheadSpec)) classtestAheadCard

/-- THE SECOND FORM's CARD OF 'furrowlaw28.ClasstestAhead'. -/
def classtestAheadUptoCard : Claim7 := { stood := { row := classtestAheadUptoRow, standIns := [], harness := (true, "8b8c5f24f2a2cbcad840e23a0f65855a9db9d343a4272aac3aedfa29a82e3a08"), looks := false }, kinds := [], alts := [], laidByText := true, laidKinds := [.data, .data, .data, .data, .pinned], laidTests := true, laidLooks := .later }
def ClasstestAheadUptoCardSaid : Prop := Claim7.holds Tryz.pinned (.plain (OpenSpec.upto classtestAheadSpec)) classtestAheadUptoCard
end Rows
end Go.Proofs.YthopfpplnclanaaGreatDoor
