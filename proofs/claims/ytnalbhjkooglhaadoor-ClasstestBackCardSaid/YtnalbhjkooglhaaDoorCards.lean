/-
  DERIVED. GIVEN WITH THE SEED: THE CARDS: each row of YtnalbhjkooglhaaDoorRows.lean that lists a variable, with what it lists TIED to the program's text (the seventh form; the later family's looks); each row that meets fmt, with fmt's text TOLD by the authors' own Lean function (tested against real Go, not proved from fmt's source: count such statements apart). THE CARD IS WHAT COUNTS. Prove the row's statement (the work); the ties are given (YtnalbhjkooglhaaDoorTie.lean); close each card by the builder's one call (the guide's Derived/Test/ToyasCard.lean, 'card_holds'). Laid BY PROGRAM, IN A SANDBOX (cutbox-door.mjs). By AI agents, Wed Nov 11 2026. No macro, syntax, notation, axiom, sorry.
-/
import Derived.Test.YtnalbhjkooglhaaDoorRows
import GoSem.ClaimSeven
namespace Go.Proofs.YtnalbhjkooglhaaDoor
namespace Rows

/-- THE TIED CARD OF 'furrowlaw28.ClasstestBack'. -/
def classtestBackCard : Claim7 := { stood := { row := classtestBackRow, standIns := [], harness := (true, "e83b05c8a80d00e7d38a8558ecabe5c0b120dbcb16ea098f1fd626680e5ccbdc"), looks := false }, kinds := [], alts := [], laidByText := true, laidKinds := [.data, .data, .data, .data, .pinned], laidTests := true, laidLooks := .later }
def ClasstestBackCardSaid : Prop := Claim7.holds Tryd.pinned (.plain (OpenSpec.ofChange classtestBackSpec)) classtestBackCard

/-- THE SECOND FORM's CARD OF 'furrowlaw28.ClasstestBack'. -/
def classtestBackUptoCard : Claim7 := { stood := { row := classtestBackUptoRow, standIns := [], harness := (true, "e83b05c8a80d00e7d38a8558ecabe5c0b120dbcb16ea098f1fd626680e5ccbdc"), looks := false }, kinds := [], alts := [], laidByText := true, laidKinds := [.data, .data, .data, .data, .pinned], laidTests := true, laidLooks := .later }
def ClasstestBackUptoCardSaid : Prop := Claim7.holds Tryd.pinned (.plain (OpenSpec.upto classtestBackSpec)) classtestBackUptoCard
end Rows
end Go.Proofs.YtnalbhjkooglhaaDoor
