/-
  DERIVED. GIVEN WITH THE SEED: THE CARDS: each row of YtmocbbodbpedmaaDoorRows.lean that lists a variable, with what it lists TIED to the program's text (the seventh form; the later family's looks); each row that meets fmt, with fmt's text TOLD by the authors' own Lean function (tested against real Go, not proved from fmt's source: count such statements apart). THE CARD IS WHAT COUNTS. Prove the row's statement (the work); the ties are given (YtmocbbodbpedmaaDoorTie.lean); close each card by the builder's one call (the guide's Derived/Test/ToyasCard.lean, 'card_holds'). Laid BY PROGRAM, IN A SANDBOX (cutbox-door.mjs). By AI agents, Wed Nov 11 2026. No macro, syntax, notation, axiom, sorry.
-/
import Derived.Test.YtmocbbodbpedmaaDoorRows
import GoSem.ClaimSeven
namespace Go.Proofs.YtmocbbodbpedmaaDoor
namespace Rows

/-- THE TIED CARD OF 'furrowlaw28.ClasstestNames'. -/
def classtestNamesCard : Claim7 := { stood := { row := classtestNamesRow, standIns := [], harness := (true, "0d1622e37dd349a01ad3c31d2a5484bc5a9e1e77104c18c960eebab96aa9c913"), looks := false }, kinds := [], alts := [], laidByText := true, laidKinds := [.data, .data, .data, .data, .pinned], laidTests := true, laidLooks := .later }
def ClasstestNamesCardSaid : Prop := Claim7.holds Tryd.pinned (.plain (OpenSpec.ofChange classtestNamesSpec)) classtestNamesCard

/-- THE TIED CARD OF 'furrowlaw28.ClasstestBack'. -/
def classtestBackCard : Claim7 := { stood := { row := classtestBackRow, standIns := [], harness := (true, "0d1622e37dd349a01ad3c31d2a5484bc5a9e1e77104c18c960eebab96aa9c913"), looks := false }, kinds := [], alts := [], laidByText := true, laidKinds := [.data, .data, .data, .data, .pinned], laidTests := true, laidLooks := .later }
def ClasstestBackCardSaid : Prop := Claim7.holds Tryd.pinned (.plain (OpenSpec.ofChange classtestBackSpec)) classtestBackCard

/-- THE SECOND FORM's CARD OF 'furrowlaw28.ClasstestNames'. -/
def classtestNamesUptoCard : Claim7 := { stood := { row := classtestNamesUptoRow, standIns := [], harness := (true, "0d1622e37dd349a01ad3c31d2a5484bc5a9e1e77104c18c960eebab96aa9c913"), looks := false }, kinds := [], alts := [], laidByText := true, laidKinds := [.data, .data, .data, .data, .pinned], laidTests := true, laidLooks := .later }
def ClasstestNamesUptoCardSaid : Prop := Claim7.holds Tryd.pinned (.plain (OpenSpec.upto classtestNamesSpec)) classtestNamesUptoCard

/-- THE SECOND FORM's CARD OF 'furrowlaw28.ClasstestBack'. -/
def classtestBackUptoCard : Claim7 := { stood := { row := classtestBackUptoRow, standIns := [], harness := (true, "0d1622e37dd349a01ad3c31d2a5484bc5a9e1e77104c18c960eebab96aa9c913"), looks := false }, kinds := [], alts := [], laidByText := true, laidKinds := [.data, .data, .data, .data, .pinned], laidTests := true, laidLooks := .later }
def ClasstestBackUptoCardSaid : Prop := Claim7.holds Tryd.pinned (.plain (OpenSpec.upto classtestBackSpec)) classtestBackUptoCard
end Rows
end Go.Proofs.YtmocbbodbpedmaaDoor
