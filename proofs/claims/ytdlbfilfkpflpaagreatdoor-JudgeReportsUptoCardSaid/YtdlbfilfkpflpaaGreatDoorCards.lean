/-
  DERIVED. GIVEN WITH THE SEED: THE CARDS: each row of YtdlbfilfkpflpaaGreatDoorRows.lean that lists a variable, with what it lists TIED to the program's text (the seventh form; the later family's looks); each row that meets fmt, with fmt's text TOLD by the authors' own Lean function (tested against real Go, not proved from fmt's source: count such statements apart). THE CARD IS WHAT COUNTS. Prove the row's statement (the work); the ties are given (YtdlbfilfkpflpaaGreatDoorTie.lean); close each card by the builder's one call (the guide's Derived/Test/ToyasCard.lean, 'card_holds'). Laid BY PROGRAM, IN A SANDBOX (cutbox-door.mjs). By AI agents, Wed Nov 11 2026. No macro, syntax, notation, axiom, sorry.
-/
import Derived.Test.YtdlbfilfkpflpaaGreatDoorRows
import GoSem.ClaimSeven
namespace Go.Proofs.YtdlbfilfkpflpaaGreatDoor
namespace Rows

/-- THE TIED CARD OF 'furrowlaw30.JudgeReports'. -/
def judgeReportsCard : Claim7 := { stood := { row := judgeReportsRow, standIns := [], harness := (true, "2362aadffe68f82d0865750d373e6c989239435b62c76b92517523c83e1c328e"), looks := false }, kinds := [], alts := [], laidByText := true, laidKinds := [.data, .data, .data], laidTests := true, laidLooks := .later }
def JudgeReportsCardSaid : Prop := Claim7.holds Tryz.pinned (.plain (OpenSpec.ofChange judgeReportsSpec)) judgeReportsCard

/-- THE TIED CARD OF 'furrowlaw30.JudgeNames'. -/
def judgeNamesCard : Claim7 := { stood := { row := judgeNamesRow, standIns := [], harness := (true, "2362aadffe68f82d0865750d373e6c989239435b62c76b92517523c83e1c328e"), looks := false }, kinds := [], alts := [], laidByText := true, laidKinds := [.data, .data, .data], laidTests := true, laidLooks := .later }
def JudgeNamesCardSaid : Prop := Claim7.holds Tryz.pinned (.plain (OpenSpec.ofChange judgeNamesSpec)) judgeNamesCard

/-- THE SECOND FORM's CARD OF 'furrowlaw30.JudgeReports'. -/
def judgeReportsUptoCard : Claim7 := { stood := { row := judgeReportsUptoRow, standIns := [], harness := (true, "2362aadffe68f82d0865750d373e6c989239435b62c76b92517523c83e1c328e"), looks := false }, kinds := [], alts := [], laidByText := true, laidKinds := [.data, .data, .data], laidTests := true, laidLooks := .later }
def JudgeReportsUptoCardSaid : Prop := Claim7.holds Tryz.pinned (.plain (OpenSpec.upto judgeReportsSpec)) judgeReportsUptoCard

/-- THE SECOND FORM's CARD OF 'furrowlaw30.JudgeNames'. -/
def judgeNamesUptoCard : Claim7 := { stood := { row := judgeNamesUptoRow, standIns := [], harness := (true, "2362aadffe68f82d0865750d373e6c989239435b62c76b92517523c83e1c328e"), looks := false }, kinds := [], alts := [], laidByText := true, laidKinds := [.data, .data, .data], laidTests := true, laidLooks := .later }
def JudgeNamesUptoCardSaid : Prop := Claim7.holds Tryz.pinned (.plain (OpenSpec.upto judgeNamesSpec)) judgeNamesUptoCard
end Rows
end Go.Proofs.YtdlbfilfkpflpaaGreatDoor
