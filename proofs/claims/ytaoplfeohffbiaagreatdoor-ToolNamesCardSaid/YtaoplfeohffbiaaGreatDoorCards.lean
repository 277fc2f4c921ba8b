/-
  DERIVED. GIVEN WITH THE SEED: THE CARDS: each row of YtaoplfeohffbiaaGreatDoorRows.lean that lists a variable, with what it lists TIED to the program's text (the seventh form; the later family's looks); each row that meets fmt, with fmt's text TOLD by the authors' own Lean function (tested against real Go, not proved from fmt's source: count such statements apart). THE CARD IS WHAT COUNTS. Prove the row's statement (the work); the ties are given (YtaoplfeohffbiaaGreatDoorTie.lean); close each card by the builder's one call (the guide's Derived/Test/ToyasCard.lean, 'card_holds'). Laid BY PROGRAM, IN A SANDBOX (cutbox-door.mjs). By AI agents, Wed Nov 11 2026. No macro, syntax, notation, axiom, sorry.
-/
import Derived.Test.YtaoplfeohffbiaaGreatDoorRows
import GoSem.ClaimSeven
namespace Go.Proofs.YtaoplfeohffbiaaGreatDoor
namespace Rows

/-- THE TIED CARD OF 'furrowlaw31.ToolNone'. -/
def toolNoneCard : Claim7 := { stood := { row := toolNoneRow, standIns := [], harness := (true, "430f6aab87b056e55de895817a7ba6aaf2a004c59dc587151a1d15289051c871"), looks := true }, kinds := [], alts := [], laidByText := true, laidKinds := [.pinned, .data, .data, .data, .data, .sentinel, .sentinel, .handle], laidTests := true, laidLooks := .later }
def ToolNoneCardSaid : Prop := Claim7.holds Tryz.pinned (.plain (OpenSpec.ofChange toolNoneSpec)) toolNoneCard

/-- THE TIED CARD OF 'furrowlaw31.ToolNames'. -/
def toolNamesCard : Claim7 := { stood := { row := toolNamesRow, standIns := [], harness := (true, "430f6aab87b056e55de895817a7ba6aaf2a004c59dc587151a1d15289051c871"), looks := true }, kinds := [], alts := [], laidByText := true, laidKinds := [.pinned, .data, .data, .data, .data, .sentinel, .sentinel, .handle], laidTests := true, laidLooks := .later }
def ToolNamesCardSaid : Prop := Claim7.holds Tryz.pinned (.plain (OpenSpec.ofChange toolNamesSpec)) toolNamesCard

/-- THE SECOND FORM's CARD OF 'furrowlaw31.ToolNone'. -/
def toolNoneUptoCard : Claim7 := { stood := { row := toolNoneUptoRow, standIns := [], harness := (true, "430f6aab87b056e55de895817a7ba6aaf2a004c59dc587151a1d15289051c871"), looks := true }, kinds := [], alts := [], laidByText := true, laidKinds := [.pinned, .data, .data, .data, .data, .sentinel, .sentinel, .handle], laidTests := true, laidLooks := .later }
def ToolNoneUptoCardSaid : Prop := Claim7.holds Tryz.pinned (.plain (OpenSpec.upto toolNoneSpec)) toolNoneUptoCard

/-- THE SECOND FORM's CARD OF 'furrowlaw31.ToolNames'. -/
def toolNamesUptoCard : Claim7 := { stood := { row := toolNamesUptoRow, standIns := [], harness := (true, "430f6aab87b056e55de895817a7ba6aaf2a004c59dc587151a1d15289051c871"), looks := true }, kinds := [], alts := [], laidByText := true, laidKinds := [.pinned, .data, .data, .data, .data, .sentinel, .sentinel, .handle], laidTests := true, laidLooks := .later }
def ToolNamesUptoCardSaid : Prop := Claim7.holds Tryz.pinned (.plain (OpenSpec.upto toolNamesSpec)) toolNamesUptoCard
end Rows
end Go.Proofs.YtaoplfeohffbiaaGreatDoor
