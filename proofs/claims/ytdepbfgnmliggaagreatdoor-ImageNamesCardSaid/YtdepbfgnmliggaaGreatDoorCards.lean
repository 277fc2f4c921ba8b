/-
  DERIVED. GIVEN WITH THE SEED: THE CARDS: each row of YtdepbfgnmliggaaGreatDoorRows.lean that lists a variable, with what it lists TIED to the program's text (the seventh form; the later family's looks); each row that meets fmt, with fmt's text TOLD by the authors' own Lean function (tested against real Go, not proved from fmt's source: count such statements apart). THE CARD IS WHAT COUNTS. Prove the row's statement (the work); the ties are given (YtdepbfgnmliggaaGreatDoorTie.lean); close each card by the builder's one call (the guide's Derived/Test/ToyasCard.lean, 'card_holds'). Laid BY PROGRAM, IN A SANDBOX (cutbox-door.mjs). By AI agents, Wed Nov 11 2026. No macro, syntax, notation, axiom, sorry.
-/
import Derived.Test.YtdepbfgnmliggaaGreatDoorRows
import GoSem.ClaimSeven
namespace Go.Proofs.YtdepbfgnmliggaaGreatDoor
namespace Rows

/-- THE TIED CARD OF 'furrowlaw13.ImageNames'. -/
def imageNamesCard : Claim7 := { stood := { row := imageNamesRow, standIns := [], harness := (true, "a5d157f8a17c8be8810959eae20b76684bd27512f17f8157409e923f23bf606d"), looks := true }, kinds := [], alts := [], laidByText := true, laidKinds := [.handle], laidTests := true, laidLooks := .later }
def ImageNamesCardSaid : Prop := Claim7.holds Tryz.pinned (.plain (OpenSpec.ofChange imageNamesSpec)) imageNamesCard

/-- THE TIED CARD OF 'furrowlaw13.ImageLoads'. -/
def imageLoadsCard : Claim7 := { stood := { row := imageLoadsRow, standIns := [], harness := (true, "a5d157f8a17c8be8810959eae20b76684bd27512f17f8157409e923f23bf606d"), looks := true }, kinds := [], alts := [], laidByText := true, laidKinds := [.handle], laidTests := true, laidLooks := .later }
def ImageLoadsCardSaid : Prop := Claim7.holds Tryz.pinned (.plain (OpenSpec.ofChange imageLoadsSpec)) imageLoadsCard

/-- THE TIED CARD OF 'furrowlaw13.ImageSaves'. -/
def imageSavesCard : Claim7 := { stood := { row := imageSavesRow, standIns := [], harness := (true, "a5d157f8a17c8be8810959eae20b76684bd27512f17f8157409e923f23bf606d"), looks := true }, kinds := [], alts := [], laidByText := true, laidKinds := [.handle], laidTests := true, laidLooks := .later }
def ImageSavesCardSaid : Prop := Claim7.holds Tryz.pinned (.plain (OpenSpec.ofChange imageSavesSpec)) imageSavesCard

/-- THE TIED CARD OF 'furrowlaw13.ImageForm'. -/
def imageFormCard : Claim7 := { stood := { row := imageFormRow, standIns := [], harness := (true, "a5d157f8a17c8be8810959eae20b76684bd27512f17f8157409e923f23bf606d"), looks := true }, kinds := [], alts := [], laidByText := true, laidKinds := [.handle], laidTests := true, laidLooks := .later }
def ImageFormCardSaid : Prop := Claim7.holds Tryz.pinned (.plain (OpenSpec.ofChange imageFormSpec)) imageFormCard

/-- THE SECOND FORM's CARD OF 'furrowlaw13.ImageNames'. -/
def imageNamesUptoCard : Claim7 := { stood := { row := imageNamesUptoRow, standIns := [], harness := (true, "a5d157f8a17c8be8810959eae20b76684bd27512f17f8157409e923f23bf606d"), looks := true }, kinds := [], alts := [], laidByText := true, laidKinds := [.handle], laidTests := true, laidLooks := .later }
def ImageNamesUptoCardSaid : Prop := Claim7.holds Tryz.pinned (.plain (OpenSpec.upto imageNamesSpec)) imageNamesUptoCard

/-- THE SECOND FORM's CARD OF 'furrowlaw13.ImageLoads'. -/
def imageLoadsUptoCard : Claim7 := { stood := { row := imageLoadsUptoRow, standIns := [], harness := (true, "a5d157f8a17c8be8810959eae20b76684bd27512f17f8157409e923f23bf606d"), looks := true }, kinds := [], alts := [], laidByText := true, laidKinds := [.handle], laidTests := true, laidLooks := .later }
def ImageLoadsUptoCardSaid : Prop := Claim7.holds Tryz.pinned (.plain (OpenSpec.upto imageLoadsSpec)) imageLoadsUptoCard

/-- THE SECOND FORM's CARD OF 'furrowlaw13.ImageSaves'. -/
def imageSavesUptoCard : Claim7 := { stood := { row := imageSavesUptoRow, standIns := [], harness := (true, "a5d157f8a17c8be8810959eae20b76684bd27512f17f8157409e923f23bf606d"), looks := true }, kinds := [], alts := [], laidByText := true, laidKinds := [.handle], laidTests := true, laidLooks := .later }
def ImageSavesUptoCardSaid : Prop := Claim7.holds Tryz.pinned (.plain (OpenSpec.upto imageSavesSpec)) imageSavesUptoCard

/-- THE SECOND FORM's CARD OF 'furrowlaw13.ImageForm'. -/
def imageFormUptoCard : Claim7 := { stood := { row := imageFormUptoRow, standIns := [], harness := (true, "a5d157f8a17c8be8810959eae20b76684bd27512f17f8157409e923f23bf606d"), looks := true }, kinds := [], alts := [], laidByText := true, laidKinds := [.handle], laidTests := true, laidLooks := .later }
def ImageFormUptoCardSaid : Prop := Claim7.holds Tryz.pinned (.plain (OpenSpec.upto imageFormSpec)) imageFormUptoCard
end Rows
end Go.Proofs.YtdepbfgnmliggaaGreatDoor
