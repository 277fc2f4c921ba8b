/- A part of the proof. -/
import Derived.Test.YtaoplfeohffbiaaGreatDoorMWa0
import Derived.Test.YtaoplfeohffbiaaGreatDoorMUn
import Derived.Test.YtaoplfeohffbiaaGreatDoorMP
import Derived.KernelRfl

/-! Closed facts of the cards. -/
namespace Go.Proofs.YtaoplfeohffbiaaGreatDoor.ToolNames
set_option linter.unusedSimpArgs false
set_option linter.unusedVariables false
set_option linter.unusedSectionVars false
open Go.ChangeShapes Go.WideShapes Go.ChangeAt Go.RowKit Go.Proofs.YtaoplfeohffbiaaGreatDoor.Sx
set_option maxRecDepth 100000

attribute [local irreducible] Card.cloR Program.closure Card.fuelOf
theorem clo : Tryz.prog.closure 4 = C1 ++ C2 := @Card.closure_is Tryz.prog 4 1300 (C1 ++ C2) cloR_is Card.fuelFits

end Go.Proofs.YtaoplfeohffbiaaGreatDoor.ToolNames
