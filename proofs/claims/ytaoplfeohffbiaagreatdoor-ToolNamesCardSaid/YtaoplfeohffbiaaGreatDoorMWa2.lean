/- A part of the proof. -/
import Derived.Test.YtaoplfeohffbiaaGreatDoorMWa0
import Derived.Test.YtaoplfeohffbiaaGreatDoorRows
import Derived.Test.YtaoplfeohffbiaaGreatDoorCards
import Derived.Test.YtaoplfeohffbiaaGreatDoorMP
import Derived.KernelRfl

/-! Closed facts of the cards. -/
namespace Go.Proofs.YtaoplfeohffbiaaGreatDoor.ToolNames
set_option linter.unusedSimpArgs false
set_option linter.unusedVariables false
set_option linter.unusedSectionVars false
open Go.ChangeShapes Go.WideShapes Go.ChangeAt Go.RowKit Go.Proofs.YtaoplfeohffbiaaGreatDoor.Sx
set_option maxRecDepth 100000

theorem ip2 : (C2.filterMap (fun g => (Tryz.prog.funcs[g]?).bind fun fn => if fn.ours || fn.body.isNone || fn.name == "runtime.NumGoroutine" then some fn.name else none) == Rows.toolNamesRow.inPlace.drop 12) = true := by kernel_rfl

end Go.Proofs.YtaoplfeohffbiaaGreatDoor.ToolNames
