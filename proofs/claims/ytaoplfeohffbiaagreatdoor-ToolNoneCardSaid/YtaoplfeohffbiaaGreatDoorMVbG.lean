/- A part of the proof. -/
import Derived.Test.YtaoplfeohffbiaaGreatDoorRows
import Derived.Test.YtaoplfeohffbiaaGreatDoorCards
import Derived.Test.YtaoplfeohffbiaaGreatDoorMP
import Derived.KernelRfl

/-! Closed facts of the cards. -/
namespace Go.Proofs.YtaoplfeohffbiaaGreatDoor.ToolNone
set_option linter.unusedSimpArgs false
set_option linter.unusedVariables false
set_option linter.unusedSectionVars false
open Go.ChangeShapes Go.WideShapes Go.ChangeAt Go.RowKit Go.Proofs.YtaoplfeohffbiaaGreatDoor.Sx
set_option maxRecDepth 100000

theorem j23 : ((Rows.toolNoneRow.plainKeys == Tryz.pinned.checked.prog.plainKeys)) = true := by kernel_rfl
theorem j24 : (Rows.toolNoneRow.shortTexts.isNone) = true := by kernel_rfl
theorem j25 : (Tryz.pinned.checked.prog.stopsHeard) = true := by kernel_rfl
theorem j26 : (Tryz.pinned.checked.prog.mayEnter) = true := by kernel_rfl

end Go.Proofs.YtaoplfeohffbiaaGreatDoor.ToolNone
