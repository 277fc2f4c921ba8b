/- A part of the proof. -/
import Derived.Test.YtaoplfeohffbiaaGreatDoorMWa3
import Derived.Test.YtaoplfeohffbiaaGreatDoorRows
import Derived.Test.YtaoplfeohffbiaaGreatDoorCards
import Derived.Test.YtaoplfeohffbiaaGreatDoorMP
import Derived.KernelRfl

/-! Closed facts of the cards. -/
namespace Go.Proofs.YtaoplfeohffbiaaGreatDoor.ToolNames
set_option linter.unusedSimpArgs false
set_option linter.unusedVariables false
set_option linter.unusedSectionVars false
open Go.ChangeShapes Go.WideShapes Go.ChangeAt Go.RowKit Go.Proofs.YtaoplfeohffbiaaGreatDoor.Sx
set_option maxRecDepth 100000

theorem namedList : (((((C1 ++ C2).flatMap fun g => ((Tryz.prog.funcs[g]?).bind (·.body)).elim [] Code.globalsNamed).eraseDups).filterMap (fun g => (Tryz.prog.globals[g]?).map (·.name)) ++
   (C1 ++ C2).filterMap fun g => (Tryz.prog.funcs[g]?).bind fun fn => if fn.body.isNone then entryReads.lookup fn.name else none).eraseDups == Rows.toolNamesRow.named) = true := by kernel_rfl
theorem j13 : (Rows.toolNamesRow.named == Tryz.pinned.checked.prog.varsNamed 4) = true := by
  show (Rows.toolNamesRow.named == Tryz.prog.varsNamed 4) = true
  unfold Program.varsNamed
  rw [clo, eq_of_beq namedList]
  exact beq_self_eq_true _

end Go.Proofs.YtaoplfeohffbiaaGreatDoor.ToolNames
