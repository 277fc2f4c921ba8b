/- A part of the proof. -/
import Derived.Test.YtaoplfeohffbiaaGreatDoorMP
import Derived.LaidOnce
import Derived.SevenTiedAt
import Derived.KernelRfl

/-! A closed fact of the tie. -/
namespace Go.Proofs.YtaoplfeohffbiaaGreatDoor.Tied
set_option linter.unusedSimpArgs false
set_option linter.unusedVariables false
set_option linter.unusedSectionVars false
open Go
set_option maxRecDepth 100000

theorem a3 : Tryz.prog.worded rootWordLater = true := by kernel_rfl
theorem a4 : L1.map (fun x => Tryz.prog.kindOfLater x.1) = K1.map some := by kernel_rfl

end Go.Proofs.YtaoplfeohffbiaaGreatDoor.Tied
