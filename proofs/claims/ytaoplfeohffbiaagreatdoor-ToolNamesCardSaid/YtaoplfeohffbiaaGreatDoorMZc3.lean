/- A part of the proof. -/
import Derived.Test.YtaoplfeohffbiaaGreatDoorMP

/-! Zc3 -/
namespace Go.Proofs.YtaoplfeohffbiaaGreatDoor.Sx
set_option linter.unusedSimpArgs false
set_option linter.unusedVariables false
set_option linter.unusedSectionVars false
set_option maxRecDepth 100000
theorem ck3 : (List.range' 600 260).all (cheapT Tryz.prog) = true := by kernel_rfl
end Go.Proofs.YtaoplfeohffbiaaGreatDoor.Sx
