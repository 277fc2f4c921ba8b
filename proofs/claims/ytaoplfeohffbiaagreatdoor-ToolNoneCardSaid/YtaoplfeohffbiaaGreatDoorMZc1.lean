/- A part of the proof. -/
import Derived.Test.YtaoplfeohffbiaaGreatDoorMP

/-! Zc1 -/
namespace Go.Proofs.YtaoplfeohffbiaaGreatDoor.Sx
set_option linter.unusedSimpArgs false
set_option linter.unusedVariables false
set_option linter.unusedSectionVars false
set_option maxRecDepth 100000
theorem ck1 : (List.range' 0 300).all (cheapT Tryz.prog) = true := by kernel_rfl
end Go.Proofs.YtaoplfeohffbiaaGreatDoor.Sx
