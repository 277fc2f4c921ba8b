/- A part of the proof. -/
import Derived.Test.YtaoplfeohffbiaaGreatDoorMP
import Derived.LaidOnce
import Derived.SevenTiedAt
import Derived.KernelRfl

/-! A closed fact of the tie. -/
namespace Go.Proofs.YtaoplfeohffbiaaGreatDoor.Tied
set_option linter.unusedSimpArgs false
set_option linter.unusedVariables false
set_option linter.unusedSectionVars false
open Go
set_option maxRecDepth 100000

theorem a7 : ∀ os tape, doorLeaves Tryz.prog 79 8 65 L1 os tape = some (L1.filter fun x => x.2.handleName?.isNone, (funcsListed L1).map (·.2.funcsOut)) := fun _ _ => by kernel_rfl

end Go.Proofs.YtaoplfeohffbiaaGreatDoor.Tied
