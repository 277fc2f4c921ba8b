/- A part of the proof. -/
import Derived.Test.YthopfpplnclanaaGreatDoorW6
import Derived.Test.YthopfpplnclanaaGreatDoorW0
import Derived.Test.YthopfpplnclanaaGreatDoorW1
import Derived.Test.YthopfpplnclanaaGreatDoorW2
import Derived.Test.YthopfpplnclanaaGreatDoorW3
import Derived.Test.YthopfpplnclanaaGreatDoorW4
import Derived.Test.YthopfpplnclanaaGreatDoorW5
namespace Go.Proofs.YthopfpplnclanaaGreatDoor.Sx
attribute [local irreducible] OkQ Ok
set_option linter.unusedSimpArgs false
set_option linter.unusedVariables false
set_option maxRecDepth 100000
instance hits:Hits Tryz.prog:=⟨show HitP Tryz.prog from fun f tF tT h=>by cases h⟩
def lives28:Con:=closed 4
theorem lives28_ok:lives28.Ok Tryz.prog:=
 closed_ok (Ds:=[]) (inl:=List.range 400) (n:=30000) Tryz.func4 rfl (by decide) nil_ok (by kernel_rfl)
end Go.Proofs.YthopfpplnclanaaGreatDoor.Sx
