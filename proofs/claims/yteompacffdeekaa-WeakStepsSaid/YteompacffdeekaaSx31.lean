/- What is known is told anew. -/
import Derived.Test.YteompacffdeekaaSx30
namespace Go.Proofs.Yteompacffdeekaa.Sx
set_option linter.unusedSimpArgs false
set_option linter.unusedVariables false

/-- What is known is told anew: slots forgotten or told otherwise, objects renamed. -/
theorem OkQ.reset {P : Program} {kp : List Nat} {Q : St → Prop} (W : List Nat) (U : List (Nat × SV)) (H : List (Nat × Ob)) (m : Nat) {k : List It} {fr : List SV} {hp : List (Nat × Ob)} {nx : Nat}
    (h1 : SubQ kp ⟨fr, hp, nx⟩ ⟨upds (forget fr W) U, uos hp H, m⟩) (h : OkQ P kp Q k ⟨upds (forget fr W) U, uos hp H, m⟩) : OkQ P kp Q k ⟨fr, hp, nx⟩ := OkQ.sub h1 h

end Go.Proofs.Yteompacffdeekaa.Sx
