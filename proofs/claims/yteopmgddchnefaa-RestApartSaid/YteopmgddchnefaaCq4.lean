/- The law RestApart. -/
import Derived.Test.YteopmgddchnefaaCq2
import Derived.Test.YteopmgddchnefaaCq3
namespace Go.Proofs.Yteopmgddchnefaa.Sx
attribute [local irreducible] OkQ Ok
set_option linter.unusedSimpArgs false
set_option linter.unusedVariables false
set_option maxRecDepth 8000

theorem lawRestApart_ok : lawRestApart.Ok Try.prog := by
  refine ⟨lawApart0_ok.enters, fun S w vs x hS hr hwf hp i => ?_⟩
  by_cases hR : RsOk x.1.1 x.1.2.1 x.1.2.2.1 x.1.2.2.2.1 x.1.2.2.2.2.1
  · cases hs : apS x.1.2.1 x.2.1
    · exact lawApart1_ok.calls S w vs x hS hr hwf ⟨hp, hR, hs⟩ i
    · by_cases hc : Int.tmod x.2.1 ((x.1.2.1 : List Int).length : Int) < 0
      · exact lawApart2_ok.calls S w vs x hS hr hwf ⟨hp, hR, hs, hc⟩ i
      · exact lawApart3_ok.calls S w vs x hS hr hwf ⟨hp, hR, hs, hc⟩ i
  · exact lawApart0_ok.calls S w vs x hS hr hwf ⟨hp, hR⟩ i

end Go.Proofs.Yteopmgddchnefaa.Sx
