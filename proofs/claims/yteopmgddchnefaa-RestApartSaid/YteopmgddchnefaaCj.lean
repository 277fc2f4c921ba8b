/- Contracts: awake. -/
import Derived.Test.YteopmgddchnefaaCi
namespace Go.Proofs.Yteopmgddchnefaa.Sx
attribute [local irreducible] OkQ Ok
set_option linter.unusedSimpArgs false
set_option linter.unusedVariables false
set_option maxRecDepth 8000

def awake20 : Con := ⟨24, [], [(false, .bool)], fun _ => True, fun _ => (true, ()), false⟩

theorem awake20_ok : awake20.Ok Try.prog := by
  refine con_q Try.func24 rfl (by decide) (fun x hx hp => run_ok (Cs := [restResolve, restLevels, restNeutral]) (stp := []) (inl := []) (unr := false) (cons_ok restResolve_ok (cons_ok restLevels_ok (cons_ok restNeutral_ok nil_ok))) 400 _ _ _ _ ?_) (by decide)
  simp (maxSteps := 4000000) only [go_sem, reduceIte, reduceCtorEq, Int.reduceEq, Nat.reduceEqDiff, Nat.reduceBEq, Int.reduceLE, Int.reduceLT, Int.reduceNeg, Nat.reduceAdd, Nat.reduceSub, Nat.reduceMul, Nat.reduceLeDiff, Int.reduceToNat, Int.reduceAdd, Int.reduceSub, Int.reduceMul, Try.f24, awake20, restResolve, restLevels, restNeutral]
  clear hx hp
  refine fun _ _ _ => ?_
  (repeat' (first | (apply And.intro) | (intro _) | (show staB _ _ = true; kernel_rfl) | (show dynB _ _ = true; kernel_rfl)))
  all_goals clear x
  all_goals decide +kernel

end Go.Proofs.Yteopmgddchnefaa.Sx
