/- The law RestKnown. -/
import Derived.Test.YteopmgddchnefaaCj
namespace Go.Proofs.Yteopmgddchnefaa.Sx
attribute [local irreducible] OkQ Ok
set_option linter.unusedSimpArgs false
set_option linter.unusedVariables false
theorem bICm34 : bodyI Try.prog 34 = bodyF Try.f34 := by kernel_rfl
set_option maxRecDepth 20000

def lawRestKnown : Con := ⟨7, [], [(false, .bool)], (tyL []).small, fun _ => (true, ())⟩

set_option maxHeartbeats 4000000 in
theorem lawRestKnown_ok : lawRestKnown.Ok Try.prog := by
  refine con_q Try.func7 rfl (by decide) (fun x hx hp => run_ok (Cs := [restResolve, restLevels, restLevel, awake20]) (stp := []) (inl := [34]) (unr := true) (cons_ok restResolve_ok (cons_ok restLevels_ok (cons_ok restLevel_ok (cons_ok awake20_ok nil_ok)))) 30 _ _ _ _ ?_) (by decide)
  simp (maxSteps := 4000000) only [go_sem, reduceIte, reduceCtorEq, Int.reduceEq, Nat.reduceEqDiff, Nat.reduceBEq, Int.reduceLE, Int.reduceLT, Int.reduceNeg, Nat.reduceAdd, Nat.reduceSub, Nat.reduceMul, Nat.reduceLeDiff, Int.reduceToNat, Int.reduceAdd, Int.reduceSub, Int.reduceMul, Try.f7, lawRestKnown, bICm34, Try.f34, wr_lit, Int.cast_ofNat_Int, restResolve, restLevels, restLevel, awake20]
  clear hx hp
  (repeat' (first | (apply And.intro) | (intro _) | (show staB _ _ = true; kernel_rfl) | (show dynB _ _ = true; kernel_rfl)))
  all_goals try omega
  all_goals try (decide +kernel)
  iterate 30 (
    all_goals try (
      refine run_ok (Cs := [restResolve, restLevels, restLevel, awake20]) (stp := []) (inl := [34]) (unr := true) (cons_ok restResolve_ok (cons_ok restLevels_ok (cons_ok restLevel_ok (cons_ok awake20_ok nil_ok)))) 60 _ _ _ _ ?_
      simp (maxSteps := 4000000) only [go_sem, reduceIte, reduceCtorEq, Int.reduceEq, Nat.reduceEqDiff, Nat.reduceBEq, Int.reduceLE, Int.reduceLT, Int.reduceNeg, Nat.reduceAdd, Nat.reduceSub, Nat.reduceMul, Nat.reduceLeDiff, Int.reduceToNat, Int.reduceAdd, Int.reduceSub, Int.reduceMul, bICm34, Try.f34, wr_lit, Int.cast_ofNat_Int, restResolve, restLevels, restLevel, awake20]
      (repeat' (first | (apply And.intro) | (intro _) | (show staB _ _ = true; kernel_rfl) | (show dynB _ _ = true; kernel_rfl))))
    all_goals try omega
    all_goals try (decide +kernel))
  rename_i h
  exact absurd h (by decide +kernel)

end Go.Proofs.Yteopmgddchnefaa.Sx
