/- The law RestOne. -/
import Derived.Test.YteopmgddchnefaaCj
namespace Go.Proofs.Yteopmgddchnefaa.Sx
attribute [local irreducible] OkQ Ok
set_option linter.unusedSimpArgs false
set_option linter.unusedVariables false
set_option maxRecDepth 8000

def lawRestOne : Con := ⟨3, [(false, .int .u8), (false, .int .i8)], [(false, .bool)], fun _ => True, fun _ => (true, ())⟩

theorem lawRestOne_ok : lawRestOne.Ok Try.prog := by
  refine con_q Try.func3 rfl (by decide) (fun x hx hp => run_ok (Cs := [restSide, restLevel, refLevel, restNeutral, refNeutral, refSide, awake20]) (stp := []) (inl := []) (unr := false) (cons_ok restSide_ok (cons_ok restLevel_ok (cons_ok refLevel_ok (cons_ok restNeutral_ok (cons_ok refNeutral_ok (cons_ok refSide_ok (cons_ok awake20_ok nil_ok))))))) 400 _ _ _ _ ?_) (by decide)
  obtain ⟨(c : Int), (l : Int), ⟨⟩⟩ := x
  simp (maxSteps := 4000000) only [go_sem, reduceIte, reduceCtorEq, Int.reduceEq, Nat.reduceEqDiff, Nat.reduceBEq, Int.reduceLE, Int.reduceLT, Int.reduceNeg, Nat.reduceAdd, Nat.reduceSub, Nat.reduceMul, Nat.reduceLeDiff, Try.f3, lawRestOne, restSide, restLevel, refLevel, restNeutral, refNeutral, refSide, awake20]
  intro _ _ _ _
  clear hx hp
  unfold settB sideV
  (repeat' split) <;> simp_all

end Go.Proofs.Yteopmgddchnefaa.Sx
