/- The law ImageNames, as a contract. -/
import Derived.Test.YtdepbfgnmliggaaGreatDoorIc
namespace Go.Proofs.YtdepbfgnmliggaaGreatDoor.Sx
attribute [local irreducible] OkQ Ok
set_option linter.unusedSimpArgs false
set_option linter.unusedVariables false

def lawImageNames : Con := ⟨3, [], [(false, .bool)], (tyL []).small, fun _ => (true, ()), false⟩
theorem lawImageNames_ok : lawImageNames.Ok Tryz.prog := by
  refine con_q Tryz.func3 rfl (by decide) (fun x hx hp => run_ok (Cs := [lives13]) (stp := []) (inl := []) (unr := false) (cons_ok lives13_ok nil_ok) 400 _ _ _ _ ?_) (by decide)
  simp (maxSteps := 4000000) only [go_sem, reduceIte, reduceCtorEq, Int.reduceEq, Nat.reduceEqDiff, Nat.reduceBEq, Int.reduceLE, Int.reduceLT, Int.reduceNeg, Nat.reduceAdd, Nat.reduceSub, Nat.reduceMul, Nat.reduceLeDiff, Int.reduceToNat, Int.reduceAdd, Int.reduceSub, Int.reduceMul, Tryz.f3, lawImageNames, lives13]

end Go.Proofs.YtdepbfgnmliggaaGreatDoor.Sx
