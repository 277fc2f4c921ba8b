/- The law ImageNames. -/
import Derived.Test.YtdepbfgnmliggaaGreatDoorIb
namespace Go.Proofs.YtdepbfgnmliggaaGreatDoor.Sx
attribute [local irreducible] OkQ Ok
set_option linter.unusedSimpArgs false
set_option linter.unusedVariables false
theorem bIIc17 : bodyI Tryz.prog 17 = bodyF Tryz.f17 := by kernel_rfl
theorem bIIc8 : bodyI Tryz.prog 8 = bodyF Tryz.f8 := by kernel_rfl
theorem bIIc19 : bodyI Tryz.prog 19 = bodyF Tryz.f19 := by kernel_rfl
theorem bIIc36 : bodyI Tryz.prog 36 = bodyF Tryz.f36 := by kernel_rfl
theorem bIIc20 : bodyI Tryz.prog 20 = bodyF Tryz.f20 := by kernel_rfl
theorem bIIc68 : bodyI Tryz.prog 68 = bodyF Tryz.f68 := by kernel_rfl
set_option maxRecDepth 40000

def lives13 : Con := ⟨7, [], [(false, .bool)], fun _ => True, fun _ => (true, ()), false⟩
set_option maxHeartbeats 4000000 in
theorem lives13_ok : lives13.Ok Tryz.prog := by
  refine con_q Tryz.func7 rfl (by decide) (fun x hx hp => run_ok (Cs := [sumsOpen]) (stp := []) (inl := [8, 20, 19, 17, 36, 68]) (unr := false) (cons_ok sumsOpen_ok nil_ok) 400 _ _ _ _ ?_) (by decide)
  have e1 : openE [] = 120 := by decide +kernel
  have e2 : openE [70, 85, 82, 82, 79, 87, 1, 0] = 121 := by decide +kernel
  have e3 : openS [] = [] := by decide +kernel
  have e4 : openS [70, 85, 82, 82, 79, 87, 1, 0] = [] := by decide +kernel
  simp (maxSteps := 4000000) only [go_sem, reduceIte, reduceCtorEq, Int.reduceEq, Nat.reduceEqDiff, Nat.reduceBEq, Int.reduceLE, Int.reduceLT, Int.reduceNeg, Nat.reduceAdd, Nat.reduceSub, Nat.reduceMul, Nat.reduceLeDiff, Int.reduceToNat, Int.reduceAdd, Int.reduceSub, Int.reduceMul, Tryz.f7, lives13, e1, e2, e3, e4, bIIc8, Tryz.f8, bIIc20, Tryz.f20, bIIc19, Tryz.f19, bIIc17, Tryz.f17, bIIc36, Tryz.f36, bIIc68, Tryz.f68, sumsOpen]
  (repeat' (first | (apply And.intro) | (intro _) | (show staB _ _ = true; kernel_rfl) | (show dynB _ _ = true; kernel_rfl) | (show dynP _ _ _ = true; kernel_rfl)))
  all_goals first | omega | fail

end Go.Proofs.YtdepbfgnmliggaaGreatDoor.Sx
