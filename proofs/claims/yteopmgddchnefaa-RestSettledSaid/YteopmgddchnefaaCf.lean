/- Contracts: Clone, Copy. -/
import Derived.Test.YteopmgddchnefaaCe
namespace Go.Proofs.Yteopmgddchnefaa.Sx
attribute [local irreducible] OkQ Ok
set_option linter.unusedSimpArgs false
set_option linter.unusedVariables false
set_option maxRecDepth 8000

def cloneInts : Con := ⟨72, [(false, tInts)], [(false, tInts)], fun _ => True, fun x => (x.1, ()), false⟩
def cloneClasses : Con := ⟨71, [(false, tClasses)], [(false, tClasses)], fun _ => True, fun x => (x.1, ()), false⟩
def spansCopy : Con := ⟨53, [(true, tSeq)], [(true, tSeq)], fun _ => True, fun x => (x.1, ()), false⟩

theorem cloneInts_ok : cloneInts.Ok Try.prog := by
  refine con_q Try.func72 rfl (by decide) (fun x hx hp => run_ok (Cs := []) (stp := []) (inl := []) (unr := false) nil_ok 400 _ _ _ _ ?_) (by decide)
  obtain ⟨xs, ⟨⟩⟩ := x
  have hz : xs.length * 8 ≤ 140737488355328 := hx.1.1
  simp (maxSteps := 4000000) only [go_sem, reduceIte, reduceCtorEq, Int.reduceEq, Nat.reduceEqDiff, Nat.reduceBEq, Int.reduceLE, Int.reduceLT, Int.reduceNeg, Nat.reduceAdd, Nat.reduceSub, Nat.reduceMul, Nat.reduceLeDiff, Int.reduceToNat, Int.reduceAdd, Int.reduceSub, Int.reduceMul, Try.f72, cloneInts]
  first | exact ⟨id, hz⟩ | exact hz

theorem cloneClasses_ok : cloneClasses.Ok Try.prog := by
  refine con_q Try.func71 rfl (by decide) (fun x hx hp => run_ok (Cs := []) (stp := []) (inl := []) (unr := false) nil_ok 400 _ _ _ _ ?_) (by decide)
  obtain ⟨xs, ⟨⟩⟩ := x
  have hz : xs.length * 1 ≤ 140737488355328 := hx.1.1
  simp (maxSteps := 4000000) only [go_sem, reduceIte, reduceCtorEq, Int.reduceEq, Nat.reduceEqDiff, Nat.reduceBEq, Int.reduceLE, Int.reduceLT, Int.reduceNeg, Nat.reduceAdd, Nat.reduceSub, Nat.reduceMul, Nat.reduceLeDiff, Int.reduceToNat, Int.reduceAdd, Int.reduceSub, Int.reduceMul, Try.f71, cloneClasses]
  first | exact ⟨id, hz⟩ | exact hz

theorem spansCopy_ok : spansCopy.Ok Try.prog := by
  refine con_q Try.func53 rfl (by decide) (fun x hx hp => run_ok (Cs := [cloneInts, cloneClasses]) (stp := []) (inl := []) (unr := false) (cons_ok cloneInts_ok (cons_ok cloneClasses_ok nil_ok)) 400 _ _ _ _ ?_) (by decide)
  obtain ⟨⟨(ps : List Int), (cs : List Int), (l : Int), (so : Int), (eo : Int), ⟨⟩⟩, ⟨⟩⟩ := x
  simp (maxSteps := 4000000) only [go_sem, reduceIte, reduceCtorEq, Int.reduceEq, Nat.reduceEqDiff, Nat.reduceBEq, Int.reduceLE, Int.reduceLT, Int.reduceNeg, Nat.reduceAdd, Nat.reduceSub, Nat.reduceMul, Nat.reduceLeDiff, Int.reduceToNat, Int.reduceAdd, Int.reduceSub, Int.reduceMul, Try.f53, spansCopy, cloneInts, cloneClasses]

end Go.Proofs.Yteopmgddchnefaa.Sx
