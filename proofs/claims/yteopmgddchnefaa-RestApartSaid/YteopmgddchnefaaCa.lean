/- Contracts: slices.Equal. -/
import Derived.Test.YteopmgddchnefaaFa
namespace Go.Proofs.Yteopmgddchnefaa.Sx
attribute [local irreducible] OkQ Ok
set_option linter.unusedSimpArgs false
set_option linter.unusedVariables false

def eqInts : Con := ⟨60, [(false, tInts), (false, tInts)], [(false, .bool)], fun _ => True, fun x => (decide (x.1 = x.2.1), ()), false⟩

set_option maxRecDepth 4000 in
theorem eqInts_ok : eqInts.Ok Try.prog := by
  refine con_q Try.func60 rfl (by decide) (fun x hx hp => run_ok (Cs := []) (stp := []) (inl := []) (unr := false) nil_ok 400 _ _ _ _ ?_) (by decide)
  obtain ⟨xs, ys, ⟨⟩⟩ := x
  simp (maxSteps := 4000000) only [go_sem, reduceIte, reduceCtorEq, Int.reduceEq, Nat.reduceEqDiff, Nat.reduceBEq, Int.reduceLE, Int.reduceLT, Int.reduceNeg, Nat.reduceAdd, Nat.reduceSub, Nat.reduceMul, Nat.reduceLeDiff, Int.reduceToNat, Int.reduceAdd, Int.reduceSub, Int.reduceMul, Try.f60, eqInts]
  refine ⟨fun h => ?_, fun h => ?_⟩
  · have : xs ≠ ys := fun e => h (by rw [e])
    simp [this]
  · refine OkQ.loop (α := Nat) [2, 3, 4, 5, 6, 7, 8, 9, 10, 11, 13, 14, 15, 16, 17, 18, 19, 20, 21, 22, 23, 24, 25] (fun i => [(13, .s (.int .i64 (i : Int)))]) (fun _ => []) (fun i => i ≤ xs.length ∧ xs.take i = ys.take i) (fun i => xs.length - i) 0 ⟨by simp, by simp⟩ ?_ fun i hi => ?_
    · simp (maxSteps := 4000000) only [go_sem, reduceIte, reduceCtorEq, Int.reduceEq, Nat.reduceEqDiff, Nat.reduceBEq, Int.reduceLE, Int.reduceLT, Int.reduceNeg, Nat.reduceAdd, Nat.reduceSub, Nat.reduceMul, Nat.reduceLeDiff, Int.reduceToNat, Int.reduceAdd, Int.reduceSub, Int.reduceMul]
      simp
    · refine run_ok (Cs := []) (stp := []) (inl := []) (unr := false) nil_ok 400 _ _ _ _ ?_
      simp (maxSteps := 4000000) only [go_sem, reduceIte, reduceCtorEq, Int.reduceEq, Nat.reduceEqDiff, Nat.reduceBEq, Int.reduceLE, Int.reduceLT, Int.reduceNeg, Nat.reduceAdd, Nat.reduceSub, Nat.reduceMul, Nat.reduceLeDiff, Int.reduceToNat, Int.reduceAdd, Int.reduceSub, Int.reduceMul, Try.f60, eqInts]
      have hlen : xs.length = ys.length := by omega
      obtain ⟨hi, ht⟩ := hi
      have hsz : xs.length * 8 ≤ 140737488355328 := hx.1.1
      (repeat' (first | (apply And.intro) | (intro _) | (show staB _ _ = true; kernel_rfl) | (show dynB _ _ = true; kernel_rfl)))
      all_goals try omega
      · rename_i hlt hne
        refine (decide_eq_false fun e => hne ?_).symm
        rw [e]
      · rename_i hlt he
        refine ⟨i + 1, ⟨by omega, ?_⟩, by omega, ?_⟩
        · have h1 : i < xs.length := by omega
          have h2 : i < ys.length := by omega
          simp [List.getD_eq_getElem?_getD, h1, h2] at he
          rw [List.take_succ_eq_append_getElem h1, List.take_succ_eq_append_getElem h2, ht, he]
        · rw [wr_i64 (by omega) (by omega)]; simp
      · rename_i hge
        have h1 : xs.length ≤ i := by omega
        rw [List.take_of_length_le h1, List.take_of_length_le (by omega)] at ht
        simp [ht]

def eqClasses : Con := ⟨61, [(false, tClasses), (false, tClasses)], [(false, .bool)], fun _ => True, fun x => (decide (x.1 = x.2.1), ()), false⟩

set_option maxRecDepth 4000 in
theorem eqClasses_ok : eqClasses.Ok Try.prog := by
  refine con_q Try.func61 rfl (by decide) (fun x hx hp => run_ok (Cs := []) (stp := []) (inl := []) (unr := false) nil_ok 400 _ _ _ _ ?_) (by decide)
  obtain ⟨xs, ys, ⟨⟩⟩ := x
  simp (maxSteps := 4000000) only [go_sem, reduceIte, reduceCtorEq, Int.reduceEq, Nat.reduceEqDiff, Nat.reduceBEq, Int.reduceLE, Int.reduceLT, Int.reduceNeg, Nat.reduceAdd, Nat.reduceSub, Nat.reduceMul, Nat.reduceLeDiff, Int.reduceToNat, Int.reduceAdd, Int.reduceSub, Int.reduceMul, Try.f61, eqClasses]
  refine ⟨fun h => ?_, fun h => ?_⟩
  · have : xs ≠ ys := fun e => h (by rw [e])
    simp [this]
  · refine OkQ.loop (α := Nat) [2, 3, 4, 5, 6, 7, 8, 9, 10, 11, 13, 14, 15, 16, 17, 18, 19, 20, 21, 22, 23, 24, 25] (fun i => [(13, .s (.int .i64 (i : Int)))]) (fun _ => []) (fun i => i ≤ xs.length ∧ xs.take i = ys.take i) (fun i => xs.length - i) 0 ⟨by simp, by simp⟩ ?_ fun i hi => ?_
    · simp (maxSteps := 4000000) only [go_sem, reduceIte, reduceCtorEq, Int.reduceEq, Nat.reduceEqDiff, Nat.reduceBEq, Int.reduceLE, Int.reduceLT, Int.reduceNeg, Nat.reduceAdd, Nat.reduceSub, Nat.reduceMul, Nat.reduceLeDiff, Int.reduceToNat, Int.reduceAdd, Int.reduceSub, Int.reduceMul]
      simp
    · refine run_ok (Cs := []) (stp := []) (inl := []) (unr := false) nil_ok 400 _ _ _ _ ?_
      simp (maxSteps := 4000000) only [go_sem, reduceIte, reduceCtorEq, Int.reduceEq, Nat.reduceEqDiff, Nat.reduceBEq, Int.reduceLE, Int.reduceLT, Int.reduceNeg, Nat.reduceAdd, Nat.reduceSub, Nat.reduceMul, Nat.reduceLeDiff, Int.reduceToNat, Int.reduceAdd, Int.reduceSub, Int.reduceMul, Try.f61, eqClasses]
      have hlen : xs.length = ys.length := by omega
      obtain ⟨hi, ht⟩ := hi
      have hsz : xs.length * 1 ≤ 140737488355328 := hx.1.1
      (repeat' (first | (apply And.intro) | (intro _) | (show staB _ _ = true; kernel_rfl) | (show dynB _ _ = true; kernel_rfl)))
      all_goals try omega
      · rename_i hlt hne
        refine (decide_eq_false fun e => hne ?_).symm
        rw [e]
      · rename_i hlt he
        refine ⟨i + 1, ⟨by omega, ?_⟩, by omega, ?_⟩
        · have h1 : i < xs.length := by omega
          have h2 : i < ys.length := by omega
          simp [List.getD_eq_getElem?_getD, h1, h2] at he
          rw [List.take_succ_eq_append_getElem h1, List.take_succ_eq_append_getElem h2, ht, he]
        · rw [wr_i64 (by omega) (by omega)]; simp
      · rename_i hge
        have h1 : xs.length ≤ i := by omega
        rw [List.take_of_length_le h1, List.take_of_length_le (by omega)] at ht
        simp [ht]

end Go.Proofs.Yteopmgddchnefaa.Sx
