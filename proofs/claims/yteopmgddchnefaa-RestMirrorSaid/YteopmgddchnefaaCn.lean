/- The laws RestMirror, RestApart, RestSettled. -/
import Derived.Test.YteopmgddchnefaaLc
namespace Go.Proofs.Yteopmgddchnefaa.Sx
attribute [local irreducible] OkQ Ok
set_option linter.unusedSimpArgs false
set_option linter.unusedVariables false
set_option maxRecDepth 8000

def lawTurned : Con := ⟨62, [(false, .int .u8)], [(false, .int .u8)], fun _ => True, fun x => (turnV x.1, ())⟩
theorem lawTurned_ok : lawTurned.Ok Try.prog := by
  refine con_q Try.func62 rfl (by decide) (fun x hx hp => run_ok (Cs := []) (stp := []) (inl := []) (unr := false) nil_ok 400 _ _ _ _ ?_) (by decide)
  obtain ⟨(c : Int), ⟨⟩⟩ := x
  simp (maxSteps := 4000000) only [go_sem, reduceIte, reduceCtorEq, Int.reduceEq, Nat.reduceEqDiff, Nat.reduceBEq, Int.reduceLE, Int.reduceLT, Int.reduceNeg, Nat.reduceAdd, Nat.reduceSub, Nat.reduceMul, Nat.reduceLeDiff, Int.reduceToNat, Int.reduceAdd, Int.reduceSub, Int.reduceMul, Try.f62, lawTurned]
  clear hp hx
  unfold turnV
  (repeat' (first | (apply And.intro) | (intro _) | (show staB _ _ = true; kernel_rfl) | (show dynB _ _ = true; kernel_rfl)))
  all_goals simp_all

def mirV (s : tSeq.den) (l : Int) : tSeq.den := (s.1, (s.2.1 : List Int).map turnV, l, turnV s.2.2.2.1, turnV s.2.2.2.2.1, ())
def lawMirror : Con := ⟨38, [(true, tSeq), (false, .int .i8)], [(true, tSeq)], fun _ => True, fun x => (mirV x.1 x.2.1, ())⟩
theorem lawMirror_ok : lawMirror.Ok Try.prog := by
  refine con_q Try.func38 rfl (by decide) (fun x hx hp => run_ok (Cs := [lawTurned]) (stp := []) (inl := []) (unr := false) (cons_ok lawTurned_ok nil_ok) 400 _ _ _ _ ?_) (by decide)
  obtain ⟨⟨(ps : List Int), (cs : List Int), (l : Int), (so : Int), (eo : Int), ⟨⟩⟩, (l' : Int), ⟨⟩⟩ := x
  have hz1 : ps.length * 8 ≤ 140737488355328 := hx.1.1.1
  have hz2 : cs.length * 1 ≤ 140737488355328 := hx.1.2.1.1
  clear hp hx
  simp (maxSteps := 4000000) only [go_sem, reduceIte, reduceCtorEq, Int.reduceEq, Nat.reduceEqDiff, Nat.reduceBEq, Int.reduceLE, Int.reduceLT, Int.reduceNeg, Nat.reduceAdd, Nat.reduceSub, Nat.reduceMul, Nat.reduceLeDiff, Int.reduceToNat, Int.reduceAdd, Int.reduceSub, Int.reduceMul, Try.f38, lawMirror, mirV, lawTurned]
  (repeat' (first | (apply And.intro) | (intro _) | (show staB _ _ = true; kernel_rfl) | (show dynB _ _ = true; kernel_rfl)))
  all_goals try omega
  refine OkQ.virt 1 (.int .u8) ?_
  refine OkQ.loop (α := Nat) [0, 1, 3, 6, 7, 8, 9, 10, 11, 12, 13, 14, 15, 16, 17, 18, 19, 20, 21, 22, 23, 24, 25, 26, 27, 28, 29, 30, 31, 32, 33, 34, 35, 36] (fun i => [(6, .s (.int .i64 (i : Int)))]) (fun i => [(3, .box [.sub 2 0 ps.length, .sub 4 0 i, .int .i8 l', .int .u8 (turnV so), .int .u8 (turnV eo)]), (4, .arr false 1 (.int .u8) ((cs.take i).map turnV))]) (fun i => i ≤ cs.length) (fun i => cs.length - i) 0 (Nat.zero_le _) ?_ fun i hi => ?_
  · simp (maxSteps := 4000000) only [go_sem, reduceIte, reduceCtorEq, Int.reduceEq, Nat.reduceEqDiff, Nat.reduceBEq, Int.reduceLE, Int.reduceLT, Int.reduceNeg, Nat.reduceAdd, Nat.reduceSub, Nat.reduceMul, Nat.reduceLeDiff, Int.reduceToNat, Int.reduceAdd, Int.reduceSub, Int.reduceMul, lawTurned]
    simp
  · refine run_ok (Cs := [lawTurned]) (stp := []) (inl := []) (unr := false) (cons_ok lawTurned_ok nil_ok) 400 _ _ _ _ ?_
    simp (maxSteps := 4000000) only [go_sem, reduceIte, reduceCtorEq, Int.reduceEq, Nat.reduceEqDiff, Nat.reduceBEq, Int.reduceLE, Int.reduceLT, Int.reduceNeg, Nat.reduceAdd, Nat.reduceSub, Nat.reduceMul, Nat.reduceLeDiff, Int.reduceToNat, Int.reduceAdd, Int.reduceSub, Int.reduceMul, lawTurned]
    (repeat' (first | (apply And.intro) | (intro _) | (show staB _ _ = true; kernel_rfl) | (show dynB _ _ = true; kernel_rfl)))
    all_goals try omega
    all_goals try (simp; omega)
    · have hn := take_next 0 (by omega : i < cs.length)
      refine ⟨i + 1, by omega, by omega, wr_succ (by omega), ⟨by simp; omega, ?_⟩⟩
      rw [hn, List.take_of_length_le (by simp; omega)]; simp
    · rw [List.take_of_length_le (by simp; omega), List.take_of_length_le (by omega)]

end Go.Proofs.Yteopmgddchnefaa.Sx
