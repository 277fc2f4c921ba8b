/- Contracts: seq, awake, fit, With, with of chapter 18. -/
import Derived.Test.YteompacffdeekaaWe
namespace Go.Proofs.Yteompacffdeekaa.Sx
attribute [local irreducible] OkQ Ok OkP
set_option linter.unusedSimpArgs false
set_option linter.unusedVariables false
set_option maxRecDepth 20000

def seqP (n : Nat) : List Int := (List.range n).map fun i => ((2 * i : Nat) : Int)
def seqV (sos : Int) (l : List Int) : tSeq.den := (seqP l.length, l, 1, sos, 2, ())
def seq18 : Con := ⟨25, [(false, .int .u8), (false, tClasses)], [(true, tSeq)], fun x => (x.2.1 : List Int).length ≤ 1000, fun x => (seqV x.1 x.2.1, ()), true⟩
theorem seqP_next {n : Nat} : seqP (n + 1) = seqP n ++ [((2 * n : Nat) : Int)] := by simp [seqP, List.range_succ]
theorem seqP_len {n : Nat} : (seqP n).length = n := by simp [seqP]

theorem seq18_ok : seq18.Ok Try.prog := by
  refine con_q Try.func25 rfl (by decide) (fun x hx hp => run_ok (Cs := []) (stp := []) (inl := []) (unr := false) nil_ok 400 _ _ _ _ ?_) (by decide)
  obtain ⟨(sos : Int), (l : List Int), ⟨⟩⟩ := x
  have hz : l.length ≤ 1000 := hp
  have hl := hx.2.1
  have hs := hx.1
  clear hp hx
  simp (maxSteps := 4000000) only [go_sem, reduceIte, reduceCtorEq, Int.reduceEq, Nat.reduceEqDiff, Nat.reduceBEq, Int.reduceLE, Int.reduceLT, Int.reduceNeg, Nat.reduceAdd, Nat.reduceSub, Nat.reduceMul, Nat.reduceLeDiff, Int.reduceToNat, Int.reduceAdd, Int.reduceSub, Int.reduceMul, Try.f25, seq18, seqV]
  (repeat' (first | (apply And.intro) | (intro _) | (show staB _ _ = true; kernel_rfl) | (show dynB _ _ = true; kernel_rfl) | (show dynP _ _ _ = true; kernel_rfl)))
  all_goals try omega
  refine OkQ.virt 8 (.int .i64) ?_
  refine OkQ.loop (α := Nat) [0, 2, 3, 6, 7, 8, 9, 10, 11, 12, 13, 14, 15, 16, 17, 18, 19, 20, 21, 22, 23] (fun i => [(6, .s (.int .i64 (i : Int)))]) (fun i => [(1, .box [.sub 2 0 i, .ro (.slice 1 (.int .u8)) l, .int .i8 1, .int .u8 sos, .int .u8 2]), (2, .arr false 8 (.int .i64) (seqP i))]) (fun i => i ≤ l.length) (fun i => l.length - i) 0 (Nat.zero_le _) ?_ fun i hi => ?_
  · simp (maxSteps := 4000000) only [go_sem, reduceIte, reduceCtorEq, Int.reduceEq, Nat.reduceEqDiff, Nat.reduceBEq, Int.reduceLE, Int.reduceLT, Int.reduceNeg, Nat.reduceAdd, Nat.reduceSub, Nat.reduceMul, Nat.reduceLeDiff, Int.reduceToNat, Int.reduceAdd, Int.reduceSub, Int.reduceMul]
    simp [seqP]
  · refine run_ok (Cs := []) (stp := []) (inl := []) (unr := false) nil_ok 400 _ _ _ _ ?_
    have hti : (seqP i).take i = seqP i := List.take_of_length_le (by rw [seqP_len]; omega)
    have hw : wr .i64 (2 * (i : Int)) = ((2 * i : Nat) : Int) := by rw [wr_i64 (by omega) (by omega)]; omega
    have hpl : (seqP i).length = i := seqP_len
    simp (maxSteps := 4000000) only [go_sem, reduceIte, reduceCtorEq, Int.reduceEq, Nat.reduceEqDiff, Nat.reduceBEq, Int.reduceLE, Int.reduceLT, Int.reduceNeg, Nat.reduceAdd, Nat.reduceSub, Nat.reduceMul, Nat.reduceLeDiff, Int.reduceToNat, Int.reduceAdd, Int.reduceSub, Int.reduceMul, hti, hw, hpl]
    refine ⟨fun h => ?_, fun h => ?_⟩
    · (repeat' (first | (apply And.intro) | (intro _) | (show staB _ _ = true; kernel_rfl) | (show dynB _ _ = true; kernel_rfl) | (show dynP _ _ _ = true; kernel_rfl)))
      all_goals try omega
      · exact ⟨i + 1, by omega, by omega, wr_succ (by omega), rfl, seqP_next.symm⟩
    · obtain rfl : i = l.length := by omega
      refine ⟨⟨⟨by omega, fun x hx => ?_⟩, hl, ⟨by decide, by decide⟩, hs, ⟨by decide, by decide⟩⟩, rfl⟩
      obtain ⟨j, hj, rfl⟩ := List.mem_map.1 hx
      have := List.mem_range.1 hj
      exact ⟨by show (-9223372036854775808 : Int) ≤ _; omega, by show _ ≤ (9223372036854775807 : Int); omega⟩

def awake18 : Con := ⟨12, [], [(false, .bool)], fun _ => True, fun _ => (true, ()), false⟩
def fit18 : Con := ⟨11, [(true, tSeq)], [(false, .bool)], fun _ => True, fun x => (decide (((x.1.2.1 : List Int).length : Int) ≤ 3000), ()), false⟩

theorem fit18_ok : fit18.Ok Try.prog := by
  refine con_q Try.func11 rfl (by decide) (fun x hx hp => run_ok (Cs := []) (stp := []) (inl := []) (unr := false) nil_ok 400 _ _ _ _ ?_) (by decide)
  obtain ⟨⟨(ps : List Int), (cs : List Int), (l : Int), (so : Int), (eo : Int), ⟨⟩⟩, ⟨⟩⟩ := x
  clear hx hp
  simp (maxSteps := 4000000) only [go_sem, reduceIte, reduceCtorEq, Int.reduceEq, Nat.reduceEqDiff, Nat.reduceBEq, Int.reduceLE, Int.reduceLT, Int.reduceNeg, Nat.reduceAdd, Nat.reduceSub, Nat.reduceMul, Nat.reduceLeDiff, Int.reduceToNat, Int.reduceAdd, Int.reduceSub, Int.reduceMul, Try.f11, fit18]

set_option maxHeartbeats 4000000 in
theorem awake18_ok : awake18.Ok Try.prog := by
  refine con_q Try.func12 rfl (by decide) (fun x hx hp => run_ok (Cs := [weakResolve, weakRule, ref18Same, seq18]) (stp := []) (inl := []) (unr := false) (cons_ok weakResolve_ok (cons_ok weakRule_ok (cons_ok ref18Same_ok (cons_ok seq18_ok nil_ok)))) 400 _ _ _ _ ?_) (by decide)
  simp (maxSteps := 4000000) only [go_sem, reduceIte, reduceCtorEq, Int.reduceEq, Nat.reduceEqDiff, Nat.reduceBEq, Int.reduceLE, Int.reduceLT, Int.reduceNeg, Nat.reduceAdd, Nat.reduceSub, Nat.reduceMul, Nat.reduceLeDiff, Int.reduceToNat, Int.reduceAdd, Int.reduceSub, Int.reduceMul, Try.f12, awake18, weakResolve, weakRule, ref18Same, seq18]
  clear hx hp
  (repeat' (first | (apply And.intro) | (intro _) | (show staB _ _ = true; kernel_rfl) | (show dynB _ _ = true; kernel_rfl) | (show dynP _ _ _ = true; kernel_rfl)))
  all_goals try omega
  all_goals try (decide +kernel)
  all_goals (rename_i h; first | exact h (by decide +kernel) | exact absurd h (by decide +kernel) | fail)

end Go.Proofs.Yteompacffdeekaa.Sx
