/- Contract: weak.Rule, rule 6. -/
import Derived.Test.YteompacffdeekaaWc
namespace Go.Proofs.Yteompacffdeekaa.Sx
attribute [local irreducible] OkQ Ok OkP
set_option linter.unusedSimpArgs false
set_option linter.unusedVariables false
theorem bIWr644 : bodyI Try.prog 44 = bodyF Try.f44 := by kernel_rfl
theorem bIWr627 : bodyI Try.prog 27 = bodyF Try.f27 := by kernel_rfl
set_option maxRecDepth 8000

set_option maxHeartbeats 2000000 in
theorem weakRule6_ok : weakRule6.Ok Try.prog := by
  refine con_q Try.func14 rfl (by decide) (fun x hx hp => run_ok (Cs := [spansCheck, spansCopy]) (stp := [8]) (inl := [27]) (unr := false) (cons_ok spansCheck_ok (cons_ok spansCopy_ok nil_ok)) 400 _ _ _ _ ?_) (by decide)
  obtain ⟨(n : Int), ⟨(ps : List Int), (cs : List Int), (l : Int), (so : Int), (eo : Int), ⟨⟩⟩, ⟨⟩⟩ := x
  have hz2 : cs.length * 1 ≤ 140737488355328 := hx.2.1.2.1.1
  obtain ⟨hok, hn⟩ := hp
  have hn : n = 6 := hn
  subst hn
  have hok : OkS ps cs l so eo := hok
  have hso : so = 1 ∨ so = 2 := hok.2.2.2.2.1
  have h5 : checkV (ps, cs, l, so, eo, ()) = 0 := if_pos hok
  have h3 : ruleE 6 (ps, cs, l, so, eo, ()) = 0 := ruleE_ok hok (by decide) (by decide)
  have h2 : ruleV 6 (ps, cs, l, so, eo, ()) = (ps, ruleC 6 so cs, l, so, eo, ()) := ruleV_ok hok (by decide) (by decide)
  clear hx
  simp (maxSteps := 4000000) only [go_sem, reduceIte, reduceCtorEq, Int.reduceEq, Nat.reduceEqDiff, Nat.reduceBEq, Int.reduceLE, Int.reduceLT, Int.reduceNeg, Nat.reduceAdd, Nat.reduceSub, Nat.reduceMul, Nat.reduceLeDiff, Int.reduceToNat, Int.reduceAdd, Int.reduceSub, Int.reduceMul, Try.f14, weakRule6, h2, h3, h5, bIWr627, Try.f27, spansCheck, spansCopy]
  (repeat' (first | (apply And.intro) | (intro _) | (show staB _ _ = true; kernel_rfl) | (show dynB _ _ = true; kernel_rfl) | (show dynP _ _ _ = true; kernel_rfl)))
  all_goals try omega
  refine OkQ.tail (Cs := [spansCheck, spansCopy]) (cons_ok spansCheck_ok (cons_ok spansCopy_ok nil_ok)) (by kernel_rfl) (by kernel_rfl) ?_
  simp (maxSteps := 4000000) only [go_sem, reduceIte, reduceCtorEq, Int.reduceEq, Nat.reduceEqDiff, Nat.reduceBEq, Int.reduceLE, Int.reduceLT, Int.reduceNeg, Nat.reduceAdd, Nat.reduceSub, Nat.reduceMul, Nat.reduceLeDiff, Int.reduceToNat, Int.reduceAdd, Int.reduceSub, Int.reduceMul, List.dropLast, wr_lit, Int.cast_ofNat_Int, List.getD_cons_succ, List.getD_cons_zero, spansCheck, spansCopy]
  refine ⟨by kernel_rfl, ?_⟩
  refine run_ok (Cs := [spansCheck, spansCopy]) (stp := []) (inl := [44]) (unr := false) (cons_ok spansCheck_ok (cons_ok spansCopy_ok nil_ok)) 400 _ _ _ _ ?_
  simp (maxSteps := 4000000) only [go_sem, reduceIte, reduceCtorEq, Int.reduceEq, Nat.reduceEqDiff, Nat.reduceBEq, Int.reduceLE, Int.reduceLT, Int.reduceNeg, Nat.reduceAdd, Nat.reduceSub, Nat.reduceMul, Nat.reduceLeDiff, Int.reduceToNat, Int.reduceAdd, Int.reduceSub, Int.reduceMul, bIWr644, Try.f44, spansCheck, spansCopy]
  have hlen : ∀ i, (ruleTo 6 so cs i).length = cs.length := fun i => ruleTo_len
  have htk : ∀ i, (ruleTo 6 so cs i).take cs.length = ruleTo 6 so cs i := fun i => List.take_of_length_le (by rw [hlen]; exact Nat.le_refl _)
  have hend : ∀ i : Nat, ¬ (i : Int) < cs.length → ruleTo 6 so cs i = ruleC 6 so cs := fun i h => ruleTo_end (by omega)
  refine OkQ.loop (α := Nat) [1, 2, 3, 4, 5, 6, 9, 10, 11, 12, 13, 14, 15, 16, 17, 18, 19, 20, 21, 22, 23, 24, 25, 26, 27, 28, 29, 30] (fun i => [(9, .s (.int .i64 (i : Int)))]) (fun i => [(4, .arr false 1 (.int .u8) (ruleTo 6 so cs i))]) (fun i => i ≤ cs.length) (fun i => cs.length - i) 0 (Nat.zero_le _) ?_ fun i hi => ?_
  · simp (maxSteps := 4000000) only [go_sem, reduceIte, reduceCtorEq, Int.reduceEq, Nat.reduceEqDiff, Nat.reduceBEq, Int.reduceLE, Int.reduceLT, Int.reduceNeg, Nat.reduceAdd, Nat.reduceSub, Nat.reduceMul, Nat.reduceLeDiff, Int.reduceToNat, Int.reduceAdd, Int.reduceSub, Int.reduceMul, spansCheck, spansCopy]
    simp [ruleTo]
  · refine run_ok (Cs := [spansCheck, spansCopy]) (stp := []) (inl := [44]) (unr := false) (cons_ok spansCheck_ok (cons_ok spansCopy_ok nil_ok)) 400 _ _ _ _ ?_
    simp (maxSteps := 4000000) only [go_sem, reduceIte, reduceCtorEq, Int.reduceEq, Nat.reduceEqDiff, Nat.reduceBEq, Int.reduceLE, Int.reduceLT, Int.reduceNeg, Nat.reduceAdd, Nat.reduceSub, Nat.reduceMul, Nat.reduceLeDiff, Int.reduceToNat, Int.reduceAdd, Int.reduceSub, Int.reduceMul, bIWr644, Try.f44, hlen, htk, spansCheck, spansCopy]
    (repeat' (first | (apply And.intro) | (intro _) | (show staB _ _ = true; kernel_rfl) | (show dynB _ _ = true; kernel_rfl) | (show dynP _ _ _ = true; kernel_rfl)))
    all_goals try omega
    clear h2 h3 h5
    · exact ⟨i + 1, by omega, by omega, wr_succ (by omega), w6_set (by omega), by simp [hlen]⟩
    · exact ⟨i + 1, by omega, by omega, wr_succ (by omega), w6_skip (by omega)⟩
    · exact hend i (by omega)

end Go.Proofs.Yteompacffdeekaa.Sx
