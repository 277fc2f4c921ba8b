/- Contract: weak.Rule, rule 1. -/
import Derived.Test.YteompacffdeekaaWc
namespace Go.Proofs.Yteompacffdeekaa.Sx
attribute [local irreducible] OkQ Ok OkP
set_option linter.unusedSimpArgs false
set_option linter.unusedVariables false
theorem bIWr150 : bodyI Try.prog 50 = bodyF Try.f50 := by kernel_rfl
theorem bIWr139 : bodyI Try.prog 39 = bodyF Try.f39 := by kernel_rfl
theorem bIWr127 : bodyI Try.prog 27 = bodyF Try.f27 := by kernel_rfl
set_option maxRecDepth 8000

set_option maxHeartbeats 2000000 in
theorem weakRule1_ok : weakRule1.Ok Try.prog := by
  refine con_q Try.func14 rfl (by decide) (fun x hx hp => run_ok (Cs := [spansCheck, spansCopy]) (stp := [8]) (inl := [27]) (unr := false) (cons_ok spansCheck_ok (cons_ok spansCopy_ok nil_ok)) 400 _ _ _ _ ?_) (by decide)
  obtain ⟨(n : Int), ⟨(ps : List Int), (cs : List Int), (l : Int), (so : Int), (eo : Int), ⟨⟩⟩, ⟨⟩⟩ := x
  have hz2 : cs.length * 1 ≤ 140737488355328 := hx.2.1.2.1.1
  obtain ⟨hok, hn⟩ := hp
  have hn : n = 1 := hn
  subst hn
  have hok : OkS ps cs l so eo := hok
  have hso : so = 1 ∨ so = 2 := hok.2.2.2.2.1
  have h5 : checkV (ps, cs, l, so, eo, ()) = 0 := if_pos hok
  have h3 : ruleE 1 (ps, cs, l, so, eo, ()) = 0 := ruleE_ok hok (by decide) (by decide)
  have h2 : ruleV 1 (ps, cs, l, so, eo, ()) = (ps, ruleC 1 so cs, l, so, eo, ()) := ruleV_ok hok (by decide) (by decide)
  clear hx
  simp (maxSteps := 4000000) only [go_sem, reduceIte, reduceCtorEq, Int.reduceEq, Nat.reduceEqDiff, Nat.reduceBEq, Int.reduceLE, Int.reduceLT, Int.reduceNeg, Nat.reduceAdd, Nat.reduceSub, Nat.reduceMul, Nat.reduceLeDiff, Int.reduceToNat, Int.reduceAdd, Int.reduceSub, Int.reduceMul, Try.f14, weakRule1, h2, h3, h5, bIWr127, Try.f27, spansCheck, spansCopy]
  (repeat' (first | (apply And.intro) | (intro _) | (show staB _ _ = true; kernel_rfl) | (show dynB _ _ = true; kernel_rfl) | (show dynP _ _ _ = true; kernel_rfl)))
  all_goals try omega
  refine OkQ.tail (Cs := [spansCheck, spansCopy]) (cons_ok spansCheck_ok (cons_ok spansCopy_ok nil_ok)) (by kernel_rfl) (by kernel_rfl) ?_
  simp (maxSteps := 4000000) only [go_sem, reduceIte, reduceCtorEq, Int.reduceEq, Nat.reduceEqDiff, Nat.reduceBEq, Int.reduceLE, Int.reduceLT, Int.reduceNeg, Nat.reduceAdd, Nat.reduceSub, Nat.reduceMul, Nat.reduceLeDiff, Int.reduceToNat, Int.reduceAdd, Int.reduceSub, Int.reduceMul, List.dropLast, wr_lit, Int.cast_ofNat_Int, List.getD_cons_succ, List.getD_cons_zero, spansCheck, spansCopy]
  refine ⟨by kernel_rfl, ?_⟩
  refine run_ok (Cs := [spansCheck, spansCopy]) (stp := []) (inl := [39, 50]) (unr := false) (cons_ok spansCheck_ok (cons_ok spansCopy_ok nil_ok)) 400 _ _ _ _ ?_
  simp (maxSteps := 4000000) only [go_sem, reduceIte, reduceCtorEq, Int.reduceEq, Nat.reduceEqDiff, Nat.reduceBEq, Int.reduceLE, Int.reduceLT, Int.reduceNeg, Nat.reduceAdd, Nat.reduceSub, Nat.reduceMul, Nat.reduceLeDiff, Int.reduceToNat, Int.reduceAdd, Int.reduceSub, Int.reduceMul, bIWr139, Try.f39, bIWr150, Try.f50, spansCheck, spansCopy]
  have hlen : ∀ i, (ruleTo 1 so cs i).length = cs.length := fun i => ruleTo_len
  have htk : ∀ i, (ruleTo 1 so cs i).take cs.length = ruleTo 1 so cs i := fun i => List.take_of_length_le (by rw [hlen]; exact Nat.le_refl _)
  have hend : ∀ i : Nat, ¬ (i : Int) < cs.length → ruleTo 1 so cs i = ruleC 1 so cs := fun i h => ruleTo_end (by omega)
  have hiso : isoB so = false := by rcases hso with e | e <;> rw [e] <;> rfl
  refine OkQ.loop (α := Nat) [1, 2, 3, 4, 5, 6, 7, 10, 11, 12, 13, 14, 15, 16, 17, 18, 19, 20, 21, 22, 23, 24, 25, 26, 27, 28, 29, 30, 31, 32, 33, 34, 35, 36, 37, 38, 39] (fun i => [(10, .s (.int .i64 (i : Int)))]) (fun i => [(4, .arr false 1 (.int .u8) (ruleTo 1 so cs i))]) (fun i => i ≤ cs.length) (fun i => cs.length - i) 0 (Nat.zero_le _) ?_ fun i hi => ?_
  · simp (maxSteps := 4000000) only [go_sem, reduceIte, reduceCtorEq, Int.reduceEq, Nat.reduceEqDiff, Nat.reduceBEq, Int.reduceLE, Int.reduceLT, Int.reduceNeg, Nat.reduceAdd, Nat.reduceSub, Nat.reduceMul, Nat.reduceLeDiff, Int.reduceToNat, Int.reduceAdd, Int.reduceSub, Int.reduceMul, spansCheck, spansCopy]
    simp [ruleTo]
  · clear h2 h3 h5
    rcases Nat.eq_zero_or_pos i with e0 | e0
    · subst e0
      refine run_ok (Cs := [spansCheck, spansCopy]) (stp := []) (inl := [39, 50]) (unr := false) (cons_ok spansCheck_ok (cons_ok spansCopy_ok nil_ok)) 400 _ _ _ _ ?_
      simp (maxSteps := 4000000) only [go_sem, reduceIte, reduceCtorEq, Int.reduceEq, Nat.reduceEqDiff, Nat.reduceBEq, Int.reduceLE, Int.reduceLT, Int.reduceNeg, Nat.reduceAdd, Nat.reduceSub, Nat.reduceMul, Nat.reduceLeDiff, Int.reduceToNat, Int.reduceAdd, Int.reduceSub, Int.reduceMul, bIWr139, Try.f39, bIWr150, Try.f50, hlen, htk, Int.natCast_zero, spansCheck, spansCopy]
      (repeat' (first | (apply And.intro) | (intro _) | (show staB _ _ = true; kernel_rfl) | (show dynB _ _ = true; kernel_rfl) | (show dynP _ _ _ = true; kernel_rfl)))
      all_goals try omega
      all_goals try contradiction
      all_goals first
          | exact ⟨1, by omega, by omega, by rw [wr_i64 (by omega) (by omega)]; rfl, w1_skip (by assumption)⟩
          | exact ⟨1, by omega, by omega, by rw [wr_i64 (by omega) (by omega)]; rfl, w1_first hiso (by assumption), by simp [hlen]⟩
          | exact hend 0 (by omega)
          | fail
    · have hw : wr .i64 ((i : Int) - 1) = ((i - 1 : Nat) : Int) := by rw [wr_i64 (by omega) (by omega)]; omega
      have hw2 := wr_succ (n := i) (by omega)
      have hne : ((i : Int) = 0) = False := by simp; omega
      have hout : i + 1 = cs.length → (ruleTo 1 so cs i).getD (i + 1) 0 = 0 := fun h => by rw [List.getD_eq_getElem?_getD, List.getElem?_eq_none (by rw [hlen]; omega)]; rfl
      refine run_ok (Cs := [spansCheck, spansCopy]) (stp := []) (inl := [39, 50]) (unr := false) (cons_ok spansCheck_ok (cons_ok spansCopy_ok nil_ok)) 400 _ _ _ _ ?_
      simp (maxSteps := 4000000) only [go_sem, reduceIte, reduceCtorEq, Int.reduceEq, Nat.reduceEqDiff, Nat.reduceBEq, Int.reduceLE, Int.reduceLT, Int.reduceNeg, Nat.reduceAdd, Nat.reduceSub, Nat.reduceMul, Nat.reduceLeDiff, Int.reduceToNat, Int.reduceAdd, Int.reduceSub, Int.reduceMul, bIWr139, Try.f39, bIWr150, Try.f50, hlen, htk, hw, hw2, hne, spansCheck, spansCopy]
      (repeat' (first | (apply And.intro) | (intro _) | (show staB _ _ = true; kernel_rfl) | (show dynB _ _ = true; kernel_rfl) | (show dynP _ _ _ = true; kernel_rfl)))
      all_goals try omega
      all_goals try contradiction
      all_goals first
          | exact ⟨i + 1, by omega, by omega, rfl, w1_skip (by assumption)⟩
          | exact ⟨i + 1, by omega, by omega, rfl, w1_iso (by assumption) e0 (by simp only [isoB, decide_eq_true_eq]; omega), by simp [hlen]⟩
          | exact ⟨i + 1, by omega, by omega, rfl, w1_else (by assumption) e0 (by simp only [isoB, decide_eq_false_iff_not]; omega), by simp [hlen]⟩
          | exact hend i (by omega)
          | fail

end Go.Proofs.Yteompacffdeekaa.Sx
