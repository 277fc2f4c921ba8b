/- Contract: weak.Rule, rule 5. -/
import Derived.Test.YteompacffdeekaaWc
namespace Go.Proofs.Yteompacffdeekaa.Sx
attribute [local irreducible] OkQ Ok OkP
set_option linter.unusedSimpArgs false
set_option linter.unusedVariables false
theorem bIWr543 : bodyI Try.prog 43 = bodyF Try.f43 := by kernel_rfl
theorem bIWr527 : bodyI Try.prog 27 = bodyF Try.f27 := by kernel_rfl
set_option maxRecDepth 8000

set_option maxHeartbeats 2000000 in
theorem weakRule5_ok : weakRule5.Ok Try.prog := by
  refine con_q Try.func14 rfl (by decide) (fun x hx hp => run_ok (Cs := [spansCheck, spansCopy]) (stp := [8]) (inl := [27]) (unr := false) (cons_ok spansCheck_ok (cons_ok spansCopy_ok nil_ok)) 400 _ _ _ _ ?_) (by decide)
  obtain ⟨(n : Int), ⟨(ps : List Int), (cs : List Int), (l : Int), (so : Int), (eo : Int), ⟨⟩⟩, ⟨⟩⟩ := x
  have hz2 : cs.length * 1 ≤ 140737488355328 := hx.2.1.2.1.1
  obtain ⟨hok, hn⟩ := hp
  have hn : n = 5 := hn
  subst hn
  have hok : OkS ps cs l so eo := hok
  have hso : so = 1 ∨ so = 2 := hok.2.2.2.2.1
  have h5 : checkV (ps, cs, l, so, eo, ()) = 0 := if_pos hok
  have h3 : ruleE 5 (ps, cs, l, so, eo, ()) = 0 := ruleE_ok hok (by decide) (by decide)
  have h2 : ruleV 5 (ps, cs, l, so, eo, ()) = (ps, ruleC 5 so cs, l, so, eo, ()) := ruleV_ok hok (by decide) (by decide)
  clear hx
  simp (maxSteps := 4000000) only [go_sem, reduceIte, reduceCtorEq, Int.reduceEq, Nat.reduceEqDiff, Nat.reduceBEq, Int.reduceLE, Int.reduceLT, Int.reduceNeg, Nat.reduceAdd, Nat.reduceSub, Nat.reduceMul, Nat.reduceLeDiff, Int.reduceToNat, Int.reduceAdd, Int.reduceSub, Int.reduceMul, Try.f14, weakRule5, h2, h3, h5, bIWr527, Try.f27, spansCheck, spansCopy]
  (repeat' (first | (apply And.intro) | (intro _) | (show staB _ _ = true; kernel_rfl) | (show dynB _ _ = true; kernel_rfl) | (show dynP _ _ _ = true; kernel_rfl)))
  all_goals try omega
  refine OkQ.tail (Cs := [spansCheck, spansCopy]) (cons_ok spansCheck_ok (cons_ok spansCopy_ok nil_ok)) (by kernel_rfl) (by kernel_rfl) ?_
  simp (maxSteps := 4000000) only [go_sem, reduceIte, reduceCtorEq, Int.reduceEq, Nat.reduceEqDiff, Nat.reduceBEq, Int.reduceLE, Int.reduceLT, Int.reduceNeg, Nat.reduceAdd, Nat.reduceSub, Nat.reduceMul, Nat.reduceLeDiff, Int.reduceToNat, Int.reduceAdd, Int.reduceSub, Int.reduceMul, List.dropLast, wr_lit, Int.cast_ofNat_Int, List.getD_cons_succ, List.getD_cons_zero, spansCheck, spansCopy]
  refine ⟨by kernel_rfl, ?_⟩
  refine run_ok (Cs := [spansCheck, spansCopy]) (stp := []) (inl := [43]) (unr := false) (cons_ok spansCheck_ok (cons_ok spansCopy_ok nil_ok)) 400 _ _ _ _ ?_
  simp (maxSteps := 4000000) only [go_sem, reduceIte, reduceCtorEq, Int.reduceEq, Nat.reduceEqDiff, Nat.reduceBEq, Int.reduceLE, Int.reduceLT, Int.reduceNeg, Nat.reduceAdd, Nat.reduceSub, Nat.reduceMul, Nat.reduceLeDiff, Int.reduceToNat, Int.reduceAdd, Int.reduceSub, Int.reduceMul, bIWr543, Try.f43, spansCheck, spansCopy]
  have hlen : ∀ i, (ruleTo 5 so cs i).length = cs.length := fun i => ruleTo_len
  have htk : ∀ i, (ruleTo 5 so cs i).take cs.length = ruleTo 5 so cs i := fun i => List.take_of_length_le (by rw [hlen]; exact Nat.le_refl _)
  have hend : ∀ i : Nat, ¬ (i : Int) < cs.length → ruleTo 5 so cs i = ruleC 5 so cs := fun i h => ruleTo_end (by omega)
  refine OkQ.loop (α := Nat) [1, 2, 3, 4, 5, 6, 7, 8, 9, 10, 11, 12, 13, 14, 15, 16, 17, 18, 19, 20, 21, 22, 23, 24, 25, 26, 27, 28, 29, 30, 31, 32, 33, 34, 35, 36, 37, 38, 39, 40, 41, 42, 43, 44, 45, 46, 47, 48, 49, 50, 51, 52, 53, 54, 55, 56, 57, 58, 59, 60, 61, 62, 63, 64, 65, 66, 67, 68, 69, 70, 71, 72, 73, 74, 75, 76, 77, 78, 79, 80, 81, 82, 83, 84, 85, 86] (fun i => [(2, .s (.int .i64 (i : Int)))]) (fun i => [(4, .arr false 1 (.int .u8) (ruleTo 5 so cs i))]) (fun i => i ≤ cs.length ∧ (i = 0 ∨ i = cs.length ∨ ¬ cs.getD i 0 = 6 ∨ ¬ (ruleTo 5 so cs i).getD (i - 1) 0 = 6)) (fun i => cs.length - i) 0 ⟨Nat.zero_le _, .inl rfl⟩ ?_ fun i hi => ?_
  · simp (maxSteps := 4000000) only [go_sem, reduceIte, reduceCtorEq, Int.reduceEq, Nat.reduceEqDiff, Nat.reduceBEq, Int.reduceLE, Int.reduceLT, Int.reduceNeg, Nat.reduceAdd, Nat.reduceSub, Nat.reduceMul, Nat.reduceLeDiff, Int.reduceToNat, Int.reduceAdd, Int.reduceSub, Int.reduceMul, spansCheck, spansCopy]
    simp [ruleTo]
  · obtain ⟨hi, hrow⟩ := hi
    refine run_ok (Cs := [spansCheck, spansCopy]) (stp := []) (inl := [43]) (unr := false) (cons_ok spansCheck_ok (cons_ok spansCopy_ok nil_ok)) 400 _ _ _ _ ?_
    simp (maxSteps := 4000000) only [go_sem, reduceIte, reduceCtorEq, Int.reduceEq, Nat.reduceEqDiff, Nat.reduceBEq, Int.reduceLE, Int.reduceLT, Int.reduceNeg, Nat.reduceAdd, Nat.reduceSub, Nat.reduceMul, Nat.reduceLeDiff, Int.reduceToNat, Int.reduceAdd, Int.reduceSub, Int.reduceMul, bIWr543, Try.f43, hlen, htk, spansCheck, spansCopy]
    (repeat' (first | (apply And.intro) | (intro _) | (show staB _ _ = true; kernel_rfl) | (show dynB _ _ = true; kernel_rfl) | (show dynP _ _ _ = true; kernel_rfl)))
    all_goals try omega
    · rename_i hne
      exact ⟨i + 1, ⟨by omega, .inr (.inr (.inr (by rw [← w5_skip hne]; exact hne)))⟩, by omega, wr_succ (by omega), w5_skip hne⟩
    · rename_i h6
      have h6c : cs.getD i 0 = 6 := by rw [← h6]; exact (ruleTo_at (Nat.le_refl _)).symm
      have hprev : i = 0 ∨ ¬ (ruleTo 5 so cs i).getD (i - 1) 0 = 6 := by omega
      clear h2 h3 h5
      refine OkQ.loop (α := Nat) [1, 3, 4, 5, 6, 7, 8, 9, 10, 11, 12, 13, 14, 15, 16, 17, 18, 19, 20, 21, 22, 23, 24, 25, 26, 27, 28, 29, 30, 31, 32, 33, 34, 35, 36, 37, 38, 39, 40, 41, 42, 43, 44, 45, 46, 47, 48, 49, 50, 51, 52, 53, 54, 55, 56, 57, 58, 59, 60, 61, 62, 63, 64, 65, 66, 67, 68, 69, 70, 71, 72, 73, 74, 75, 76, 77, 78, 79, 80, 81, 82, 83, 84, 85, 86] (fun t => [(3, .s (.int .i64 (t : Int)))]) (fun _ => []) (fun t => i ≤ t ∧ t ≤ cs.length ∧ ∀ k, i ≤ k → k < t → cs.getD k 0 = 6) (fun t => cs.length - t) i ⟨Nat.le_refl _, hi, fun k a b => by omega⟩ ?_ fun t ht => ?_
      · simp (maxSteps := 4000000) only [go_sem, reduceIte, reduceCtorEq, Int.reduceEq, Nat.reduceEqDiff, Nat.reduceBEq, Int.reduceLE, Int.reduceLT, Int.reduceNeg, Nat.reduceAdd, Nat.reduceSub, Nat.reduceMul, Nat.reduceLeDiff, Int.reduceToNat, Int.reduceAdd, Int.reduceSub, Int.reduceMul, spansCheck, spansCopy]
      · obtain ⟨ht1, ht2, ht3⟩ := ht
        have hat : (ruleTo 5 so cs i).getD t 0 = cs.getD t 0 := ruleTo_at ht1
        have hnext : cs.getD t 0 = 6 → ∀ k, i ≤ k → k < t + 1 → cs.getD k 0 = 6 := fun h k a b => by
          by_cases e : k < t
          · exact ht3 k a e
          · rw [show k = t by omega]; exact h
        have hit : ((t : Int) = cs.length ∨ ¬ cs.getD t 0 = 6) → i < t := fun h => by
          rcases Nat.lt_or_ge i t with g | g
          · exact g
          · exfalso
            obtain rfl : t = i := by omega
            omega
        rcases Nat.eq_zero_or_pos i with e0 | e0
        · have hneg : ((0 : Int) < (i : Int)) = False := by simp; omega
          refine run_ok (Cs := [spansCheck, spansCopy]) (stp := []) (inl := [43]) (unr := false) (cons_ok spansCheck_ok (cons_ok spansCopy_ok nil_ok)) 400 _ _ _ _ ?_
          simp (maxSteps := 4000000) only [go_sem, reduceIte, reduceCtorEq, Int.reduceEq, Nat.reduceEqDiff, Nat.reduceBEq, Int.reduceLE, Int.reduceLT, Int.reduceNeg, Nat.reduceAdd, Nat.reduceSub, Nat.reduceMul, Nat.reduceLeDiff, Int.reduceToNat, Int.reduceAdd, Int.reduceSub, Int.reduceMul, bIWr543, Try.f43, hlen, htk, hat, hneg, spansCheck, spansCopy]
          (repeat' (first | (apply And.intro) | (intro _) | (show staB _ _ = true; kernel_rfl) | (show dynB _ _ = true; kernel_rfl) | (show dynP _ _ _ = true; kernel_rfl)))
          all_goals try omega
          all_goals try contradiction
          · have hst := w5_row (sos := so) ht2 ht3 (by omega)
            refine OkQ.loop (α := Nat) [1, 2, 4, 5, 6, 7, 8, 9, 10, 11, 12, 13, 14, 15, 16, 17, 18, 19, 20, 21, 22, 23, 24, 25, 26, 27, 28, 29, 30, 31, 32, 33, 34, 35, 36, 37, 38, 39, 40, 41, 42, 43, 44, 45, 46, 47, 48, 49, 50, 51, 52, 53, 54, 55, 56, 57, 58, 59, 60, 61, 62, 63, 64, 65, 66, 67, 68, 69, 70, 71, 72, 73, 74, 75, 76, 77, 78, 79, 80, 81, 82, 83, 84, 85, 86] (fun k => [(4, .s (.int .i64 (k : Int)))]) (fun k => [(4, .arr false 1 (.int .u8) (ruleTo 5 so cs k))]) (fun k => i ≤ k ∧ k ≤ t) (fun k => t - k) i ⟨Nat.le_refl _, ht1⟩ ?_ fun k hk => ?_
            · simp (maxSteps := 4000000) only [go_sem, reduceIte, reduceCtorEq, Int.reduceEq, Nat.reduceEqDiff, Nat.reduceBEq, Int.reduceLE, Int.reduceLT, Int.reduceNeg, Nat.reduceAdd, Nat.reduceSub, Nat.reduceMul, Nat.reduceLeDiff, Int.reduceToNat, Int.reduceAdd, Int.reduceSub, Int.reduceMul, spansCheck, spansCopy]
            · obtain ⟨hk1, hk2⟩ := hk
              refine run_ok (Cs := [spansCheck, spansCopy]) (stp := []) (inl := [43]) (unr := false) (cons_ok spansCheck_ok (cons_ok spansCopy_ok nil_ok)) 400 _ _ _ _ ?_
              simp (maxSteps := 4000000) only [go_sem, reduceIte, reduceCtorEq, Int.reduceEq, Nat.reduceEqDiff, Nat.reduceBEq, Int.reduceLE, Int.reduceLT, Int.reduceNeg, Nat.reduceAdd, Nat.reduceSub, Nat.reduceMul, Nat.reduceLeDiff, Int.reduceToNat, Int.reduceAdd, Int.reduceSub, Int.reduceMul, bIWr543, Try.f43, hlen, htk, spansCheck, spansCopy]
              (repeat' (first | (apply And.intro) | (intro _) | (show staB _ _ = true; kernel_rfl) | (show dynB _ _ = true; kernel_rfl) | (show dynP _ _ _ = true; kernel_rfl)))
              all_goals try omega
              · exact ⟨k + 1, by omega, by omega, wr_succ (by omega), hst k hk1 (by omega), by simp [hlen]⟩
              · obtain rfl : k = t := by omega
                exact ⟨k, ⟨by omega, by omega⟩, by omega, rfl, rfl⟩
          · exact ⟨t, ⟨ht2, by omega⟩, by omega, rfl, (w5_no (sos := so) ht2 ht3 hprev (by omega) (by omega) (by omega) t ht1 (Nat.le_refl _)).symm⟩
          · exact ⟨t + 1, ⟨by omega, by omega, hnext (by omega)⟩, by omega, wr_succ (by omega)⟩
        · have hw : wr .i64 ((i : Int) - 1) = ((i - 1 : Nat) : Int) := by rw [wr_i64 (by omega) (by omega)]; omega
          have hpos : ((0 : Int) < (i : Int)) = True := by simp; omega
          refine run_ok (Cs := [spansCheck, spansCopy]) (stp := []) (inl := [43]) (unr := false) (cons_ok spansCheck_ok (cons_ok spansCopy_ok nil_ok)) 400 _ _ _ _ ?_
          simp (maxSteps := 4000000) only [go_sem, reduceIte, reduceCtorEq, Int.reduceEq, Nat.reduceEqDiff, Nat.reduceBEq, Int.reduceLE, Int.reduceLT, Int.reduceNeg, Nat.reduceAdd, Nat.reduceSub, Nat.reduceMul, Nat.reduceLeDiff, Int.reduceToNat, Int.reduceAdd, Int.reduceSub, Int.reduceMul, bIWr543, Try.f43, hlen, htk, hat, hw, hpos, spansCheck, spansCopy]
          (repeat' (first | (apply And.intro) | (intro _) | (show staB _ _ = true; kernel_rfl) | (show dynB _ _ = true; kernel_rfl) | (show dynP _ _ _ = true; kernel_rfl)))
          all_goals try omega
          all_goals try contradiction
          · have hst := w5_row (sos := so) ht2 ht3 (by omega)
            refine OkQ.loop (α := Nat) [1, 2, 4, 5, 6, 7, 8, 9, 10, 11, 12, 13, 14, 15, 16, 17, 18, 19, 20, 21, 22, 23, 24, 25, 26, 27, 28, 29, 30, 31, 32, 33, 34, 35, 36, 37, 38, 39, 40, 41, 42, 43, 44, 45, 46, 47, 48, 49, 50, 51, 52, 53, 54, 55, 56, 57, 58, 59, 60, 61, 62, 63, 64, 65, 66, 67, 68, 69, 70, 71, 72, 73, 74, 75, 76, 77, 78, 79, 80, 81, 82, 83, 84, 85, 86] (fun k => [(4, .s (.int .i64 (k : Int)))]) (fun k => [(4, .arr false 1 (.int .u8) (ruleTo 5 so cs k))]) (fun k => i ≤ k ∧ k ≤ t) (fun k => t - k) i ⟨Nat.le_refl _, ht1⟩ ?_ fun k hk => ?_
            · simp (maxSteps := 4000000) only [go_sem, reduceIte, reduceCtorEq, Int.reduceEq, Nat.reduceEqDiff, Nat.reduceBEq, Int.reduceLE, Int.reduceLT, Int.reduceNeg, Nat.reduceAdd, Nat.reduceSub, Nat.reduceMul, Nat.reduceLeDiff, Int.reduceToNat, Int.reduceAdd, Int.reduceSub, Int.reduceMul, spansCheck, spansCopy]
            · obtain ⟨hk1, hk2⟩ := hk
              refine run_ok (Cs := [spansCheck, spansCopy]) (stp := []) (inl := [43]) (unr := false) (cons_ok spansCheck_ok (cons_ok spansCopy_ok nil_ok)) 400 _ _ _ _ ?_
              simp (maxSteps := 4000000) only [go_sem, reduceIte, reduceCtorEq, Int.reduceEq, Nat.reduceEqDiff, Nat.reduceBEq, Int.reduceLE, Int.reduceLT, Int.reduceNeg, Nat.reduceAdd, Nat.reduceSub, Nat.reduceMul, Nat.reduceLeDiff, Int.reduceToNat, Int.reduceAdd, Int.reduceSub, Int.reduceMul, bIWr543, Try.f43, hlen, htk, spansCheck, spansCopy]
              (repeat' (first | (apply And.intro) | (intro _) | (show staB _ _ = true; kernel_rfl) | (show dynB _ _ = true; kernel_rfl) | (show dynP _ _ _ = true; kernel_rfl)))
              all_goals try omega
              · exact ⟨k + 1, by omega, by omega, wr_succ (by omega), hst k hk1 (by omega), by simp [hlen]⟩
              · obtain rfl : k = t := by omega
                exact ⟨k, ⟨by omega, by omega⟩, by omega, rfl, rfl⟩
          · exact ⟨t, ⟨ht2, by omega⟩, by omega, rfl, (w5_no (sos := so) ht2 ht3 hprev (by omega) (by omega) (by omega) t ht1 (Nat.le_refl _)).symm⟩
          · exact ⟨t + 1, ⟨by omega, by omega, hnext (by omega)⟩, by omega, wr_succ (by omega)⟩
    · exact hend i (by omega)

end Go.Proofs.Yteompacffdeekaa.Sx
