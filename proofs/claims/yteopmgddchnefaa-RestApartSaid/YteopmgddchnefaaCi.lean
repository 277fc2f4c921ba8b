/- Contracts: the document's Resolve. -/
import Derived.Test.YteopmgddchnefaaCh
namespace Go.Proofs.Yteopmgddchnefaa.Sx
attribute [local irreducible] OkQ Ok
set_option linter.unusedSimpArgs false
set_option linter.unusedVariables false
set_option maxRecDepth 8000

theorem refResolve_ok : refResolve.Ok Try.prog := by
  refine con_q Try.func27 rfl (by decide) (fun x hx hp => run_ok (Cs := [ref17Check, refEarly, refNeutral, refSide, refWay]) (stp := []) (inl := []) (unr := false) (cons_ok ref17Check_ok (cons_ok refEarly_ok (cons_ok refNeutral_ok (cons_ok refSide_ok (cons_ok refWay_ok nil_ok))))) 400 _ _ _ _ ?_) (by decide)
  obtain ⟨⟨(ps : List Int), (cs : List Int), (l : Int), (so : Int), (eo : Int), ⟨⟩⟩, ⟨⟩⟩ := x
  have hz1 : ps.length * 8 ≤ 140737488355328 := hx.1.1.1
  have hz2 : cs.length * 1 ≤ 140737488355328 := hx.1.2.1.1
  clear hp hx
  simp (maxSteps := 4000000) only [go_sem, reduceIte, reduceCtorEq, Int.reduceEq, Nat.reduceEqDiff, Nat.reduceBEq, Int.reduceLE, Int.reduceLT, Int.reduceNeg, Nat.reduceAdd, Nat.reduceSub, Nat.reduceMul, Nat.reduceLeDiff, Int.reduceToNat, Int.reduceAdd, Int.reduceSub, Int.reduceMul, Try.f27, refResolve, checkV, resolveV, resolveE, chkV_eq, ref17Check, refEarly, refNeutral, refSide, refWay]
  refine fun _ => ⟨fun h => ?_, fun hok => ?_⟩
  · have g : ¬ RsOk ps cs l so eo := fun g => h g.1
    exact ⟨⟨if_neg g, if_neg g, (if_neg g).symm, (if_neg g).symm, (if_neg g).symm⟩, by rw [rsE, if_neg h]⟩
  · have hlen : ps.length = cs.length := hok.2.1
    have hcl : ∀ i, i < cs.length → (earlyB (cs.getD i 0) = true ↔ (settB (cs.getD i 0) = false ∧ neutB (cs.getD i 0) = false)) := fun i hi => by
      obtain ⟨_, h1, h2, h3⟩ := hok.2.2.2.2.2.2 i (by omega)
      exact neut_sett h1 h2 h3
    have hne : ∀ i, i < cs.length → earlyB (cs.getD i 0) = true → ¬ NoEarly cs := fun i hi h g => by
      have := g _ (getD_mem 0 hi)
      rw [h] at this; cases this
    refine OkQ.loop (α := Nat) [0, 3, 4, 5, 6, 7, 8, 9, 10, 11, 12, 13, 14, 15, 16, 17, 18, 19, 20, 21, 22, 23, 24, 25, 26, 27, 28, 29, 30, 31, 32, 33, 34, 35, 36, 37, 38, 39, 40, 41, 42, 43, 44, 45, 46, 47, 48, 49, 50, 51, 52, 53, 54, 55, 56, 57, 58, 59, 60, 61, 62, 63, 64, 65, 66, 67, 68, 69, 70, 71, 72, 73, 74, 75, 76, 77, 78, 79, 80, 81, 82, 83, 84, 85, 86, 87, 88, 89, 90, 91, 92, 93, 94, 95, 96, 97, 98, 99, 100, 101, 102, 103, 104, 105, 106, 107, 108, 109, 110] (fun i => [(4, .s (.int .i64 (i : Int)))]) (fun _ => []) (fun i => i ≤ cs.length ∧ ∀ j, j < i → earlyB (cs.getD j 0) = false) (fun i => cs.length - i) 0 ⟨by simp, by simp⟩ ?_ fun i hi => ?_
    · simp (maxSteps := 4000000) only [go_sem, reduceIte, reduceCtorEq, Int.reduceEq, Nat.reduceEqDiff, Nat.reduceBEq, Int.reduceLE, Int.reduceLT, Int.reduceNeg, Nat.reduceAdd, Nat.reduceSub, Nat.reduceMul, Nat.reduceLeDiff, Int.reduceToNat, Int.reduceAdd, Int.reduceSub, Int.reduceMul, ref17Check, refEarly, refNeutral, refSide, refWay]
      simp
    · refine run_ok (Cs := [ref17Check, refEarly, refNeutral, refSide, refWay]) (stp := []) (inl := []) (unr := false) (cons_ok ref17Check_ok (cons_ok refEarly_ok (cons_ok refNeutral_ok (cons_ok refSide_ok (cons_ok refWay_ok nil_ok))))) 400 _ _ _ _ ?_
      simp (maxSteps := 4000000) only [go_sem, reduceIte, reduceCtorEq, Int.reduceEq, Nat.reduceEqDiff, Nat.reduceBEq, Int.reduceLE, Int.reduceLT, Int.reduceNeg, Nat.reduceAdd, Nat.reduceSub, Nat.reduceMul, Nat.reduceLeDiff, Int.reduceToNat, Int.reduceAdd, Int.reduceSub, Int.reduceMul, ref17Check, refEarly, refNeutral, refSide, refWay]
      obtain ⟨hi, ht⟩ := hi
      (repeat' (first | (apply And.intro) | (intro _) | (show staB _ _ = true; kernel_rfl) | (show dynB _ _ = true; kernel_rfl)))
      all_goals try omega
      · rename_i hlt hg
        exact if_neg fun g => hne i (by omega) hg g.2
      · rename_i hlt hg
        exact if_neg fun g => hne i (by omega) hg g.2
      · rename_i hlt hg
        exact (if_neg fun g => hne i (by omega) hg g.2).symm
      · rename_i hlt hg
        exact (if_neg fun g => hne i (by omega) hg g.2).symm
      · rename_i hlt hg
        exact (if_neg fun g => hne i (by omega) hg g.2).symm
      · rename_i hlt hg
        rw [rsE, if_pos hok, if_neg (hne i (by omega) hg)]
      · rename_i hlt hg
        refine ⟨i + 1, ⟨by omega, fun j hj => ?_⟩, by omega, by rw [wr_i64 (by omega) (by omega)]; simp⟩
        by_cases e : j < i
        · exact ht j e
        · rw [show j = i by omega]; exact hg
      · have hR : RsOk ps cs l so eo := ⟨hok, fun c hc => by
          obtain ⟨j, hj, rfl⟩ := List.mem_iff_getElem.1 hc
          rw [← getD_at 0 hj]; exact ht j (by omega)⟩
        rw [show rsP ps cs l so eo = ps from if_pos hR, show rsK ps cs l so eo = resC cs l so eo from if_pos hR, show rsN ps cs l so eo l = l from if_pos hR, show rsN ps cs l so eo so = so from if_pos hR, show rsN ps cs l so eo eo = eo from if_pos hR,
          show rsE ps cs l so eo = 0 by rw [rsE, if_pos hR.1, if_pos hR.2]]
        clear hi ht hcl
        refine OkQ.virt 1 (.int .u8) ?_
        refine OkQ.loop (α := Nat) [0, 3, 4, 6, 7, 8, 9, 10, 11, 12, 13, 14, 15, 16, 17, 18, 19, 20, 21, 22, 23, 24, 25, 26, 27, 28, 29, 30, 31, 32, 33, 34, 35, 36, 37, 38, 39, 40, 41, 42, 43, 44, 45, 46, 47, 48, 49, 50, 51, 52, 53, 54, 55, 56, 57, 58, 59, 60, 61, 62, 63, 64, 65, 66, 67, 68, 69, 70, 71, 72, 73, 74, 75, 76, 77, 78, 79, 80, 81, 82, 83, 84, 85, 86, 87, 88, 89, 90, 91, 92, 93, 94, 95, 96, 97, 98, 99, 100, 101, 102, 103, 104, 105, 106, 107, 108, 109, 110] (fun i => [(6, .s (.int .i64 (i : Int)))]) (fun i => [(3, .box [.sub 2 0 ps.length, .sub 4 0 i, .int .i8 l, .int .u8 so, .int .u8 eo]), (4, .arr false 1 (.int .u8) ((resC cs l so eo).take i))]) (fun i => i ≤ cs.length) (fun i => cs.length - i) 0 (Nat.zero_le _) ?_ fun i hi => ?_
        · simp (maxSteps := 4000000) only [go_sem, reduceIte, reduceCtorEq, Int.reduceEq, Nat.reduceEqDiff, Nat.reduceBEq, Int.reduceLE, Int.reduceLT, Int.reduceNeg, Nat.reduceAdd, Nat.reduceSub, Nat.reduceMul, Nat.reduceLeDiff, Int.reduceToNat, Int.reduceAdd, Int.reduceSub, Int.reduceMul, ref17Check, refEarly, refNeutral, refSide, refWay]
          simp
        · refine run_ok (Cs := [refNeutral, refSide, refWay]) (stp := [14, 25]) (inl := []) (unr := false) (cons_ok refNeutral_ok (cons_ok refSide_ok (cons_ok refWay_ok nil_ok))) 400 _ _ _ _ ?_
          simp (maxSteps := 4000000) only [go_sem, reduceIte, reduceCtorEq, Int.reduceEq, Nat.reduceEqDiff, Nat.reduceBEq, Int.reduceLE, Int.reduceLT, Int.reduceNeg, Nat.reduceAdd, Nat.reduceSub, Nat.reduceMul, Nat.reduceLeDiff, Int.reduceToNat, Int.reduceAdd, Int.reduceSub, Int.reduceMul, refNeutral, refSide, refWay]
          (repeat' (first | (apply And.intro) | (intro _) | (show staB _ _ = true; kernel_rfl) | (show dynB _ _ = true; kernel_rfl)))
          all_goals try omega
          · rename_i hlt hni
            have hlt' : i < cs.length := by omega
            refine run_ok (Cs := [refNeutral, refSide, refWay]) (stp := []) (inl := []) (unr := false) (cons_ok refNeutral_ok (cons_ok refSide_ok (cons_ok refWay_ok nil_ok))) 400 _ _ _ _ ?_
            simp (maxSteps := 4000000) only [go_sem, reduceIte, reduceCtorEq, Int.reduceEq, Nat.reduceEqDiff, Nat.reduceBEq, Int.reduceLE, Int.reduceLT, Int.reduceNeg, Nat.reduceAdd, Nat.reduceSub, Nat.reduceMul, Nat.reduceLeDiff, Int.reduceToNat, Int.reduceAdd, Int.reduceSub, Int.reduceMul, refNeutral, refSide, refWay]
            (repeat' (first | (apply And.intro) | (intro _) | (show staB _ _ = true; kernel_rfl) | (show dynB _ _ = true; kernel_rfl)))
            refine OkQ.cut 2 (α := Unit) [0, 3, 4, 7, 8, 10, 11, 12, 13, 14, 15, 16, 17, 18, 19, 20, 21, 22, 23, 24, 25, 26, 27, 28, 29, 30, 31, 32, 33, 34, 35, 36, 37, 38, 39, 40, 41, 42, 43, 44, 45, 46, 47, 48, 49, 50, 51, 52, 53, 54, 55, 56, 57, 58, 59, 60, 61, 62, 63, 64, 65, 66, 67, 68, 69, 70, 71, 72, 73, 74, 75, 76, 77, 78, 79, 80, 81, 82, 83, 84, 85, 86, 87, 88, 89, 90, 91, 92, 93, 94, 95, 96, 97, 98, 99, 100, 101, 102, 103, 104, 105, 106, 107, 108, 109, 110] (fun _ => [(8, .s (.int .u8 (ahdAt cs so i)))]) (fun _ => []) 5 (fun _ => True) rfl ?_ fun _ _ => ?_
            · simp only [List.take_succ_cons, List.take_zero, List.drop_succ_cons, List.drop_zero, List.cons_append, List.nil_append]
              refine OkQ.loop (α := Nat) [0, 3, 4, 7, 8, 10, 11, 12, 13, 14, 15, 16, 17, 18, 19, 20, 21, 22, 23, 24, 25, 26, 27, 28, 29, 30, 31, 32, 33, 34, 35, 36, 37, 38, 39, 40, 41, 42, 43, 44, 45, 46, 47, 48, 49, 50, 51, 52, 53, 54, 55, 56, 57, 58, 59, 60, 61, 62, 63, 64, 65, 66, 67, 68, 69, 70, 71, 72, 73, 74, 75, 76, 77, 78, 79, 80, 81, 82, 83, 84, 85, 86, 87, 88, 89, 90, 91, 92, 93, 94, 95, 96, 97, 98, 99, 100, 101, 102, 103, 104, 105, 106, 107, 108, 109, 110] (fun m => [(8, .s (.int .u8 so)), (10, .s (.int .i64 ((m : Int) - 1)))]) (fun _ => []) (fun m => m ≤ i + 1 ∧ ∀ j, m ≤ j → j < i + 1 → neutB (cs.getD j 0) = true) (fun m => m) (i + 1) ⟨Nat.le_refl _, fun j h1 h2 => by omega⟩ ?_ fun m hm => ?_
              · simp (maxSteps := 4000000) only [go_sem, reduceIte, reduceCtorEq, Int.reduceEq, Nat.reduceEqDiff, Nat.reduceBEq, Int.reduceLE, Int.reduceLT, Int.reduceNeg, Nat.reduceAdd, Nat.reduceSub, Nat.reduceMul, Nat.reduceLeDiff, Int.reduceToNat, Int.reduceAdd, Int.reduceSub, Int.reduceMul, refNeutral, refSide, refWay]
                simp
              · refine run_ok (Cs := [refNeutral, refSide, refWay]) (stp := []) (inl := []) (unr := false) (cons_ok refNeutral_ok (cons_ok refSide_ok (cons_ok refWay_ok nil_ok))) 400 _ _ _ _ ?_
                simp (maxSteps := 4000000) only [go_sem, reduceIte, reduceCtorEq, Int.reduceEq, Nat.reduceEqDiff, Nat.reduceBEq, Int.reduceLE, Int.reduceLT, Int.reduceNeg, Nat.reduceAdd, Nat.reduceSub, Nat.reduceMul, Nat.reduceLeDiff, Int.reduceToNat, Int.reduceAdd, Int.reduceSub, Int.reduceMul, refNeutral, refSide, refWay]
                obtain ⟨hm1, hm2⟩ := hm
                have hpos : 0 ≤ (m : Int) - 1 → 0 < m ∧ ((m : Int) - 1).toNat = m - 1 := fun h => by omega
                (repeat' (first | (apply And.intro) | (intro _) | (show staB _ _ = true; kernel_rfl) | (show dynB _ _ = true; kernel_rfl)))
                all_goals try omega
                · rename_i h1 h2 _
                  obtain ⟨h3, h4⟩ := hpos h1
                  rw [h4] at h2 ⊢
                  refine ⟨(), ?_⟩
                  have h5 : m ≤ i := by
                    rcases Nat.lt_or_ge i m with h | h
                    · rw [show m - 1 = i by omega, hni] at h2; cases h2
                    · exact h
                  rw [ahdAt_row h5 fun j a b => hm2 j a (by omega)]
                  rw [show m = (m - 1) + 1 by omega, ahdAt, show m - 1 + 1 - 1 = m - 1 by omega, h2]
                  rfl
                · rename_i h1 h2
                  obtain ⟨h3, h4⟩ := hpos h1
                  rw [h4] at h2
                  refine ⟨m - 1, ⟨by omega, fun j a b => ?_⟩, by omega, by rw [wr_i64 (by omega) (by omega)]; omega⟩
                  by_cases e : m ≤ j
                  · exact hm2 j e b
                  · rw [show j = m - 1 by omega]; exact h2
                · rename_i h1
                  refine ⟨(), ?_⟩
                  obtain rfl : m = 0 := by omega
                  rw [ahdAt_row (Nat.zero_le i) fun j a b => hm2 j a (by omega)]
                  rfl
            · refine run_ok (Cs := [refNeutral, refSide, refWay]) (stp := []) (inl := []) (unr := false) (cons_ok refNeutral_ok (cons_ok refSide_ok (cons_ok refWay_ok nil_ok))) 400 _ _ _ _ ?_
              simp (maxSteps := 4000000) only [go_sem, reduceIte, reduceCtorEq, Int.reduceEq, Nat.reduceEqDiff, Nat.reduceBEq, Int.reduceLE, Int.reduceLT, Int.reduceNeg, Nat.reduceAdd, Nat.reduceSub, Nat.reduceMul, Nat.reduceLeDiff, Int.reduceToNat, Int.reduceAdd, Int.reduceSub, Int.reduceMul, refNeutral, refSide, refWay]
              refine OkQ.cut 2 (α := Unit) [0, 3, 4, 7, 9, 10, 11, 12, 13, 14, 15, 16, 17, 18, 19, 20, 21, 22, 23, 24, 25, 26, 27, 28, 29, 30, 31, 32, 33, 34, 35, 36, 37, 38, 39, 40, 41, 42, 43, 44, 45, 46, 47, 48, 49, 50, 51, 52, 53, 54, 55, 56, 57, 58, 59, 60, 61, 62, 63, 64, 65, 66, 67, 68, 69, 70, 71, 72, 73, 74, 75, 76, 77, 78, 79, 80, 81, 82, 83, 84, 85, 86, 87, 88, 89, 90, 91, 92, 93, 94, 95, 96, 97, 98, 99, 100, 101, 102, 103, 104, 105, 106, 107, 108, 109, 110] (fun _ => [(9, .s (.int .u8 (bhdAt cs eo i)))]) (fun _ => []) 5 (fun _ => True) rfl ?_ fun _ _ => ?_
              · simp only [List.take_succ_cons, List.take_zero, List.drop_succ_cons, List.drop_zero, List.cons_append, List.nil_append]
                refine OkQ.loop (α := Nat) [0, 3, 4, 7, 9, 10, 11, 12, 13, 14, 15, 16, 17, 18, 19, 20, 21, 22, 23, 24, 25, 26, 27, 28, 29, 30, 31, 32, 33, 34, 35, 36, 37, 38, 39, 40, 41, 42, 43, 44, 45, 46, 47, 48, 49, 50, 51, 52, 53, 54, 55, 56, 57, 58, 59, 60, 61, 62, 63, 64, 65, 66, 67, 68, 69, 70, 71, 72, 73, 74, 75, 76, 77, 78, 79, 80, 81, 82, 83, 84, 85, 86, 87, 88, 89, 90, 91, 92, 93, 94, 95, 96, 97, 98, 99, 100, 101, 102, 103, 104, 105, 106, 107, 108, 109, 110] (fun m => [(9, .s (.int .u8 eo)), (11, .s (.int .i64 (m : Int)))]) (fun _ => []) (fun m => i ≤ m ∧ m ≤ cs.length ∧ ∀ j, i ≤ j → j < m → neutB (cs.getD j 0) = true) (fun m => cs.length - m) i ⟨Nat.le_refl _, hi, fun j h1 h2 => by omega⟩ ?_ fun m hm => ?_
                · simp (maxSteps := 4000000) only [go_sem, reduceIte, reduceCtorEq, Int.reduceEq, Nat.reduceEqDiff, Nat.reduceBEq, Int.reduceLE, Int.reduceLT, Int.reduceNeg, Nat.reduceAdd, Nat.reduceSub, Nat.reduceMul, Nat.reduceLeDiff, Int.reduceToNat, Int.reduceAdd, Int.reduceSub, Int.reduceMul, refNeutral, refSide, refWay]
                · refine run_ok (Cs := [refNeutral, refSide, refWay]) (stp := []) (inl := []) (unr := false) (cons_ok refNeutral_ok (cons_ok refSide_ok (cons_ok refWay_ok nil_ok))) 400 _ _ _ _ ?_
                  simp (maxSteps := 4000000) only [go_sem, reduceIte, reduceCtorEq, Int.reduceEq, Nat.reduceEqDiff, Nat.reduceBEq, Int.reduceLE, Int.reduceLT, Int.reduceNeg, Nat.reduceAdd, Nat.reduceSub, Nat.reduceMul, Nat.reduceLeDiff, Int.reduceToNat, Int.reduceAdd, Int.reduceSub, Int.reduceMul, refNeutral, refSide, refWay]
                  obtain ⟨hm1, hm2, hm3⟩ := hm
                  (repeat' (first | (apply And.intro) | (intro _) | (show staB _ _ = true; kernel_rfl) | (show dynB _ _ = true; kernel_rfl)))
                  all_goals try omega
                  · rename_i h1 h2 _
                    refine ⟨(), ?_⟩
                    rw [bhdAt_row hm2 (d := m - i) rfl hm1 hm3, bhdAt_in (by omega), h2]
                    rfl
                  · rename_i h1 h2
                    refine ⟨m + 1, ⟨by omega, by omega, fun j a b => ?_⟩, by omega, by rw [wr_i64 (by omega) (by omega)]; simp⟩
                    by_cases e : j < m
                    · exact hm3 j a e
                    · rw [show j = m by omega]; exact h2
                  · rename_i h1
                    refine ⟨(), ?_⟩
                    rw [bhdAt_row hm2 (d := m - i) rfl hm1 hm3, bhdAt_out (by omega)]
              · refine run_ok (Cs := [refNeutral, refSide, refWay]) (stp := []) (inl := []) (unr := false) (cons_ok refNeutral_ok (cons_ok refSide_ok (cons_ok refWay_ok nil_ok))) 400 _ _ _ _ ?_
                simp (maxSteps := 4000000) only [go_sem, reduceIte, reduceCtorEq, Int.reduceEq, Nat.reduceEqDiff, Nat.reduceBEq, Int.reduceLE, Int.reduceLT, Int.reduceNeg, Nat.reduceAdd, Nat.reduceSub, Nat.reduceMul, Nat.reduceLeDiff, Int.reduceToNat, Int.reduceAdd, Int.reduceSub, Int.reduceMul, refNeutral, refSide, refWay]
                (repeat' (first | (apply And.intro) | (intro _) | (show staB _ _ = true; kernel_rfl) | (show dynB _ _ = true; kernel_rfl)))
                · simp; omega
                · rename_i h1
                  refine ⟨i + 1, by omega, by omega, by rw [wr_i64 (by omega) (by omega)]; simp, by simp [resC_len]; omega, ?_⟩
                  rw [List.take_of_length_le (i := i) (by simp [resC_len]; omega), resC_next hlt', resAt, if_pos hni, if_pos h1]
                · simp; omega
                · rename_i h1
                  refine ⟨i + 1, by omega, by omega, by rw [wr_i64 (by omega) (by omega)]; simp, by simp [resC_len]; omega, ?_⟩
                  rw [List.take_of_length_le (i := i) (by simp [resC_len]; omega), resC_next hlt', resAt, if_pos hni, if_neg h1]
          · simp; omega
          · rename_i hlt hni
            have hlt' : i < cs.length := by omega
            refine ⟨i + 1, by omega, by omega, by rw [wr_i64 (by omega) (by omega)]; simp, by simp [resC_len]; omega, ?_⟩
            rw [List.take_of_length_le (i := i) (by simp [resC_len]; omega), resC_next hlt', resAt, hni]
            rfl
          · rw [List.take_of_length_le (by simp [resC_len]; omega), List.take_of_length_le (by rw [resC_len]; omega)]

end Go.Proofs.Yteopmgddchnefaa.Sx
