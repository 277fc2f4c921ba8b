/- The law WeakNear. -/
import Derived.Test.YtkpfgfomppidpaaWj
namespace Go.Proofs.Ytkpfgfomppidpaa.Sx
attribute [local irreducible] OkQ Ok OkP
set_option linter.unusedSimpArgs false
set_option linter.unusedVariables false
set_option maxRecDepth 8000

def lawWeakNear : Con := ⟨6, [(true, tSeq), (false, .int .i64), (false, tClasses)], [(false, .bool)], fun x => (tyL [(true, tSeq), (false, .int .i64), (false, tClasses)]).small x ∧ (tyL [(true, tSeq), (false, .int .i64), (false, tClasses)]).bulk x ≤ 1048576, fun _ => (true, ()), false⟩

set_option maxHeartbeats 2000000 in
theorem lawWeakNear_ok : lawWeakNear.Ok Try.prog := by
  refine con_q Try.func6 rfl (by decide) (fun x hx hp => run_ok (Cs := [awake18, weakResolve, lawWith18, ref18May]) (stp := []) (inl := []) (unr := false) (cons_ok awake18_ok (cons_ok weakResolve_ok (cons_ok lawWith18_ok (cons_ok ref18May_ok nil_ok)))) 400 _ _ _ _ ?_) (by decide)
  obtain ⟨⟨(ps : List Int), (cs : List Int), (l : Int), (so : Int), (eo : Int), ⟨⟩⟩, (n : Int), (m : List Int), ⟨⟩⟩ := x
  have hb := hp.2
  simp only [tyL, Ty.bulk, sum_ones] at hb
  clear hx hp
  by_cases hat : 0 ≤ n ∧ n < cs.length
  · by_cases hok : OkS ps cs l so eo
    · obtain ⟨a, rfl⟩ : ∃ a : Nat, n = a := ⟨n.toNat, by omega⟩
      have h3 : okB (ps, cs, l, so, eo, ()) = true := decide_eq_true hok
      have hpc : ps.length = cs.length := hok.2.1
      have g1 : ((a : Int) < 0) = False := eq_false (by omega)
      have g2 : ((cs.length : Int) ≤ (a : Int)) = False := eq_false (by omega)
      have g3 := wr_succ (n := a) (by omega)
      simp (maxSteps := 4000000) only [go_sem, reduceIte, reduceCtorEq, Int.reduceEq, Nat.reduceEqDiff, Nat.reduceBEq, Int.reduceLE, Int.reduceLT, Int.reduceNeg, Nat.reduceAdd, Nat.reduceSub, Nat.reduceMul, Nat.reduceLeDiff, Int.reduceToNat, Int.reduceAdd, Int.reduceSub, Int.reduceMul, Try.f6, lawWeakNear, h3, g1, g2, g3, awake18, weakResolve, lawWith18, ref18May]
      refine OkQ.loop (α := Nat) [0, 4, 5, 6, 8, 9, 10, 11, 12, 13, 14, 15, 16, 17, 18, 19, 20, 21, 22, 23, 24, 25, 26, 27, 28, 29, 30, 31, 32, 33, 34, 35, 36, 37, 38, 39, 40, 41, 42, 43, 44, 45, 46, 47, 48, 49, 50, 51, 52, 53, 54, 55, 56, 57, 58, 59, 60, 61, 62, 63, 64, 65, 66, 67, 68, 69, 70, 71, 72, 73, 74, 75, 76, 77, 78, 79, 80, 81, 82, 83, 84, 85, 86, 87, 88, 89, 90, 91, 92, 93, 94, 95, 96, 97, 98, 99, 100] (fun t => [(8, .s (.int .i64 (t : Int)))]) (fun _ => []) (fun t => a < t ∧ t ≤ cs.length ∧ ∀ j, a < j → j < t → cs.getD j 0 = 6 ∨ cs.getD j 0 = 9) (fun t => cs.length - t) (a + 1) ⟨by omega, by omega, fun j _ _ => by omega⟩ ?_ fun t ht => ?_
      · simp (maxSteps := 4000000) only [go_sem, reduceIte, reduceCtorEq, Int.reduceEq, Nat.reduceEqDiff, Nat.reduceBEq, Int.reduceLE, Int.reduceLT, Int.reduceNeg, Nat.reduceAdd, Nat.reduceSub, Nat.reduceMul, Nat.reduceLeDiff, Int.reduceToNat, Int.reduceAdd, Int.reduceSub, Int.reduceMul, awake18, weakResolve, lawWith18, ref18May]
      obtain ⟨ht1, ht2, ht3⟩ := ht
      have h1 : resolveE (ps, cs, l, so, eo, ()) = 0 := if_pos hok
      have h2 : resolveV (ps, cs, l, so, eo, ()) = (ps, weakC so cs, l, so, eo, ()) := if_pos hok
      have hl1 : (weakC so cs).length = cs.length := weakC_len
      have q1 : (0 : Int) ≤ (a : Int) := by omega
      have q2 : (a : Int) < (cs.length : Int) := by omega
      rcases Nat.lt_or_ge t cs.length with hlt | hge
      · have w1 := wr_succ (n := t) (by omega)
        have e0 : ((t : Int) < (cs.length : Int)) = True := eq_true (by omega)
        have e1 : (0 : Int) ≤ (t : Int) := by omega
        by_cases hc : cs.getD t 0 = 6 ∨ cs.getD t 0 = 9
        · clear h1 h2
          refine run_ok (Cs := [awake18, weakResolve, lawWith18, ref18May]) (stp := []) (inl := []) (unr := false) (cons_ok awake18_ok (cons_ok weakResolve_ok (cons_ok lawWith18_ok (cons_ok ref18May_ok nil_ok)))) 400 _ _ _ _ ?_
          simp (maxSteps := 4000000) only [go_sem, reduceIte, reduceCtorEq, Int.reduceEq, Nat.reduceEqDiff, Nat.reduceBEq, Int.reduceLE, Int.reduceLT, Int.reduceNeg, Nat.reduceAdd, Nat.reduceSub, Nat.reduceMul, Nat.reduceLeDiff, Int.reduceToNat, Int.reduceAdd, Int.reduceSub, Int.reduceMul, e0, e1, w1, hc, awake18, weakResolve, lawWith18, ref18May]
          (repeat' (first | (apply And.intro) | (intro _) | (show staB _ _ = true; kernel_rfl) | (show dynB _ _ = true; kernel_rfl) | (show dynP _ _ _ = true; kernel_rfl)))
          all_goals try omega
          exact ⟨t + 1, ⟨by omega, by omega, fun j g1 g2 => by
            by_cases e : j < t
            · exact ht3 j g1 e
            · rw [show j = t by omega]; exact hc⟩, by omega, rfl⟩
        · have e2 : (((cs.length : Int)) < ((t + 1 : Nat) : Int)) = False := eq_false (by omega)
          obtain ⟨pp, hpp⟩ : ∃ pp, ps.take (t + 1) = pp := ⟨_, rfl⟩
          obtain ⟨cc, hcc⟩ : ∃ cc, cs.take (t + 1) = cc := ⟨_, rfl⟩
          have hpl : pp.length = t + 1 := by rw [← hpp, List.length_take]; omega
          have hcl : cc.length = t + 1 := by rw [← hcc, List.length_take]; omega
          have hmv : moreV (pp, cc, l, so, eo, ()) m = (extP pp m.length, cc ++ m, l, so, eo, ()) := rfl
          have hnear : (weakC so (cc ++ m)).getD a 0 = (weakC so cs).getD a 0 := by
            refine (weak_near (e := t) ⟨by omega, by rw [List.length_append]; omega, fun i hi => ?_⟩ ht1 ht3 (by omega)).symm
            rw [← hcc]
            simp [List.getD_eq_getElem?_getD, List.getElem?_append_left (show i < (cs.take (t + 1)).length by rw [List.length_take]; omega), List.getElem?_take, hi]
          have hl2 : (weakC so (cc ++ m)).length = t + 1 + m.length := by rw [weakC_len, List.length_append, hcl]
          have ht4 := take_two cc m
          rw [hcl] at ht4
          have htw : (weakC so cs).take cs.length = weakC so cs := List.take_of_length_le (by omega)
          have q3 : (a : Int) < ((t + 1 + m.length : Nat) : Int) := by omega
          by_cases hok2 : OkS (extP pp m.length) (cc ++ m) l so eo
          · have h5 : resolveE (extP pp m.length, cc ++ m, l, so, eo, ()) = 0 := if_pos hok2
            have h6 : resolveV (extP pp m.length, cc ++ m, l, so, eo, ()) = (extP pp m.length, weakC so (cc ++ m), l, so, eo, ()) := if_pos hok2
            clear hok2
            generalize weakC so (cc ++ m) = W2 at *
            refine run_ok (Cs := [awake18, weakResolve, lawWith18, ref18May]) (stp := []) (inl := []) (unr := false) (cons_ok awake18_ok (cons_ok weakResolve_ok (cons_ok lawWith18_ok (cons_ok ref18May_ok nil_ok)))) 400 _ _ _ _ ?_
            simp (maxSteps := 4000000) only [go_sem, reduceIte, reduceCtorEq, Int.reduceEq, Nat.reduceEqDiff, Nat.reduceBEq, Int.reduceLE, Int.reduceLT, Int.reduceNeg, Nat.reduceAdd, Nat.reduceSub, Nat.reduceMul, Nat.reduceLeDiff, Int.reduceToNat, Int.reduceAdd, Int.reduceSub, Int.reduceMul, e0, e1, e2, w1, h1, h2, h5, h6, hl1, hl2, q1, q2, q3, hc, hpp, hcc, hpl, hcl, hmv, ht4, htw, hnear, awake18, weakResolve, lawWith18, ref18May]
            (repeat' (first | (apply And.intro) | (intro _) | (show staB _ _ = true; kernel_rfl) | (show dynB _ _ = true; kernel_rfl) | (show dynP _ _ _ = true; kernel_rfl)))
            all_goals first | omega | contradiction | fail
          · have h5 : resolveE (extP pp m.length, cc ++ m, l, so, eo, ()) = 170 := if_neg hok2
            clear hok2 hnear hl2
            refine run_ok (Cs := [awake18, weakResolve, lawWith18, ref18May]) (stp := []) (inl := []) (unr := false) (cons_ok awake18_ok (cons_ok weakResolve_ok (cons_ok lawWith18_ok (cons_ok ref18May_ok nil_ok)))) 400 _ _ _ _ ?_
            simp (maxSteps := 4000000) only [go_sem, reduceIte, reduceCtorEq, Int.reduceEq, Nat.reduceEqDiff, Nat.reduceBEq, Int.reduceLE, Int.reduceLT, Int.reduceNeg, Nat.reduceAdd, Nat.reduceSub, Nat.reduceMul, Nat.reduceLeDiff, Int.reduceToNat, Int.reduceAdd, Int.reduceSub, Int.reduceMul, e0, e1, e2, w1, h1, h2, h5, hl1, q1, q2, hc, hpp, hcc, hpl, hcl, hmv, ht4, htw, awake18, weakResolve, lawWith18, ref18May]
            (repeat' (first | (apply And.intro) | (intro _) | (show staB _ _ = true; kernel_rfl) | (show dynB _ _ = true; kernel_rfl) | (show dynP _ _ _ = true; kernel_rfl)))
            all_goals first | omega | contradiction | fail
      · have e0 : ((t : Int) < (cs.length : Int)) = False := eq_false (by omega)
        obtain rfl : t = cs.length := by omega
        have e2 : (((cs.length : Int)) < (cs.length : Int) + 1) = True := eq_true (by omega)
        have w1 := wr_succ (n := cs.length) (by omega)
        have e3 : (((cs.length : Int)) < ((cs.length + 1 : Nat) : Int)) = True := eq_true (by omega)
        have e4 : (((cs.length + 1 : Nat) : Int) < (cs.length : Int)) = False := eq_false (by omega)
        have htk : cs.take cs.length = cs := List.take_length
        have htp : ps.take cs.length = ps := List.take_of_length_le (by omega)
        have hmv : moreV (ps, cs, l, so, eo, ()) m = (extP ps m.length, cs ++ m, l, so, eo, ()) := rfl
        refine run_ok (Cs := [awake18, weakResolve, lawWith18, ref18May]) (stp := []) (inl := []) (unr := false) (cons_ok awake18_ok (cons_ok weakResolve_ok (cons_ok lawWith18_ok (cons_ok ref18May_ok nil_ok)))) 400 _ _ _ _ ?_
        simp (maxSteps := 4000000) only [go_sem, reduceIte, reduceCtorEq, Int.reduceEq, Nat.reduceEqDiff, Nat.reduceBEq, Int.reduceLE, Int.reduceLT, Int.reduceNeg, Nat.reduceAdd, Nat.reduceSub, Nat.reduceMul, Nat.reduceLeDiff, Int.reduceToNat, Int.reduceAdd, Int.reduceSub, Int.reduceMul, e0, e2, e3, e4, w1, h1, h2, hl1, q1, q2, htk, htp, hmv, take_two, awake18, weakResolve, lawWith18, ref18May]
        (repeat' (first | (apply And.intro) | (intro _) | (show staB _ _ = true; kernel_rfl) | (show dynB _ _ = true; kernel_rfl) | (show dynP _ _ _ = true; kernel_rfl)))
        all_goals first | omega | contradiction | fail
    · have h3 : okB (ps, cs, l, so, eo, ()) = false := decide_eq_false hok
      simp (maxSteps := 4000000) only [go_sem, reduceIte, reduceCtorEq, Int.reduceEq, Nat.reduceEqDiff, Nat.reduceBEq, Int.reduceLE, Int.reduceLT, Int.reduceNeg, Nat.reduceAdd, Nat.reduceSub, Nat.reduceMul, Nat.reduceLeDiff, Int.reduceToNat, Int.reduceAdd, Int.reduceSub, Int.reduceMul, Try.f6, lawWeakNear, h3, awake18, weakResolve, lawWith18, ref18May]
      (repeat' (first | (apply And.intro) | (intro _) | (show staB _ _ = true; kernel_rfl) | (show dynB _ _ = true; kernel_rfl) | (show dynP _ _ _ = true; kernel_rfl)))
      all_goals first | omega | fail
  · simp (maxSteps := 4000000) only [go_sem, reduceIte, reduceCtorEq, Int.reduceEq, Nat.reduceEqDiff, Nat.reduceBEq, Int.reduceLE, Int.reduceLT, Int.reduceNeg, Nat.reduceAdd, Nat.reduceSub, Nat.reduceMul, Nat.reduceLeDiff, Int.reduceToNat, Int.reduceAdd, Int.reduceSub, Int.reduceMul, Try.f6, lawWeakNear, awake18, weakResolve, lawWith18, ref18May]
    (repeat' (first | (apply And.intro) | (intro _) | (show staB _ _ = true; kernel_rfl) | (show dynB _ _ = true; kernel_rfl) | (show dynP _ _ _ = true; kernel_rfl)))
    all_goals first | omega | fail

end Go.Proofs.Ytkpfgfomppidpaa.Sx
