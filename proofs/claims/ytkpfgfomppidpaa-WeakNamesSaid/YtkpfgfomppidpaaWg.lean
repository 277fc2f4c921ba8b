/- The laws WeakNames, WeakAgain, WeakLeft. -/
import Derived.Test.YtkpfgfomppidpaaWf
import Derived.Test.YtkpfgfomppidpaaLy
namespace Go.Proofs.Ytkpfgfomppidpaa.Sx
attribute [local irreducible] OkQ Ok OkP
set_option linter.unusedSimpArgs false
set_option linter.unusedVariables false
set_option maxRecDepth 8000

def lawWeakNames : Con := ⟨9, [], [(false, .bool)], (tyL []).small, fun _ => (true, ()), false⟩
theorem lawWeakNames_ok : lawWeakNames.Ok Try.prog := by
  refine con_q Try.func9 rfl (by decide) (fun x hx hp => run_ok (Cs := [awake18]) (stp := []) (inl := []) (unr := false) (cons_ok awake18_ok nil_ok) 400 _ _ _ _ ?_) (by decide)
  simp (maxSteps := 4000000) only [go_sem, reduceIte, reduceCtorEq, Int.reduceEq, Nat.reduceEqDiff, Nat.reduceBEq, Int.reduceLE, Int.reduceLT, Int.reduceNeg, Nat.reduceAdd, Nat.reduceSub, Nat.reduceMul, Nat.reduceLeDiff, Int.reduceToNat, Int.reduceAdd, Int.reduceSub, Int.reduceMul, Try.f9, lawWeakNames, awake18]

theorem ruleE_zero {n : Int} {s : tSeq.den} (h : ruleE n s = 0) : OkSeq s ∧ 1 ≤ n ∧ n ≤ 7 := by
  unfold ruleE at h
  split at h
  · rename_i hok
    split at h
    · rename_i hn; exact ⟨hok, hn⟩
    · omega
  · omega

def lawWeakAgain : Con := ⟨8, [(false, .int .i64), (true, tSeq)], [(false, .bool)], (tyL [(false, .int .i64), (true, tSeq)]).small, fun _ => (true, ()), false⟩
theorem lawWeakAgain_ok : lawWeakAgain.Ok Try.prog := by
  refine con_q Try.func8 rfl (by decide) (fun x hx hp => run_ok (Cs := [awake18, weakRule, ref18Same]) (stp := []) (inl := []) (unr := false) (cons_ok awake18_ok (cons_ok weakRule_ok (cons_ok ref18Same_ok nil_ok))) 400 _ _ _ _ ?_) (by decide)
  obtain ⟨(n : Int), ⟨(ps : List Int), (cs : List Int), (l : Int), (so : Int), (eo : Int), ⟨⟩⟩, ⟨⟩⟩ := x
  clear hx hp
  by_cases h : OkS ps cs l so eo ∧ (n = 3 ∨ n = 5 ∨ n = 6 ∨ n = 7)
  · obtain ⟨hok, hn⟩ := h
    have h1 : ruleE n (ps, cs, l, so, eo, ()) = 0 := ruleE_ok hok (by omega) (by omega)
    have h2 : ruleV n (ps, cs, l, so, eo, ()) = (ps, ruleC n so cs, l, so, eo, ()) := ruleV_ok hok (by omega) (by omega)
    have h3 : ruleE n (ps, ruleC n so cs, l, so, eo, ()) = 0 := ruleE_ok (okS_rule hok) (by omega) (by omega)
    have h4 : ruleV n (ps, ruleC n so cs, l, so, eo, ()) = (ps, ruleC n so cs, l, so, eo, ()) := by
      rw [ruleV_ok (show OkSeq (ps, ruleC n so cs, l, so, eo, ()) from okS_rule hok) (by omega) (by omega)]
      have : ruleC n so (ruleC n so cs) = ruleC n so cs := by
        rcases hn with rfl | rfl | rfl | rfl
        · exact again3
        · exact again5
        · exact again6
        · exact again7
      show (ps, ruleC n so (ruleC n so cs), l, so, eo, ()) = _
      rw [this]
    have h5 : sameSeq (ps, ruleC n so cs, l, so, eo, ()) (ps, ruleC n so cs, l, so, eo, ()) = true := sameSeq_iff.2 rfl
    simp (maxSteps := 4000000) only [go_sem, reduceIte, reduceCtorEq, Int.reduceEq, Nat.reduceEqDiff, Nat.reduceBEq, Int.reduceLE, Int.reduceLT, Int.reduceNeg, Nat.reduceAdd, Nat.reduceSub, Nat.reduceMul, Nat.reduceLeDiff, Int.reduceToNat, Int.reduceAdd, Int.reduceSub, Int.reduceMul, Try.f8, lawWeakAgain, h1, h2, h3, h4, h5, awake18, weakRule, ref18Same]
    (repeat' (first | (apply And.intro) | (intro _) | (show staB _ _ = true; kernel_rfl) | (show dynB _ _ = true; kernel_rfl)))
    all_goals try omega
  · have hz : ruleE n (ps, cs, l, so, eo, ()) = 0 → ¬ (n = 3 ∨ n = 5 ∨ n = 6 ∨ n = 7) := fun hE hn => h ⟨(ruleE_zero hE).1, hn⟩
    simp (maxSteps := 4000000) only [go_sem, reduceIte, reduceCtorEq, Int.reduceEq, Nat.reduceEqDiff, Nat.reduceBEq, Int.reduceLE, Int.reduceLT, Int.reduceNeg, Nat.reduceAdd, Nat.reduceSub, Nat.reduceMul, Nat.reduceLeDiff, Int.reduceToNat, Int.reduceAdd, Int.reduceSub, Int.reduceMul, Try.f8, lawWeakAgain, awake18, weakRule, ref18Same]
    generalize ruleE n (ps, cs, l, so, eo, ()) = e at *
    (repeat' (first | (apply And.intro) | (intro _) | (show staB _ _ = true; kernel_rfl) | (show dynB _ _ = true; kernel_rfl)))
    all_goals try omega
    all_goals exfalso
    all_goals omega

def lawWeakLeft : Con := ⟨5, [(true, tSeq)], [(false, .bool)], (tyL [(true, tSeq)]).small, fun _ => (true, ()), false⟩
set_option maxHeartbeats 2000000 in
theorem lawWeakLeft_ok : lawWeakLeft.Ok Try.prog := by
  refine con_q Try.func5 rfl (by decide) (fun x hx hp => run_ok (Cs := [awake18, weakResolve, ref18May]) (stp := []) (inl := []) (unr := false) (cons_ok awake18_ok (cons_ok weakResolve_ok (cons_ok ref18May_ok nil_ok))) 400 _ _ _ _ ?_) (by decide)
  obtain ⟨⟨(ps : List Int), (cs : List Int), (l : Int), (so : Int), (eo : Int), ⟨⟩⟩, ⟨⟩⟩ := x
  have hz1 : ps.length * 8 ≤ 140737488351232 := hp.1.1.1
  have hz2 : cs.length * 1 ≤ 140737488351232 := hp.1.2.1.1
  clear hx hp
  by_cases hok : OkS ps cs l so eo
  · have h1 : resolveE (ps, cs, l, so, eo, ()) = 0 := if_pos hok
    have h2 : resolveV (ps, cs, l, so, eo, ()) = (ps, weakC so cs, l, so, eo, ()) := if_pos hok
    have hso : so = 1 ∨ so = 2 := hok.2.2.2.2.1
    have hcl : Cls (fun c => 1 ≤ c ∧ c ≤ 23 ∧ remB c = false) cs := fun i hi => by
      obtain ⟨_, q2, q3, q4⟩ := hok.2.2.2.2.2.2 i (by rw [hok.2.1]; exact hi)
      exact ⟨q2, q3, q4⟩
    have hleft := weak_left hso hcl
    have hstay : ∀ i, i < cs.length → Stays (cs.getD i 0) → (weakC so cs).getD i 0 = cs.getD i 0 := fun i hi h => weak_stays hi h
    have hen : ∀ i, i < cs.length → (weakC so cs).getD i 0 = 4 → ¬ lookV st2 (weakC so cs) so i = 1 := fun i hi h => weak_en hi h
    have hlk : ∀ i, lookV st2 (weakC so cs) so i = 1 ∨ lookV st2 (weakC so cs) so i = 2 := look12 hso
    have hlen : (weakC so cs).length = cs.length := weakC_len
    clear hok hcl
    simp (maxSteps := 4000000) only [go_sem, reduceIte, reduceCtorEq, Int.reduceEq, Nat.reduceEqDiff, Nat.reduceBEq, Int.reduceLE, Int.reduceLT, Int.reduceNeg, Nat.reduceAdd, Nat.reduceSub, Nat.reduceMul, Nat.reduceLeDiff, Int.reduceToNat, Int.reduceAdd, Int.reduceSub, Int.reduceMul, Try.f5, lawWeakLeft, h1, h2, awake18, weakResolve, ref18May]
    generalize weakC so cs = W at *
    (repeat' (first | (apply And.intro) | (intro _) | (show staB _ _ = true; kernel_rfl) | (show dynB _ _ = true; kernel_rfl)))
    all_goals try omega
    refine OkQ.loop (α := Nat) [0, 2, 4, 5, 6, 7, 8, 9, 10, 11, 12, 13, 14, 15, 16, 17, 18, 19, 20, 21, 22, 23, 24, 25, 26, 27, 28, 29, 30, 31, 32, 33, 34, 35, 36, 37, 38, 39, 40, 41, 42, 43, 44, 45, 46, 47, 48, 49, 50, 51, 52, 53, 54, 55, 56, 57, 58, 59, 60, 61, 62, 63, 64, 65, 66, 67, 68, 69, 70, 71, 72, 73, 74, 75, 76, 77, 78, 79, 80, 81, 82, 83, 84, 85, 86, 87, 88, 89, 90, 91, 92, 93, 94, 95, 96, 97, 98, 99, 100, 101, 102, 103, 104, 105, 106, 107, 108, 109, 110, 111, 112, 113, 114, 115, 116, 117, 118, 119, 120] (fun i => [(5, .s (.int .u8 (lookV st2 W so i))), (6, .s (.int .i64 (i : Int)))]) (fun _ => []) (fun i => i ≤ cs.length) (fun i => cs.length - i) 0 (Nat.zero_le _) ?_ fun i hi => ?_
    · simp (maxSteps := 4000000) only [go_sem, reduceIte, reduceCtorEq, Int.reduceEq, Nat.reduceEqDiff, Nat.reduceBEq, Int.reduceLE, Int.reduceLT, Int.reduceNeg, Nat.reduceAdd, Nat.reduceSub, Nat.reduceMul, Nat.reduceLeDiff, Int.reduceToNat, Int.reduceAdd, Int.reduceSub, Int.reduceMul, awake18, weakResolve, ref18May]
      simp [lookV]
    · rcases Nat.lt_or_ge i cs.length with hlt | hge
      · have hL := hleft i (by omega)
        have hS := hstay i hlt
        have hE := hen i hlt
        have hK := hlk i
        have hN1 : W.getD i 0 = 1 ∨ W.getD i 0 = 2 → W.getD i 0 = lookV st2 W so (i + 1) := fun h => (lookV_hit (by rw [st2t]; exact h)).symm
        have hN2 : ¬ (W.getD i 0 = 1 ∨ W.getD i 0 = 2) → lookV st2 W so i = lookV st2 W so (i + 1) := fun h => (lookV_skip (by rw [st2f]; exact h)).symm
        clear hleft hstay hen hlk h1 h2
        unfold Lefts at hL
        unfold Stays at hS
        refine run_ok (Cs := [awake18, weakResolve, ref18May]) (stp := []) (inl := []) (unr := false) (cons_ok awake18_ok (cons_ok weakResolve_ok (cons_ok ref18May_ok nil_ok))) 400 _ _ _ _ ?_
        simp (maxSteps := 4000000) only [go_sem, reduceIte, reduceCtorEq, Int.reduceEq, Nat.reduceEqDiff, Nat.reduceBEq, Int.reduceLE, Int.reduceLT, Int.reduceNeg, Nat.reduceAdd, Nat.reduceSub, Nat.reduceMul, Nat.reduceLeDiff, Int.reduceToNat, Int.reduceAdd, Int.reduceSub, Int.reduceMul, hlen, awake18, weakResolve, ref18May]
        generalize W.getD i 0 = r at *
        generalize cs.getD i 0 = c at *
        (repeat' (first | (apply And.intro) | (intro _) | (show staB _ _ = true; kernel_rfl) | (show dynB _ _ = true; kernel_rfl)))
        all_goals try omega
        all_goals first
          | exact ⟨i + 1, by omega, by omega, hN1 (by omega), wr_succ (by omega)⟩
          | exact ⟨i + 1, by omega, by omega, hN2 (by omega), wr_succ (by omega)⟩
          | fail
      · clear hleft hstay hen hlk h1 h2
        refine run_ok (Cs := [awake18, weakResolve, ref18May]) (stp := []) (inl := []) (unr := false) (cons_ok awake18_ok (cons_ok weakResolve_ok (cons_ok ref18May_ok nil_ok))) 400 _ _ _ _ ?_
        simp (maxSteps := 4000000) only [go_sem, reduceIte, reduceCtorEq, Int.reduceEq, Nat.reduceEqDiff, Nat.reduceBEq, Int.reduceLE, Int.reduceLT, Int.reduceNeg, Nat.reduceAdd, Nat.reduceSub, Nat.reduceMul, Nat.reduceLeDiff, Int.reduceToNat, Int.reduceAdd, Int.reduceSub, Int.reduceMul, hlen, show ((i : Int) < cs.length) = False by simp; omega, awake18, weakResolve, ref18May]
        (repeat' (first | (apply And.intro) | (intro _) | (show staB _ _ = true; kernel_rfl) | (show dynB _ _ = true; kernel_rfl)))
        all_goals first | omega | contradiction | fail
  · have h1 : resolveE (ps, cs, l, so, eo, ()) = 170 := if_neg hok
    have h2 : okB (ps, cs, l, so, eo, ()) = false := decide_eq_false hok
    simp (maxSteps := 4000000) only [go_sem, reduceIte, reduceCtorEq, Int.reduceEq, Nat.reduceEqDiff, Nat.reduceBEq, Int.reduceLE, Int.reduceLT, Int.reduceNeg, Nat.reduceAdd, Nat.reduceSub, Nat.reduceMul, Nat.reduceLeDiff, Int.reduceToNat, Int.reduceAdd, Int.reduceSub, Int.reduceMul, Try.f5, lawWeakLeft, h1, h2, awake18, weakResolve, ref18May]
    (repeat' (first | (apply And.intro) | (intro _) | (show staB _ _ = true; kernel_rfl) | (show dynB _ _ = true; kernel_rfl)))
    all_goals try omega

end Go.Proofs.Ytkpfgfomppidpaa.Sx
