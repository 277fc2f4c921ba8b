/- The law WeakSteps. -/
import Derived.Test.YteompacffdeekaaWf
import Derived.Test.YteompacffdeekaaSx33
namespace Go.Proofs.Yteompacffdeekaa.Sx
attribute [local irreducible] OkQ Ok OkP
set_option linter.unusedSimpArgs false
set_option linter.unusedVariables false
theorem bIWs15 : bodyI Try.prog 15 = bodyF Try.f15 := by kernel_rfl
theorem bIWs13 : bodyI Try.prog 13 = bodyF Try.f13 := by kernel_rfl
theorem bIWs24 : bodyI Try.prog 24 = bodyF Try.f24 := by kernel_rfl
theorem bIWs34 : bodyI Try.prog 34 = bodyF Try.f34 := by kernel_rfl
theorem bIWs27 : bodyI Try.prog 27 = bodyF Try.f27 := by kernel_rfl
set_option maxRecDepth 40000

def lawWeakSteps : Con := ⟨10, [(true, tSeq), (false, .int .i64)], [(false, .bool)], (tyL [(true, tSeq), (false, .int .i64)]).small, fun _ => (true, ()), false⟩
def lawWeakSteps0 : Con := ⟨10, [(true, tSeq), (false, .int .i64)], [(false, .bool)], fun x => (tyL [(true, tSeq), (false, .int .i64)]).small x ∧ ¬ (OkSeq x.1 ∧ (x.1.2.1 : List Int).length ≤ 3000), fun _ => (true, ()), false⟩
def lawWeakSteps1 : Con := ⟨10, [(true, tSeq), (false, .int .i64)], [(false, .bool)], fun x => (tyL [(true, tSeq), (false, .int .i64)]).small x ∧ (OkSeq x.1 ∧ (x.1.2.1 : List Int).length ≤ 3000), fun _ => (true, ()), false⟩

def ref18RuleS : Con := ⟨19, [(false, .int .i64), (false, tClasses), (false, .int .u8)], [(false, tClasses)], fun x => ∀ c ∈ ruleC x.1 x.2.2.1 x.2.1, 0 ≤ c ∧ c ≤ 255, fun x => (ruleC x.1 x.2.2.1 x.2.1, ()), true⟩
theorem ref18RuleS_ok : ref18RuleS.Ok Try.prog := by
  refine con_q Try.func19 rfl (by decide) (fun x hx hp => run_ok (Cs := [ref18Place]) (stp := []) (inl := []) (unr := false) (cons_ok ref18Place_ok nil_ok) 400 _ _ _ _ ?_) (by decide)
  obtain ⟨(n : Int), (l : List Int), (sos : Int), ⟨⟩⟩ := x
  have hz : l.length * 1 ≤ 140737488355328 := hx.2.1.1
  have hp : ∀ c ∈ ruleC n sos l, 0 ≤ c ∧ c ≤ 255 := hp
  clear hx
  have hlen : ∀ i, (ruleTo n sos l i).length = l.length := fun i => ruleTo_len
  have htk : ∀ i, (ruleTo n sos l i).take l.length = ruleTo n sos l i := fun i => List.take_of_length_le (by rw [hlen]; exact Nat.le_refl _)
  simp (maxSteps := 4000000) only [go_sem, reduceIte, reduceCtorEq, Int.reduceEq, Nat.reduceEqDiff, Nat.reduceBEq, Int.reduceLE, Int.reduceLT, Int.reduceNeg, Nat.reduceAdd, Nat.reduceSub, Nat.reduceMul, Nat.reduceLeDiff, Int.reduceToNat, Int.reduceAdd, Int.reduceSub, Int.reduceMul, Try.f19, ref18RuleS, ref18Place]
  (repeat' (first | (apply And.intro) | (intro _) | (show staB _ _ = true; kernel_rfl) | (show dynB _ _ = true; kernel_rfl) | (show dynP _ _ _ = true; kernel_rfl)))
  all_goals try omega
  refine OkQ.loop (α := Nat) [1, 3, 4, 5, 6, 8, 9, 10, 11, 12, 13, 14, 15, 16, 17, 18, 19, 20, 21, 22, 23, 24, 25, 26] (fun i => [(8, .s (.int .i64 (i : Int)))]) (fun i => [(0, .arr false 1 (.int .u8) (ruleTo n sos l i))]) (fun i => i ≤ l.length) (fun i => l.length - i) 0 (Nat.zero_le _) ?_ fun i hi => ?_
  · simp (maxSteps := 4000000) only [go_sem, reduceIte, reduceCtorEq, Int.reduceEq, Nat.reduceEqDiff, Nat.reduceBEq, Int.reduceLE, Int.reduceLT, Int.reduceNeg, Nat.reduceAdd, Nat.reduceSub, Nat.reduceMul, Nat.reduceLeDiff, Int.reduceToNat, Int.reduceAdd, Int.reduceSub, Int.reduceMul, ref18Place]
    simp [ruleTo]
  · refine run_ok (Cs := [ref18Place]) (stp := []) (inl := []) (unr := false) (cons_ok ref18Place_ok nil_ok) 400 _ _ _ _ ?_
    simp (maxSteps := 4000000) only [go_sem, reduceIte, reduceCtorEq, Int.reduceEq, Nat.reduceEqDiff, Nat.reduceBEq, Int.reduceLE, Int.reduceLT, Int.reduceNeg, Nat.reduceAdd, Nat.reduceSub, Nat.reduceMul, Nat.reduceLeDiff, Int.reduceToNat, Int.reduceAdd, Int.reduceSub, Int.reduceMul, hlen, htk, ref18Place]
    (repeat' (first | (apply And.intro) | (intro _) | (show staB _ _ = true; kernel_rfl) | (show dynB _ _ = true; kernel_rfl) | (show dynP _ _ _ = true; kernel_rfl)))
    all_goals try omega
    all_goals first
      | assumption
      | exact (by omega : (0 : Int) ≤ (i : Int))
      | exact ⟨i + 1, by omega, by omega, wr_succ (by omega), rfl⟩
      | (have e : ruleTo n sos l i = ruleC n sos l := ruleTo_end (by omega)
         first
           | exact congrArg (fun z => (z, ())) e
           | exact (hp _ (e ▸ ‹_›)).1
           | exact (hp _ (e ▸ ‹_›)).2)

theorem okS_mem {ps cs : List Int} {l so eo : Int} (h : OkS ps cs l so eo) : ∀ c ∈ cs, 0 ≤ c ∧ c ≤ 255 := by
  intro c hc
  obtain ⟨i, hi, e⟩ := List.getElem_of_mem hc
  have := h.2.2.2.2.2.2 i (by rw [h.2.1]; exact hi)
  have e2 : cs.getD i 0 = c := by simp [List.getD_eq_getElem?_getD, hi, e]
  unfold Fine at this
  rw [e2] at this
  omega

/-- How many rounds the first walk makes. -/
def stepsN (n : Int) : Int := if n < 1 then 8 else if n < 8 then n else 8

set_option maxHeartbeats 4000000 in
theorem lawWeakSteps1_ok : lawWeakSteps1.Ok Try.prog := by
  refine con_q Try.func10 rfl (by decide) (fun x hx hp => run_ok (Cs := [fit18, awake18]) (stp := []) (inl := []) (unr := false) (cons_ok fit18_ok (cons_ok awake18_ok nil_ok)) 0 _ _ _ _ ?_) (by decide)
  obtain ⟨⟨(ps : List Int), (cs : List Int), (l : Int), (so : Int), (eo : Int), ⟨⟩⟩, (n : Int), ⟨⟩⟩ := x
  have hz1 : ps.length * 8 ≤ 140737488351232 := hp.1.1.1.1
  have hz2 : cs.length * 1 ≤ 140737488351232 := hp.1.1.2.1.1
  have hok : OkS ps cs l so eo := hp.2.1
  have hlen : cs.length ≤ 3000 := hp.2.2
  have hn : -9223372036854775808 ≤ n := hx.2.1.1
  have h0 : checkV (ps, cs, l, so, eo, ()) = 0 := if_pos hok
  have h3 : okB (ps, cs, l, so, eo, ()) = true := decide_eq_true hok
  have h4 : sameSeq (ps, cs, l, so, eo, ()) (ps, cs, l, so, eo, ()) = true := sameSeq_iff.2 rfl
  have hpc : ps.length = cs.length := hok.2.1
  have hw1 := wr_succ (n := ps.length) (by omega)
  have hw2 := wr_succ (n := cs.length) (by omega)
  have hE : ∀ k : Nat, k < 7 → ruleE ((k : Int) + 1) (ps, ruleN so cs k, l, so, eo, ()) = 0 := fun k hk => ruleE_ok (okS_ruleN hok k) (by omega) (by omega)
  have hV : ∀ k : Nat, k < 7 → ruleV ((k : Int) + 1) (ps, ruleN so cs k, l, so, eo, ()) = (ps, ruleN so cs (k + 1), l, so, eo, ()) := fun k hk => ruleV_ok (okS_ruleN hok k) (by omega) (by omega)
  have hsl : sameList cs cs = true := by simp [sameList]
  clear hx hp
  refine run_ok (Cs := [spansCheck, ref18May, fit18, awake18]) (stp := []) (inl := [13, 24]) (unr := false) (cons_ok spansCheck_ok (cons_ok ref18May_ok (cons_ok fit18_ok (cons_ok awake18_ok nil_ok)))) 400 _ _ _ _ ?_
  simp (maxSteps := 4000000) only [go_sem, reduceIte, reduceCtorEq, Int.reduceEq, Nat.reduceEqDiff, Nat.reduceBEq, Int.reduceLE, Int.reduceLT, Int.reduceNeg, Nat.reduceAdd, Nat.reduceSub, Nat.reduceMul, Nat.reduceLeDiff, Int.reduceToNat, Int.reduceAdd, Int.reduceSub, Int.reduceMul, Try.f10, lawWeakSteps1, hw1, hw2, getD_end, bIWs13, Try.f13, bIWs24, Try.f24, spansCheck, ref18May, fit18, awake18]
  (repeat' (first | (apply And.intro) | (intro _) | (show staB _ _ = true; kernel_rfl) | (show dynB _ _ = true; kernel_rfl) | (show dynP _ _ _ = true; kernel_rfl)))
  all_goals try omega
  refine OkQ.fnNil rfl rfl (by kernel_rfl) rfl trivial ?_
  simp (maxSteps := 4000000) only [go_sem, reduceIte, reduceCtorEq, Int.reduceEq, Nat.reduceEqDiff, Nat.reduceBEq, Int.reduceLE, Int.reduceLT, Int.reduceNeg, Nat.reduceAdd, Nat.reduceSub, Nat.reduceMul, Nat.reduceLeDiff, Int.reduceToNat, Int.reduceAdd, Int.reduceSub, Int.reduceMul, spansCheck, ref18May, fit18, awake18]
  refine run_ok (Cs := []) (stp := []) (inl := []) (unr := false) nil_ok 400 _ _ _ _ ?_
  simp (maxSteps := 4000000) only [go_sem, reduceIte, reduceCtorEq, Int.reduceEq, Nat.reduceEqDiff, Nat.reduceBEq, Int.reduceLE, Int.reduceLT, Int.reduceNeg, Nat.reduceAdd, Nat.reduceSub, Nat.reduceMul, Nat.reduceLeDiff, Int.reduceToNat, Int.reduceAdd, Int.reduceSub, Int.reduceMul]
  refine OkQ.cut (α := Int) 2 [] (fun _ => []) (fun y => [(13, .box [.int .i64 y])]) 15 (fun y => y = stepsN n) (by rfl) ?_ fun y hy => ?_
  · simp (maxSteps := 4000000) only [go_sem, reduceIte, reduceCtorEq, Int.reduceEq, Nat.reduceEqDiff, Nat.reduceBEq, Int.reduceLE, Int.reduceLT, Int.reduceNeg, Nat.reduceAdd, Nat.reduceSub, Nat.reduceMul, Nat.reduceLeDiff, Int.reduceToNat, Int.reduceAdd, Int.reduceSub, Int.reduceMul]
    refine run_ok (Cs := [spansCheck, spansCopy, weakRule, cloneClasses]) (stp := []) (inl := [34, 27]) (unr := false) (cons_ok spansCheck_ok (cons_ok spansCopy_ok (cons_ok weakRule_ok (cons_ok cloneClasses_ok nil_ok)))) 400 _ _ _ _ ?_
    simp (maxSteps := 4000000) only [go_sem, reduceIte, reduceCtorEq, Int.reduceEq, Nat.reduceEqDiff, Nat.reduceBEq, Int.reduceLE, Int.reduceLT, Int.reduceNeg, Nat.reduceAdd, Nat.reduceSub, Nat.reduceMul, Nat.reduceLeDiff, Int.reduceToNat, Int.reduceAdd, Int.reduceSub, Int.reduceMul, h0, bIWs34, Try.f34, bIWs27, Try.f27, spansCheck, spansCopy, weakRule, cloneClasses]
    (repeat' (first | (apply And.intro) | (intro _) | (show staB _ _ = true; kernel_rfl) | (show dynB _ _ = true; kernel_rfl) | (show dynP _ _ _ = true; kernel_rfl)))
    · refine ⟨stepsN n, rfl, ?_⟩
      rename_i h
      rw [wr_lit (by decide)] at h ⊢
      subst h
      rfl
    rename_i hne
    rw [wr_lit (by decide)] at hne
    refine OkQ.loop (α := Nat) [1, 2, 4, 5, 6, 7, 8, 9, 10, 11, 12, 13, 14, 15, 16, 18, 19, 20, 21, 22, 23, 24, 25, 26, 27, 28, 29, 30, 31, 32, 33, 34, 35, 36] (fun k => [(18, .s (.int .i64 (k : Int)))]) (fun k => [(13, .box [.int .i64 ((k : Int) + 1)]), (16, .arr false 1 (.int .u8) (ruleN so cs k))]) (fun k => k ≤ 7 ∧ (n < 1 ∨ (k : Int) + 1 < n)) (fun k => 7 - k) 0 ⟨by omega, by omega⟩ ?_ fun k hk => ?_
    · simp (maxSteps := 4000000) only [go_sem, reduceIte, reduceCtorEq, Int.reduceEq, Nat.reduceEqDiff, Nat.reduceBEq, Int.reduceLE, Int.reduceLT, Int.reduceNeg, Nat.reduceAdd, Nat.reduceSub, Nat.reduceMul, Nat.reduceLeDiff, Int.reduceToNat, Int.reduceAdd, Int.reduceSub, Int.reduceMul, wr_lit, spansCheck, spansCopy, weakRule, cloneClasses]
      exact ⟨rfl, by omega, rfl⟩
    obtain ⟨hk7, hkn⟩ := hk
    have hwk : wr .i64 ((k : Int) + 1) = (k : Int) + 1 := wr_i64 (by omega) (by omega)
    have hwk2 : wr .i64 ((k : Int) + 1 + 1) = (k : Int) + 1 + 1 := wr_i64 (by omega) (by omega)
    have hln : (ruleN so cs k).length = cs.length := ruleN_len
    have htk : List.take cs.length (ruleN so cs k) = ruleN so cs k := List.take_of_length_le (by omega)
    by_cases hk8 : k < 7
    · have hEk := hE k hk8
      have hVk := hV k hk8
      have hd : decide ((k : Int) < 7) = true := decide_eq_true (by omega)
      refine run_ok (Cs := [weakRule, cloneClasses]) (stp := []) (inl := []) (unr := false) (cons_ok weakRule_ok (cons_ok cloneClasses_ok nil_ok)) 400 _ _ _ _ ?_
      simp (maxSteps := 4000000) only [go_sem, reduceIte, reduceCtorEq, Int.reduceEq, Nat.reduceEqDiff, Nat.reduceBEq, Int.reduceLE, Int.reduceLT, Int.reduceNeg, Nat.reduceAdd, Nat.reduceSub, Nat.reduceMul, Nat.reduceLeDiff, Int.reduceToNat, Int.reduceAdd, Int.reduceSub, Int.reduceMul, hwk, hwk2, hln, htk, hEk, hVk, hd, weakRule, cloneClasses]
      (repeat' (first | (apply And.intro) | (intro _) | (show staB _ _ = true; kernel_rfl) | (show dynB _ _ = true; kernel_rfl) | (show dynP _ _ _ = true; kernel_rfl)))
      · rename_i h
        refine ⟨_, ?_, rfl⟩
        unfold stepsN
        rw [if_neg (by omega)]
        by_cases h8 : n < 8
        · rw [if_pos h8]; exact h
        · rw [if_neg h8]; omega
      · exact ⟨k + 1, ⟨by omega, by omega⟩, by omega, by omega, by omega, rfl, ruleN_len⟩
      · omega
    · have e : k = 7 := by omega
      subst e
      refine run_ok (Cs := [weakRule, cloneClasses]) (stp := []) (inl := []) (unr := false) (cons_ok weakRule_ok (cons_ok cloneClasses_ok nil_ok)) 400 _ _ _ _ ?_
      simp (maxSteps := 4000000) only [go_sem, reduceIte, reduceCtorEq, Int.reduceEq, Nat.reduceEqDiff, Nat.reduceBEq, Int.reduceLE, Int.reduceLT, Int.reduceNeg, Nat.reduceAdd, Nat.reduceSub, Nat.reduceMul, Nat.reduceLeDiff, Int.reduceToNat, Int.reduceAdd, Int.reduceSub, Int.reduceMul, hwk, hwk2, hln, htk, weakRule, cloneClasses]
      (repeat' (first | (apply And.intro) | (intro _) | (show staB _ _ = true; kernel_rfl) | (show dynB _ _ = true; kernel_rfl) | (show dynP _ _ _ = true; kernel_rfl)))
      all_goals first | omega | skip
      refine ⟨_, ?_, rfl⟩
      unfold stepsN
      by_cases h1 : n < 1
      · rw [if_pos h1]; rfl
      · rw [if_neg h1, if_neg (by omega)]; rfl
  · simp (maxSteps := 4000000) only [go_sem, reduceIte, reduceCtorEq, Int.reduceEq, Nat.reduceEqDiff, Nat.reduceBEq, Int.reduceLE, Int.reduceLT, Int.reduceNeg, Nat.reduceAdd, Nat.reduceSub, Nat.reduceMul, Nat.reduceLeDiff, Int.reduceToNat, Int.reduceAdd, Int.reduceSub, Int.reduceMul, weakRule, cloneClasses]
    refine run_ok (Cs := []) (stp := []) (inl := []) (unr := false) nil_ok 400 _ _ _ _ ?_
    simp (maxSteps := 4000000) only [go_sem, reduceIte, reduceCtorEq, Int.reduceEq, Nat.reduceEqDiff, Nat.reduceBEq, Int.reduceLE, Int.reduceLT, Int.reduceNeg, Nat.reduceAdd, Nat.reduceSub, Nat.reduceMul, Nat.reduceLeDiff, Int.reduceToNat, Int.reduceAdd, Int.reduceSub, Int.reduceMul]
    refine run_ok (Cs := [ref18May, ref18RuleS, sameClasses, spansCheck, spansCopy, weakRule, cloneClasses]) (stp := []) (inl := [34, 27]) (unr := false) (cons_ok ref18May_ok (cons_ok ref18RuleS_ok (cons_ok sameClasses_ok (cons_ok spansCheck_ok (cons_ok spansCopy_ok (cons_ok weakRule_ok (cons_ok cloneClasses_ok nil_ok))))))) 400 _ _ _ _ ?_
    simp (maxSteps := 4000000) only [go_sem, reduceIte, reduceCtorEq, Int.reduceEq, Nat.reduceEqDiff, Nat.reduceBEq, Int.reduceLE, Int.reduceLT, Int.reduceNeg, Nat.reduceAdd, Nat.reduceSub, Nat.reduceMul, Nat.reduceLeDiff, Int.reduceToNat, Int.reduceAdd, Int.reduceSub, Int.reduceMul, h0, h3, hsl, bIWs34, Try.f34, bIWs27, Try.f27, ref18May, ref18RuleS, sameClasses, spansCheck, spansCopy, weakRule, cloneClasses]
    (repeat' (first | (apply And.intro) | (intro _) | (show staB _ _ = true; kernel_rfl) | (show dynB _ _ = true; kernel_rfl) | (show dynP _ _ _ = true; kernel_rfl)))
    refine OkQ.loop (α := List Int × Nat) [12, 38, 39, 45, 46, 47, 48, 49, 50, 51, 52, 53, 54, 55, 56, 57, 58, 59, 60, 61, 62, 63, 64, 65, 66, 67] (fun a => [(12, .s (.int .i64 (a.2 : Int)))]) (fun a => [(21, .arr false 1 (.int .u8) a.1)]) (fun a => a.1.length = cs.length ∧ a.2 ≤ cs.length) (fun a => cs.length - a.2) (cs, 0) ⟨rfl, Nat.zero_le _⟩ ?_ fun a ha => ?_
    · simp (maxSteps := 4000000) only [go_sem, reduceIte, reduceCtorEq, Int.reduceEq, Nat.reduceEqDiff, Nat.reduceBEq, Int.reduceLE, Int.reduceLT, Int.reduceNeg, Nat.reduceAdd, Nat.reduceSub, Nat.reduceMul, Nat.reduceLeDiff, Int.reduceToNat, Int.reduceAdd, Int.reduceSub, Int.reduceMul, ref18May, ref18RuleS, sameClasses, spansCheck, spansCopy, weakRule, cloneClasses]
      rfl
    obtain ⟨ys, i⟩ := a
    obtain ⟨hys, hi⟩ := ha
    dsimp only at hys hi
    refine run_ok (Cs := [ref18May, ref18RuleS, sameClasses, spansCheck, spansCopy, weakRule, cloneClasses]) (stp := []) (inl := []) (unr := false) (cons_ok ref18May_ok (cons_ok ref18RuleS_ok (cons_ok sameClasses_ok (cons_ok spansCheck_ok (cons_ok spansCopy_ok (cons_ok weakRule_ok (cons_ok cloneClasses_ok nil_ok))))))) 400 _ _ _ _ ?_
    simp (maxSteps := 4000000) only [go_sem, reduceIte, reduceCtorEq, Int.reduceEq, Nat.reduceEqDiff, Nat.reduceBEq, Int.reduceLE, Int.reduceLT, Int.reduceNeg, Nat.reduceAdd, Nat.reduceSub, Nat.reduceMul, Nat.reduceLeDiff, Int.reduceToNat, Int.reduceAdd, Int.reduceSub, Int.reduceMul, hys, h0, h3, hsl, wr_lit, bIWs27, Try.f27, ref18May, ref18RuleS, sameClasses, spansCheck, spansCopy, weakRule, cloneClasses]
    (repeat' (first | (apply And.intro) | (intro _) | (show staB _ _ = true; kernel_rfl) | (show dynB _ _ = true; kernel_rfl) | (show dynP _ _ _ = true; kernel_rfl)))
    all_goals try omega
    · exact ⟨(ys.set i 99, i + 1), ⟨by simpa using hys, by dsimp only; omega⟩, by dsimp only; omega, wr_succ (by omega), by simp⟩
    refine OkQ.loop (α := Nat) [1, 2, 4, 5, 6, 7, 8, 9, 10, 11, 12, 13, 14, 15, 16, 18, 19, 20, 21, 22, 23, 24, 25, 26, 27, 28, 29, 30, 31, 32, 33, 34, 35, 36] (fun k => [(18, .s (.int .i64 (k : Int)))]) (fun k => [(15, .box [.ro (.slice 1 (.int .u8)) (ruleN so cs k)]), (16, .box [.int .i64 ((k : Int) + 1)]), (19, .arr false 1 (.int .u8) (ruleN so cs k))]) (fun k => k ≤ 7) (fun k => 7 - k) 0 (by omega) ?_ fun k hk7 => ?_
    · simp (maxSteps := 4000000) only [go_sem, reduceIte, reduceCtorEq, Int.reduceEq, Nat.reduceEqDiff, Nat.reduceBEq, Int.reduceLE, Int.reduceLT, Int.reduceNeg, Nat.reduceAdd, Nat.reduceSub, Nat.reduceMul, Nat.reduceLeDiff, Int.reduceToNat, Int.reduceAdd, Int.reduceSub, Int.reduceMul, wr_lit, ref18May, ref18RuleS, sameClasses, spansCheck, spansCopy, weakRule, cloneClasses]
      exact ⟨rfl, rfl, by omega, rfl⟩
    have hwk : wr .i64 ((k : Int) + 1) = (k : Int) + 1 := wr_i64 (by omega) (by omega)
    have hwk2 : wr .i64 ((k : Int) + 1 + 1) = (k : Int) + 1 + 1 := wr_i64 (by omega) (by omega)
    have hln : (ruleN so cs k).length = cs.length := ruleN_len
    have htk : List.take cs.length (ruleN so cs k) = ruleN so cs k := List.take_of_length_le (by omega)
    have hsk : sameList (ruleN so cs (k + 1)) (ruleN so cs (k + 1)) = true := by simp [sameList]
    have hrc : ruleC ((k : Int) + 1) so (ruleN so cs k) = ruleN so cs (k + 1) := by rw [ruleN]; simp
    have hgt : decide (0 < (k : Int) + 1) = true := decide_eq_true (by omega)
    by_cases hk8 : k < 7
    · have hEk := hE k hk8
      have hVk := hV k hk8
      have hd : decide ((k : Int) < 7) = true := decide_eq_true (by omega)
      have hmm : ∀ c ∈ ruleN so cs (k + 1), 0 ≤ c ∧ c ≤ 255 := okS_mem (okS_ruleN hok (k + 1))
      have hlk : (ruleN so cs (k + 1)).length = cs.length := ruleN_len
      refine run_ok (Cs := [weakRule, cloneClasses, ref18RuleS, ref18May, sameClasses, spansCheck, spansCopy]) (stp := []) (inl := []) (unr := false) (cons_ok weakRule_ok (cons_ok cloneClasses_ok (cons_ok ref18RuleS_ok (cons_ok ref18May_ok (cons_ok sameClasses_ok (cons_ok spansCheck_ok (cons_ok spansCopy_ok nil_ok))))))) 400 _ _ _ _ ?_
      simp (maxSteps := 4000000) only [go_sem, reduceIte, reduceCtorEq, Int.reduceEq, Nat.reduceEqDiff, Nat.reduceBEq, Int.reduceLE, Int.reduceLT, Int.reduceNeg, Nat.reduceAdd, Nat.reduceSub, Nat.reduceMul, Nat.reduceLeDiff, Int.reduceToNat, Int.reduceAdd, Int.reduceSub, Int.reduceMul, hwk, hwk2, hln, htk, hEk, hVk, hd, hsk, hrc, hgt, h3, h0, weakRule, cloneClasses, ref18RuleS, ref18May, sameClasses, spansCheck, spansCopy]
      (repeat' (first | (apply And.intro) | (intro _) | (show staB _ _ = true; kernel_rfl) | (show dynB _ _ = true; kernel_rfl) | (show dynP _ _ _ = true; kernel_rfl)))
      all_goals first | omega | exact (hmm _ ‹_›).1 | exact (hmm _ ‹_›).2 | skip
      refine OkQ.loop (α := List Int × Nat) [12, 38, 39, 40, 41, 42, 43, 44, 45, 46, 47, 48, 49, 50, 51, 52, 53, 54, 55, 56, 57, 58, 59, 60, 61, 62, 63, 64, 65, 66, 67] (fun a => [(12, .s (.int .i64 (a.2 : Int)))]) (fun a => [(25, .arr false 1 (.int .u8) a.1)]) (fun a => a.1.length = cs.length ∧ a.2 ≤ cs.length) (fun a => cs.length - a.2) (ruleN so cs (k + 1), 0) ⟨hlk, Nat.zero_le _⟩ ?_ fun a ha => ?_
      · simp (maxSteps := 4000000) only [go_sem, reduceIte, reduceCtorEq, Int.reduceEq, Nat.reduceEqDiff, Nat.reduceBEq, Int.reduceLE, Int.reduceLT, Int.reduceNeg, Nat.reduceAdd, Nat.reduceSub, Nat.reduceMul, Nat.reduceLeDiff, Int.reduceToNat, Int.reduceAdd, Int.reduceSub, Int.reduceMul, weakRule, cloneClasses, ref18RuleS, ref18May, sameClasses, spansCheck, spansCopy]
        all_goals first | rfl | fail
      obtain ⟨zs, j⟩ := a
      obtain ⟨hzs, hj⟩ := ha
      dsimp only at hzs hj
      refine run_ok (Cs := [weakRule, cloneClasses, ref18RuleS, ref18May, sameClasses, spansCheck, spansCopy]) (stp := []) (inl := []) (unr := false) (cons_ok weakRule_ok (cons_ok cloneClasses_ok (cons_ok ref18RuleS_ok (cons_ok ref18May_ok (cons_ok sameClasses_ok (cons_ok spansCheck_ok (cons_ok spansCopy_ok nil_ok))))))) 400 _ _ _ _ ?_
      simp (maxSteps := 4000000) only [go_sem, reduceIte, reduceCtorEq, Int.reduceEq, Nat.reduceEqDiff, Nat.reduceBEq, Int.reduceLE, Int.reduceLT, Int.reduceNeg, Nat.reduceAdd, Nat.reduceSub, Nat.reduceMul, Nat.reduceLeDiff, Int.reduceToNat, Int.reduceAdd, Int.reduceSub, Int.reduceMul, hwk, hwk2, hln, hlk, htk, hEk, hVk, hsk, hrc, h3, h0, hzs, weakRule, cloneClasses, ref18RuleS, ref18May, sameClasses, spansCheck, spansCopy]
      (repeat' (first | (apply And.intro) | (intro _) | (show staB _ _ = true; kernel_rfl) | (show dynB _ _ = true; kernel_rfl) | (show dynP _ _ _ = true; kernel_rfl)))
      all_goals try omega
      · exact ⟨(zs.set j 99, j + 1), ⟨by simpa using hzs, by dsimp only; omega⟩, by dsimp only; omega, wr_succ (by omega), rfl, by simp⟩
      · exact ⟨k + 1, by omega, by omega, by omega, rfl, by omega, rfl⟩
    · have e : k = 7 := by omega
      subst e
      unfold stepsN at hy
      refine run_ok (Cs := [weakRule, cloneClasses, ref18RuleS, ref18May, sameClasses, spansCheck, spansCopy]) (stp := [29]) (inl := []) (unr := false) (cons_ok weakRule_ok (cons_ok cloneClasses_ok (cons_ok ref18RuleS_ok (cons_ok ref18May_ok (cons_ok sameClasses_ok (cons_ok spansCheck_ok (cons_ok spansCopy_ok nil_ok))))))) 400 _ _ _ _ ?_
      simp (maxSteps := 4000000) only [go_sem, reduceIte, reduceCtorEq, Int.reduceEq, Nat.reduceEqDiff, Nat.reduceBEq, Int.reduceLE, Int.reduceLT, Int.reduceNeg, Nat.reduceAdd, Nat.reduceSub, Nat.reduceMul, Nat.reduceLeDiff, Int.reduceToNat, Int.reduceAdd, Int.reduceSub, Int.reduceMul, hwk, hwk2, hln, htk, h3, h0, weakRule, cloneClasses, ref18RuleS, ref18May, sameClasses, spansCheck, spansCopy]
      (repeat' (first | (apply And.intro) | (intro _) | (show staB _ _ = true; kernel_rfl) | (show dynB _ _ = true; kernel_rfl) | (show dynP _ _ _ = true; kernel_rfl)))
      all_goals try omega
      by_cases hn1 : n < 1
      · have hd1 : decide (n < 1) = true := decide_eq_true hn1
        rw [if_pos hn1] at hy
        subst hy
        refine run_ok (Cs := [ref18May, ref18Same, awake18]) (stp := []) (inl := [15]) (unr := false) (cons_ok ref18May_ok (cons_ok ref18Same_ok (cons_ok awake18_ok nil_ok))) 400 _ _ _ _ ?_
        simp (maxSteps := 4000000) only [go_sem, reduceIte, reduceCtorEq, Int.reduceEq, Nat.reduceEqDiff, Nat.reduceBEq, Int.reduceLE, Int.reduceLT, Int.reduceNeg, Nat.reduceAdd, Nat.reduceSub, Nat.reduceMul, Nat.reduceLeDiff, Int.reduceToNat, Int.reduceAdd, Int.reduceSub, Int.reduceMul, h3, h4, hw1, hw2, getD_end, hd1, hn1, bIWs15, Try.f15, ref18May, ref18Same, awake18]
        (repeat' (first | (apply And.intro) | (intro _) | (show staB _ _ = true; kernel_rfl) | (show dynB _ _ = true; kernel_rfl) | (show dynP _ _ _ = true; kernel_rfl)))
        all_goals first | omega | contradiction | trivial | fail
      · have hd1 : decide (n < 1) = false := decide_eq_false hn1
        have hd2 : decide (1 ≤ n) = true := decide_eq_true (by omega)
        rw [if_neg hn1] at hy
        by_cases hn8 : n < 8
        · rw [if_pos hn8] at hy
          subst hy
          have hm : (if (8 : Int) < y then 8 else y) = y := if_neg (by omega)
          refine run_ok (Cs := [ref18May, ref18Same, awake18]) (stp := []) (inl := [15]) (unr := false) (cons_ok ref18May_ok (cons_ok ref18Same_ok (cons_ok awake18_ok nil_ok))) 400 _ _ _ _ ?_
          simp (maxSteps := 4000000) only [go_sem, reduceIte, reduceCtorEq, Int.reduceEq, Nat.reduceEqDiff, Nat.reduceBEq, Int.reduceLE, Int.reduceLT, Int.reduceNeg, Nat.reduceAdd, Nat.reduceSub, Nat.reduceMul, Nat.reduceLeDiff, Int.reduceToNat, Int.reduceAdd, Int.reduceSub, Int.reduceMul, h3, h4, hw1, hw2, getD_end, hd1, hd2, hm, bIWs15, Try.f15, ref18May, ref18Same, awake18]
          (repeat' (first | (apply And.intro) | (intro _) | (show staB _ _ = true; kernel_rfl) | (show dynB _ _ = true; kernel_rfl) | (show dynP _ _ _ = true; kernel_rfl)))
          all_goals first | omega | contradiction | trivial | fail
        · rw [if_neg hn8] at hy
          subst hy
          have hm : (if (8 : Int) < n then (8 : Int) else n) = 8 := by
            by_cases e : (8 : Int) < n
            · exact if_pos e
            · rw [if_neg e]; omega
          refine run_ok (Cs := [ref18May, ref18Same, awake18]) (stp := []) (inl := [15]) (unr := false) (cons_ok ref18May_ok (cons_ok ref18Same_ok (cons_ok awake18_ok nil_ok))) 400 _ _ _ _ ?_
          simp (maxSteps := 4000000) only [go_sem, reduceIte, reduceCtorEq, Int.reduceEq, Nat.reduceEqDiff, Nat.reduceBEq, Int.reduceLE, Int.reduceLT, Int.reduceNeg, Nat.reduceAdd, Nat.reduceSub, Nat.reduceMul, Nat.reduceLeDiff, Int.reduceToNat, Int.reduceAdd, Int.reduceSub, Int.reduceMul, h3, h4, hw1, hw2, getD_end, hd1, hd2, hm, bIWs15, Try.f15, ref18May, ref18Same, awake18]
          (repeat' (first | (apply And.intro) | (intro _) | (show staB _ _ = true; kernel_rfl) | (show dynB _ _ = true; kernel_rfl) | (show dynP _ _ _ = true; kernel_rfl)))
          all_goals first | omega | contradiction | trivial | fail

set_option maxHeartbeats 2000000 in
theorem lawWeakSteps0_ok : lawWeakSteps0.Ok Try.prog := by
  refine con_q Try.func10 rfl (by decide) (fun x hx hp => run_ok (Cs := [spansCheck, ref18May, ref18Same, fit18, awake18]) (stp := []) (inl := []) (unr := false) (cons_ok spansCheck_ok (cons_ok ref18May_ok (cons_ok ref18Same_ok (cons_ok fit18_ok (cons_ok awake18_ok nil_ok))))) 0 _ _ _ _ ?_) (by decide)
  obtain ⟨⟨(ps : List Int), (cs : List Int), (l : Int), (so : Int), (eo : Int), ⟨⟩⟩, (n : Int), ⟨⟩⟩ := x
  have hz1 : ps.length * 8 ≤ 140737488351232 := hp.1.1.1.1
  have hz2 : cs.length * 1 ≤ 140737488351232 := hp.1.1.2.1.1
  have hno : ¬ (OkSeq (ps, cs, l, so, eo, ()) ∧ cs.length ≤ 3000) := hp.2
  have h4 : sameSeq (ps, cs, l, so, eo, ()) (ps, cs, l, so, eo, ()) = true := sameSeq_iff.2 rfl
  have hw1 := wr_succ (n := ps.length) (by omega)
  have hw2 := wr_succ (n := cs.length) (by omega)
  clear hx hp
  by_cases hlen : cs.length ≤ 3000
  · have hok : ¬ OkSeq (ps, cs, l, so, eo, ()) := fun h => hno ⟨h, hlen⟩
    have h1 : checkV (ps, cs, l, so, eo, ()) = 170 := if_neg hok
    have h3 : okB (ps, cs, l, so, eo, ()) = false := decide_eq_false hok
    clear hok hno
    refine run_ok (Cs := [spansCheck, ref18May, fit18, awake18]) (stp := []) (inl := [13, 24]) (unr := false) (cons_ok spansCheck_ok (cons_ok ref18May_ok (cons_ok fit18_ok (cons_ok awake18_ok nil_ok)))) 400 _ _ _ _ ?_
    simp (maxSteps := 4000000) only [go_sem, reduceIte, reduceCtorEq, Int.reduceEq, Nat.reduceEqDiff, Nat.reduceBEq, Int.reduceLE, Int.reduceLT, Int.reduceNeg, Nat.reduceAdd, Nat.reduceSub, Nat.reduceMul, Nat.reduceLeDiff, Int.reduceToNat, Int.reduceAdd, Int.reduceSub, Int.reduceMul, Try.f10, lawWeakSteps0, h1, h3, h4, hw1, hw2, getD_end, bIWs13, Try.f13, bIWs24, Try.f24, spansCheck, ref18May, fit18, awake18]
    (repeat' (first | (apply And.intro) | (intro _) | (show staB _ _ = true; kernel_rfl) | (show dynB _ _ = true; kernel_rfl) | (show dynP _ _ _ = true; kernel_rfl)))
    all_goals try omega
    refine OkQ.fnNil rfl rfl (by kernel_rfl) rfl trivial ?_
    simp (maxSteps := 4000000) only [go_sem, reduceIte, reduceCtorEq, Int.reduceEq, Nat.reduceEqDiff, Nat.reduceBEq, Int.reduceLE, Int.reduceLT, Int.reduceNeg, Nat.reduceAdd, Nat.reduceSub, Nat.reduceMul, Nat.reduceLeDiff, Int.reduceToNat, Int.reduceAdd, Int.reduceSub, Int.reduceMul, spansCheck, ref18May, fit18, awake18]
    refine run_ok (Cs := [spansCheck, ref18May, fit18, awake18]) (stp := [28]) (inl := [34]) (unr := false) (cons_ok spansCheck_ok (cons_ok ref18May_ok (cons_ok fit18_ok (cons_ok awake18_ok nil_ok)))) 400 _ _ _ _ ?_
    simp (maxSteps := 4000000) only [go_sem, reduceIte, reduceCtorEq, Int.reduceEq, Nat.reduceEqDiff, Nat.reduceBEq, Int.reduceLE, Int.reduceLT, Int.reduceNeg, Nat.reduceAdd, Nat.reduceSub, Nat.reduceMul, Nat.reduceLeDiff, Int.reduceToNat, Int.reduceAdd, Int.reduceSub, Int.reduceMul, h1, h3, h4, hw1, hw2, getD_end, bIWs34, Try.f34, spansCheck, ref18May, fit18, awake18]
    (repeat' (first | (apply And.intro) | (intro _) | (show staB _ _ = true; kernel_rfl) | (show dynB _ _ = true; kernel_rfl) | (show dynP _ _ _ = true; kernel_rfl)))
    all_goals try omega
    refine run_ok (Cs := [spansCheck, ref18May, ref18Same, fit18, awake18]) (stp := []) (inl := [15]) (unr := false) (cons_ok spansCheck_ok (cons_ok ref18May_ok (cons_ok ref18Same_ok (cons_ok fit18_ok (cons_ok awake18_ok nil_ok))))) 400 _ _ _ _ ?_
    simp (maxSteps := 4000000) only [go_sem, reduceIte, reduceCtorEq, Int.reduceEq, Nat.reduceEqDiff, Nat.reduceBEq, Int.reduceLE, Int.reduceLT, Int.reduceNeg, Nat.reduceAdd, Nat.reduceSub, Nat.reduceMul, Nat.reduceLeDiff, Int.reduceToNat, Int.reduceAdd, Int.reduceSub, Int.reduceMul, h1, h3, h4, hw1, hw2, getD_end, bIWs15, Try.f15, spansCheck, ref18May, ref18Same, fit18, awake18]
    (repeat' (first | (apply And.intro) | (intro _) | (show staB _ _ = true; kernel_rfl) | (show dynB _ _ = true; kernel_rfl) | (show dynP _ _ _ = true; kernel_rfl)))
    all_goals first | omega | contradiction | trivial | fail
  · clear hno
    have hd : decide ((cs.length : Int) ≤ 3000) = false := decide_eq_false (by omega)
    refine run_ok (Cs := [spansCheck, ref18May, fit18, awake18]) (stp := []) (inl := []) (unr := false) (cons_ok spansCheck_ok (cons_ok ref18May_ok (cons_ok fit18_ok (cons_ok awake18_ok nil_ok)))) 60 _ _ _ _ ?_
    simp (maxSteps := 4000000) only [go_sem, reduceIte, reduceCtorEq, Int.reduceEq, Nat.reduceEqDiff, Nat.reduceBEq, Int.reduceLE, Int.reduceLT, Int.reduceNeg, Nat.reduceAdd, Nat.reduceSub, Nat.reduceMul, Nat.reduceLeDiff, Int.reduceToNat, Int.reduceAdd, Int.reduceSub, Int.reduceMul, Try.f10, lawWeakSteps0, getD_end, hd, spansCheck, ref18May, fit18, awake18]
    (repeat' (first | (apply And.intro) | (intro _) | (show staB _ _ = true; kernel_rfl) | (show dynB _ _ = true; kernel_rfl) | (show dynP _ _ _ = true; kernel_rfl)))
    all_goals first | omega | contradiction | trivial | fail

theorem lawWeakSteps_ok : lawWeakSteps.Ok Try.prog := by
  refine ⟨lawWeakSteps0_ok.enters, fun S w vs x hS hr hwf hp i => ?_⟩
  by_cases h : OkSeq x.1 ∧ (x.1.2.1 : List Int).length ≤ 3000
  · exact lawWeakSteps1_ok.calls S w vs x hS hr hwf ⟨hp, h⟩ i
  · exact lawWeakSteps0_ok.calls S w vs x hS hr hwf ⟨hp, h⟩ i

end Go.Proofs.Yteompacffdeekaa.Sx
