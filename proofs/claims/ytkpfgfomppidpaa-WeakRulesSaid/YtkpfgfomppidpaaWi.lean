/- The law WeakRules. -/
import Derived.Test.YtkpfgfomppidpaaWh
namespace Go.Proofs.Ytkpfgfomppidpaa.Sx
attribute [local irreducible] OkQ Ok OkP
set_option linter.unusedSimpArgs false
set_option linter.unusedVariables false
theorem bIWi18 : bodyI Try.prog 18 = bodyF Try.f18 := by kernel_rfl
theorem bIWi15 : bodyI Try.prog 15 = bodyF Try.f15 := by kernel_rfl
theorem bIWi13 : bodyI Try.prog 13 = bodyF Try.f13 := by kernel_rfl
theorem bIWi32 : bodyI Try.prog 32 = bodyF Try.f32 := by kernel_rfl
set_option maxRecDepth 8000

def lawWeakRules : Con := ⟨3, [(false, .int .i64), (true, tSeq)], [(false, .bool)], (tyL [(false, .int .i64), (true, tSeq)]).small, fun _ => (true, ()), false⟩
def lawWeakRules0 : Con := ⟨3, [(false, .int .i64), (true, tSeq)], [(false, .bool)], fun x => (tyL [(false, .int .i64), (true, tSeq)]).small x ∧ ¬ (OkSeq x.2.1 ∧ 1 ≤ (x.1 : Int) ∧ (x.1 : Int) ≤ 7), fun _ => (true, ()), false⟩
def lawWeakRules1 : Con := ⟨3, [(false, .int .i64), (true, tSeq)], [(false, .bool)], fun x => (tyL [(false, .int .i64), (true, tSeq)]).small x ∧ (OkSeq x.2.1 ∧ 1 ≤ (x.1 : Int) ∧ (x.1 : Int) ≤ 7), fun _ => (true, ()), false⟩

set_option maxHeartbeats 2000000 in
theorem lawWeakRules0_ok : lawWeakRules0.Ok Try.prog := by
  refine con_q Try.func3 rfl (by decide) (fun x hx hp => run_ok (Cs := [weakRule, ref18Rule, ref18May, ref18Same, ref18With, fit18, awake18]) (stp := []) (inl := [13, 15]) (unr := false) (cons_ok weakRule_ok (cons_ok ref18Rule_ok (cons_ok ref18May_ok (cons_ok ref18Same_ok (cons_ok ref18With_ok (cons_ok fit18_ok (cons_ok awake18_ok nil_ok))))))) 400 _ _ _ _ ?_) (by decide)
  obtain ⟨(n : Int), ⟨(ps : List Int), (cs : List Int), (l : Int), (so : Int), (eo : Int), ⟨⟩⟩, ⟨⟩⟩ := x
  have hz1 : ps.length * 8 ≤ 140737488351232 := hp.1.2.1.1.1
  have hz2 : cs.length * 1 ≤ 140737488351232 := hp.1.2.1.2.1.1
  have hno : ¬ (OkSeq (ps, cs, l, so, eo, ()) ∧ 1 ≤ n ∧ n ≤ 7) := hp.2
  have h2 : ruleV n (ps, cs, l, so, eo, ()) = ([], [], 0, 0, 0, ()) := if_neg hno
  have h4 : sameSeq (ps, cs, l, so, eo, ()) (ps, cs, l, so, eo, ()) = true := sameSeq_iff.2 rfl
  have h5 : sameSeq ([], [], 0, 0, 0, ()) ([], [], 0, 0, 0, ()) = true := sameSeq_iff.2 rfl
  have hw1 := wr_succ (n := ps.length) (by omega)
  have hw2 := wr_succ (n := cs.length) (by omega)
  clear hx hp
  by_cases hok : OkSeq (ps, cs, l, so, eo, ())
  · have hn : n < 1 ∨ 7 < n := by
      rcases Int.lt_or_le n 1 with h | h
      · exact .inl h
      · rcases Int.lt_or_le 7 n with g | g
        · exact .inr g
        · exact absurd ⟨hok, h, g⟩ hno
    have h1 : ruleE n (ps, cs, l, so, eo, ()) = 180 := by rw [ruleE, if_pos hok, if_neg (by omega)]
    have h3 : okB (ps, cs, l, so, eo, ()) = true := decide_eq_true hok
    clear hok hno
    simp (maxSteps := 4000000) only [go_sem, reduceIte, reduceCtorEq, Int.reduceEq, Nat.reduceEqDiff, Nat.reduceBEq, Int.reduceLE, Int.reduceLT, Int.reduceNeg, Nat.reduceAdd, Nat.reduceSub, Nat.reduceMul, Nat.reduceLeDiff, Int.reduceToNat, Int.reduceAdd, Int.reduceSub, Int.reduceMul, Try.f3, lawWeakRules0, h1, h2, h3, h4, h5, hw1, hw2, getD_end, bIWi13, Try.f13, bIWi15, Try.f15, weakRule, ref18Rule, ref18May, ref18Same, ref18With, fit18, awake18]
    (repeat' (first | (apply And.intro) | (intro _) | (show staB _ _ = true; kernel_rfl) | (show dynB _ _ = true; kernel_rfl) | (show dynP _ _ _ = true; kernel_rfl)))
    all_goals first | omega | contradiction | fail
  · have h1 : ruleE n (ps, cs, l, so, eo, ()) = 170 := if_neg hok
    have h3 : okB (ps, cs, l, so, eo, ()) = false := decide_eq_false hok
    clear hok hno
    simp (maxSteps := 4000000) only [go_sem, reduceIte, reduceCtorEq, Int.reduceEq, Nat.reduceEqDiff, Nat.reduceBEq, Int.reduceLE, Int.reduceLT, Int.reduceNeg, Nat.reduceAdd, Nat.reduceSub, Nat.reduceMul, Nat.reduceLeDiff, Int.reduceToNat, Int.reduceAdd, Int.reduceSub, Int.reduceMul, Try.f3, lawWeakRules0, h1, h2, h3, h4, h5, hw1, hw2, getD_end, bIWi13, Try.f13, bIWi15, Try.f15, weakRule, ref18Rule, ref18May, ref18Same, ref18With, fit18, awake18]
    (repeat' (first | (apply And.intro) | (intro _) | (show staB _ _ = true; kernel_rfl) | (show dynB _ _ = true; kernel_rfl) | (show dynP _ _ _ = true; kernel_rfl)))
    all_goals first | omega | contradiction | fail

set_option maxHeartbeats 4000000 in
theorem lawWeakRules1_ok : lawWeakRules1.Ok Try.prog := by
  refine con_q Try.func3 rfl (by decide) (fun x hx hp => run_ok (Cs := [weakRule, ref18Rule, ref18May, ref18Same, ref18With, fit18, awake18]) (stp := [12]) (inl := [13, 15]) (unr := false) (cons_ok weakRule_ok (cons_ok ref18Rule_ok (cons_ok ref18May_ok (cons_ok ref18Same_ok (cons_ok ref18With_ok (cons_ok fit18_ok (cons_ok awake18_ok nil_ok))))))) 400 _ _ _ _ ?_) (by decide)
  obtain ⟨(n : Int), ⟨(ps : List Int), (cs : List Int), (l : Int), (so : Int), (eo : Int), ⟨⟩⟩, ⟨⟩⟩ := x
  have hz1 : ps.length * 8 ≤ 140737488351232 := hp.1.2.1.1.1
  have hz2 : cs.length * 1 ≤ 140737488351232 := hp.1.2.1.2.1.1
  have hok : OkS ps cs l so eo := hp.2.1
  have hn1 : 1 ≤ n := hp.2.2.1
  have hn7 : n ≤ 7 := hp.2.2.2
  have h1 : ruleE n (ps, cs, l, so, eo, ()) = 0 := ruleE_ok hok hn1 hn7
  have h2 : ruleV n (ps, cs, l, so, eo, ()) = (ps, ruleC n so cs, l, so, eo, ()) := ruleV_ok hok hn1 hn7
  have hlen : (ruleC n so cs).length = cs.length := ruleC_len
  have hpc : ps.length = cs.length := hok.2.1
  have h3 : okB (ps, cs, l, so, eo, ()) = true := decide_eq_true hok
  have h4 : sameSeq (ps, cs, l, so, eo, ()) (ps, cs, l, so, eo, ()) = true := sameSeq_iff.2 rfl
  have h5 : sameSeq (ps, ruleC n so cs, l, so, eo, ()) (ps, ruleC n so cs, l, so, eo, ()) = true := sameSeq_iff.2 rfl
  have hw1 := wr_succ (n := ps.length) (by omega)
  have hw2 := wr_succ (n := cs.length) (by omega)
  clear hx hp hok
  simp (maxSteps := 4000000) only [go_sem, reduceIte, reduceCtorEq, Int.reduceEq, Nat.reduceEqDiff, Nat.reduceBEq, Int.reduceLE, Int.reduceLT, Int.reduceNeg, Nat.reduceAdd, Nat.reduceSub, Nat.reduceMul, Nat.reduceLeDiff, Int.reduceToNat, Int.reduceAdd, Int.reduceSub, Int.reduceMul, Try.f3, lawWeakRules1, h1, h2, h3, h4, h5, hw1, hw2, getD_end, withV, bIWi13, Try.f13, bIWi15, Try.f15, weakRule, ref18Rule, ref18May, ref18Same, ref18With, fit18, awake18]
  (repeat' (first | (apply And.intro) | (intro _) | (show staB _ _ = true; kernel_rfl) | (show dynB _ _ = true; kernel_rfl) | (show dynP _ _ _ = true; kernel_rfl)))
  all_goals try omega
  refine OkQ.cutStart (by kernel_rfl) ?_
  refine OkP.draw (Cs := [weakRule, ref18Rule, ref18May, ref18Same, ref18With, fit18, awake18]) (cons_ok weakRule_ok (cons_ok ref18Rule_ok (cons_ok ref18May_ok (cons_ok ref18Same_ok (cons_ok ref18With_ok (cons_ok fit18_ok (cons_ok awake18_ok nil_ok))))))) 12 (by kernel_rfl) ⟨rfl, rfl⟩ (by kernel_rfl) (by kernel_rfl) ?_
  simp (maxSteps := 4000000) only [go_sem, reduceIte, reduceCtorEq, Int.reduceEq, Nat.reduceEqDiff, Nat.reduceBEq, Int.reduceLE, Int.reduceLT, Int.reduceNeg, Nat.reduceAdd, Nat.reduceSub, Nat.reduceMul, Nat.reduceLeDiff, Int.reduceToNat, Int.reduceAdd, Int.reduceSub, Int.reduceMul, weakRule, ref18Rule, ref18May, ref18Same, ref18With, fit18, awake18]
  (repeat' (first | (apply And.intro) | (intro _) | (show staB _ _ = true; kernel_rfl) | (show dynB _ _ = true; kernel_rfl) | (show dynP _ _ _ = true; kernel_rfl)))
  all_goals try contradiction
  generalize ruleC n so cs = W at *
  refine OkP.call [18] (by kernel_rfl) (by kernel_rfl) ?_
  simp (maxSteps := 4000000) only [go_sem, reduceIte, reduceCtorEq, Int.reduceEq, Nat.reduceEqDiff, Nat.reduceBEq, Int.reduceLE, Int.reduceLT, Int.reduceNeg, Nat.reduceAdd, Nat.reduceSub, Nat.reduceMul, Nat.reduceLeDiff, Int.reduceToNat, Int.reduceAdd, Int.reduceSub, Int.reduceMul, callP, bIWi18, Try.f18, weakRule, ref18Rule, ref18May, ref18Same, ref18With, fit18, awake18]
  refine run_ok (Cs := [weakRule, ref18Rule, ref18May, ref18Same, ref18With, fit18, awake18]) (stp := []) (inl := [18, 32]) (unr := false) (cons_ok weakRule_ok (cons_ok ref18Rule_ok (cons_ok ref18May_ok (cons_ok ref18Same_ok (cons_ok ref18With_ok (cons_ok fit18_ok (cons_ok awake18_ok nil_ok))))))) 400 _ _ _ _ ?_
  simp (maxSteps := 4000000) only [go_sem, reduceIte, reduceCtorEq, Int.reduceEq, Nat.reduceEqDiff, Nat.reduceBEq, Int.reduceLE, Int.reduceLT, Int.reduceNeg, Nat.reduceAdd, Nat.reduceSub, Nat.reduceMul, Nat.reduceLeDiff, Int.reduceToNat, Int.reduceAdd, Int.reduceSub, Int.reduceMul, h4, h5, withV, bIWi18, Try.f18, bIWi32, Try.f32, weakRule, ref18Rule, ref18May, ref18Same, ref18With, fit18, awake18]
  (repeat' (first | (apply And.intro) | (intro _) | (show staB _ _ = true; kernel_rfl) | (show dynB _ _ = true; kernel_rfl) | (show dynP _ _ _ = true; kernel_rfl)))
  all_goals try omega
  -- the classes are written over
  refine OkQ.loop (α := List Int × Nat) [0, 2, 3, 4, 5, 6, 7, 8, 9, 10, 11, 12, 13, 14, 15, 16, 17, 18, 19, 20, 21, 22, 23, 24, 25, 26, 27, 28, 29, 30, 31, 32, 33, 34, 35, 36, 37, 38] (fun a => [(2, .s (.int .i64 (a.2 : Int)))]) (fun a => [(11, .arr false 1 (.int .u8) a.1)]) (fun a => a.1.length = cs.length ∧ a.2 ≤ cs.length) (fun a => cs.length - a.2) (W, 0) ⟨hlen, Nat.zero_le _⟩ ?_ fun a ha => ?_
  · simp (maxSteps := 4000000) only [go_sem, reduceIte, reduceCtorEq, Int.reduceEq, Nat.reduceEqDiff, Nat.reduceBEq, Int.reduceLE, Int.reduceLT, Int.reduceNeg, Nat.reduceAdd, Nat.reduceSub, Nat.reduceMul, Nat.reduceLeDiff, Int.reduceToNat, Int.reduceAdd, Int.reduceSub, Int.reduceMul, weakRule, ref18Rule, ref18May, ref18Same, ref18With, fit18, awake18]
    simp
  obtain ⟨ys, i⟩ := a
  obtain ⟨hys, hi⟩ := ha
  dsimp only at hys hi
  refine run_ok (Cs := [weakRule, ref18Rule, ref18May, ref18Same, ref18With, fit18, awake18]) (stp := []) (inl := []) (unr := false) (cons_ok weakRule_ok (cons_ok ref18Rule_ok (cons_ok ref18May_ok (cons_ok ref18Same_ok (cons_ok ref18With_ok (cons_ok fit18_ok (cons_ok awake18_ok nil_ok))))))) 400 _ _ _ _ ?_
  simp (maxSteps := 4000000) only [go_sem, reduceIte, reduceCtorEq, Int.reduceEq, Nat.reduceEqDiff, Nat.reduceBEq, Int.reduceLE, Int.reduceLT, Int.reduceNeg, Nat.reduceAdd, Nat.reduceSub, Nat.reduceMul, Nat.reduceLeDiff, Int.reduceToNat, Int.reduceAdd, Int.reduceSub, Int.reduceMul, hys, hlen, weakRule, ref18Rule, ref18May, ref18Same, ref18With, fit18, awake18]
  (repeat' (first | (apply And.intro) | (intro _) | (show staB _ _ = true; kernel_rfl) | (show dynB _ _ = true; kernel_rfl) | (show dynP _ _ _ = true; kernel_rfl)))
  all_goals try omega
  · exact ⟨(ys.set i 99, i + 1), ⟨by simpa using hys, by dsimp only; omega⟩, by dsimp only; omega, wr_succ (by omega), rfl, by simp⟩
  -- the places
  refine OkQ.loop (α := List Int × Nat) [0, 2, 3, 4, 5, 6, 7, 8, 9, 10, 11, 12, 13, 14, 15, 16, 17, 18, 19, 20, 21, 22, 23, 24, 25, 26, 27, 28, 29, 30, 31, 32, 33, 34, 35, 36, 37, 38] (fun a => [(3, .s (.int .i64 (a.2 : Int)))]) (fun a => [(10, .arr false 8 (.int .i64) a.1)]) (fun a => a.1.length = ps.length ∧ a.2 ≤ ps.length) (fun a => ps.length - a.2) (ps, 0) ⟨rfl, Nat.zero_le _⟩ ?_ fun a ha => ?_
  · simp (maxSteps := 4000000) only [go_sem, reduceIte, reduceCtorEq, Int.reduceEq, Nat.reduceEqDiff, Nat.reduceBEq, Int.reduceLE, Int.reduceLT, Int.reduceNeg, Nat.reduceAdd, Nat.reduceSub, Nat.reduceMul, Nat.reduceLeDiff, Int.reduceToNat, Int.reduceAdd, Int.reduceSub, Int.reduceMul, weakRule, ref18Rule, ref18May, ref18Same, ref18With, fit18, awake18]
    simp
  obtain ⟨xs, m⟩ := a
  obtain ⟨hxs, hm⟩ := ha
  dsimp only at hxs hm
  refine run_ok (Cs := [weakRule, ref18Rule, ref18May, ref18Same, ref18With, fit18, awake18]) (stp := []) (inl := []) (unr := false) (cons_ok weakRule_ok (cons_ok ref18Rule_ok (cons_ok ref18May_ok (cons_ok ref18Same_ok (cons_ok ref18With_ok (cons_ok fit18_ok (cons_ok awake18_ok nil_ok))))))) 400 _ _ _ _ ?_
  simp (maxSteps := 4000000) only [go_sem, reduceIte, reduceCtorEq, Int.reduceEq, Nat.reduceEqDiff, Nat.reduceBEq, Int.reduceLE, Int.reduceLT, Int.reduceNeg, Nat.reduceAdd, Nat.reduceSub, Nat.reduceMul, Nat.reduceLeDiff, Int.reduceToNat, Int.reduceAdd, Int.reduceSub, Int.reduceMul, hxs, hlen, weakRule, ref18Rule, ref18May, ref18Same, ref18With, fit18, awake18]
  (repeat' (first | (apply And.intro) | (intro _) | (show staB _ _ = true; kernel_rfl) | (show dynB _ _ = true; kernel_rfl) | (show dynP _ _ _ = true; kernel_rfl)))
  all_goals try omega
  · exact ⟨(xs.set m (-99), m + 1), ⟨by simpa using hxs, by dsimp only; omega⟩, by dsimp only; omega, wr_succ (by omega), rfl, by simp⟩
  -- what lies behind them
  refine OkQ.reset [0] [] [(10, .dead), (11, .dead), (24, .arr false 8 (.int .i64) xs), (25, .arr false 1 (.int .u8) ys), (23, .box [.sub 24 0 ps.length, .sub 25 0 cs.length, .int .i8 l, .int .u8 so, .int .u8 eo])] 26 ?_ ?_
  · simp (maxSteps := 4000000) only [go_sem, reduceIte, reduceCtorEq, Int.reduceEq, Nat.reduceEqDiff, Nat.reduceBEq, Int.reduceLE, Int.reduceLT, Int.reduceNeg, Nat.reduceAdd, Nat.reduceSub, Nat.reduceMul, Nat.reduceLeDiff, Int.reduceToNat, Int.reduceAdd, Int.reduceSub, Int.reduceMul, weakRule, ref18Rule, ref18May, ref18Same, ref18With, fit18, awake18]
  refine OkQ.loop (α := (List Int × List Int) × Nat) [0, 2, 3, 4, 5, 6, 7, 8, 9, 10, 11, 12, 13, 14, 15, 16, 17, 18, 19, 20, 21, 22, 23, 24, 25, 26, 27, 28, 29, 30, 31, 32, 33, 34, 35, 36, 37, 38] (fun a => [(26, .s (.int .i64 (a.2 : Int)))]) (fun a => [(24, .arr false 8 (.int .i64) a.1.1), (25, .arr false 1 (.int .u8) a.1.2), (23, .box [.sub 24 0 a.1.1.length, .sub 25 0 a.1.2.length, .int .i8 l, .int .u8 so, .int .u8 eo])]) (fun a => a.1.1.length = ps.length + a.2 ∧ a.1.2.length = cs.length + a.2 ∧ a.2 ≤ 40) (fun a => 40 - a.2) ((xs, ys), 0) ⟨hxs, hys, Nat.zero_le _⟩ ?_ fun a ha => ?_
  · simp (maxSteps := 4000000) only [go_sem, reduceIte, reduceCtorEq, Int.reduceEq, Nat.reduceEqDiff, Nat.reduceBEq, Int.reduceLE, Int.reduceLT, Int.reduceNeg, Nat.reduceAdd, Nat.reduceSub, Nat.reduceMul, Nat.reduceLeDiff, Int.reduceToNat, Int.reduceAdd, Int.reduceSub, Int.reduceMul, weakRule, ref18Rule, ref18May, ref18Same, ref18With, fit18, awake18]
    simp [hxs, hys]
  obtain ⟨⟨xs', ys'⟩, j⟩ := a
  obtain ⟨hxs', hys', hj⟩ := ha
  dsimp only at hxs' hys' hj
  have htk : List.take cs.length W = W := List.take_of_length_le (by omega)
  refine run_ok (Cs := [weakRule, ref18Rule, ref18May, ref18Same, ref18With, fit18, awake18]) (stp := []) (inl := []) (unr := false) (cons_ok weakRule_ok (cons_ok ref18Rule_ok (cons_ok ref18May_ok (cons_ok ref18Same_ok (cons_ok ref18With_ok (cons_ok fit18_ok (cons_ok awake18_ok nil_ok))))))) 400 _ _ _ _ ?_
  simp (maxSteps := 4000000) only [go_sem, reduceIte, reduceCtorEq, Int.reduceEq, Nat.reduceEqDiff, Nat.reduceBEq, Int.reduceLE, Int.reduceLT, Int.reduceNeg, Nat.reduceAdd, Nat.reduceSub, Nat.reduceMul, Nat.reduceLeDiff, Int.reduceToNat, Int.reduceAdd, Int.reduceSub, Int.reduceMul, hxs', hys', h5, htk, weakRule, ref18Rule, ref18May, ref18Same, ref18With, fit18, awake18]
  (repeat' (first | (apply And.intro) | (intro _) | (show staB _ _ = true; kernel_rfl) | (show dynB _ _ = true; kernel_rfl) | (show dynP _ _ _ = true; kernel_rfl)))
  all_goals try omega
  · simp; omega
  · simp; omega
  · have hl1 : (xs'.take (ps.length + j) ++ [-98]).length = ps.length + (j + 1) := by simp [hxs']; omega
    have hl2 : (ys'.take (cs.length + j) ++ [98]).length = cs.length + (j + 1) := by simp [hys']; omega
    exact ⟨((xs'.take (ps.length + j) ++ [-98], ys'.take (cs.length + j) ++ [98]), j + 1), ⟨hl1, hl2, by dsimp only; omega⟩, by dsimp only; omega, wr_succ (by omega), ⟨by simp, by simp⟩, rfl, rfl⟩
  · trivial
  refine OkP.draw (Cs := [weakRule, ref18Rule, ref18May, ref18Same, ref18With, fit18, awake18]) (cons_ok weakRule_ok (cons_ok ref18Rule_ok (cons_ok ref18May_ok (cons_ok ref18Same_ok (cons_ok ref18With_ok (cons_ok fit18_ok (cons_ok awake18_ok nil_ok))))))) 17 (by kernel_rfl) ⟨rfl, rfl⟩ (by kernel_rfl) (by kernel_rfl) ?_
  simp (maxSteps := 4000000) only [go_sem, reduceIte, reduceCtorEq, Int.reduceEq, Nat.reduceEqDiff, Nat.reduceBEq, Int.reduceLE, Int.reduceLT, Int.reduceNeg, Nat.reduceAdd, Nat.reduceSub, Nat.reduceMul, Nat.reduceLeDiff, Int.reduceToNat, Int.reduceAdd, Int.reduceSub, Int.reduceMul, weakRule, ref18Rule, ref18May, ref18Same, ref18With, fit18, awake18]
  (repeat' (first | (apply And.intro) | (intro _) | (show staB _ _ = true; kernel_rfl) | (show dynB _ _ = true; kernel_rfl) | (show dynP _ _ _ = true; kernel_rfl)))
  refine OkP.call [15] (by kernel_rfl) (by kernel_rfl) ?_
  simp (maxSteps := 4000000) only [go_sem, reduceIte, reduceCtorEq, Int.reduceEq, Nat.reduceEqDiff, Nat.reduceBEq, Int.reduceLE, Int.reduceLT, Int.reduceNeg, Nat.reduceAdd, Nat.reduceSub, Nat.reduceMul, Nat.reduceLeDiff, Int.reduceToNat, Int.reduceAdd, Int.reduceSub, Int.reduceMul, callP, bIWi15, Try.f15, weakRule, ref18Rule, ref18May, ref18Same, ref18With, fit18, awake18]
  (repeat' (first | (apply And.intro) | (intro _) | (show staB _ _ = true; kernel_rfl) | (show dynB _ _ = true; kernel_rfl) | (show dynP _ _ _ = true; kernel_rfl)))
  all_goals try omega
  refine run_ok (Cs := [weakRule, ref18Rule, ref18May, ref18Same, ref18With, fit18, awake18]) (stp := []) (inl := []) (unr := false) (cons_ok weakRule_ok (cons_ok ref18Rule_ok (cons_ok ref18May_ok (cons_ok ref18Same_ok (cons_ok ref18With_ok (cons_ok fit18_ok (cons_ok awake18_ok nil_ok))))))) 400 _ _ _ _ ?_
  simp (maxSteps := 4000000) only [go_sem, reduceIte, reduceCtorEq, Int.reduceEq, Nat.reduceEqDiff, Nat.reduceBEq, Int.reduceLE, Int.reduceLT, Int.reduceNeg, Nat.reduceAdd, Nat.reduceSub, Nat.reduceMul, Nat.reduceLeDiff, Int.reduceToNat, Int.reduceAdd, Int.reduceSub, Int.reduceMul, h4, hw1, hw2, getD_end, weakRule, ref18Rule, ref18May, ref18Same, ref18With, fit18, awake18]
  (repeat' (first | (apply And.intro) | (intro _) | (show staB _ _ = true; kernel_rfl) | (show dynB _ _ = true; kernel_rfl) | (show dynP _ _ _ = true; kernel_rfl)))
  all_goals try omega
  · trivial
  refine OkP.draw (Cs := [weakRule, ref18Rule, ref18May, ref18Same, ref18With, fit18, awake18]) (cons_ok weakRule_ok (cons_ok ref18Rule_ok (cons_ok ref18May_ok (cons_ok ref18Same_ok (cons_ok ref18With_ok (cons_ok fit18_ok (cons_ok awake18_ok nil_ok))))))) 23 (by kernel_rfl) ⟨rfl, rfl⟩ (by kernel_rfl) (by kernel_rfl) ?_
  simp (maxSteps := 4000000) only [go_sem, reduceIte, reduceCtorEq, Int.reduceEq, Nat.reduceEqDiff, Nat.reduceBEq, Int.reduceLE, Int.reduceLT, Int.reduceNeg, Nat.reduceAdd, Nat.reduceSub, Nat.reduceMul, Nat.reduceLeDiff, Int.reduceToNat, Int.reduceAdd, Int.reduceSub, Int.reduceMul, weakRule, ref18Rule, ref18May, ref18Same, ref18With, fit18, awake18]
  (repeat' (first | (apply And.intro) | (intro _) | (show staB _ _ = true; kernel_rfl) | (show dynB _ _ = true; kernel_rfl) | (show dynP _ _ _ = true; kernel_rfl)))
  refine OkP.stop rfl ?_
  refine run_ok (Cs := [weakRule, ref18Rule, ref18May, ref18Same, ref18With, fit18, awake18]) (stp := []) (inl := []) (unr := false) (cons_ok weakRule_ok (cons_ok ref18Rule_ok (cons_ok ref18May_ok (cons_ok ref18Same_ok (cons_ok ref18With_ok (cons_ok fit18_ok (cons_ok awake18_ok nil_ok))))))) 400 _ _ _ _ ?_
  simp (maxSteps := 4000000) only [go_sem, reduceIte, reduceCtorEq, Int.reduceEq, Nat.reduceEqDiff, Nat.reduceBEq, Int.reduceLE, Int.reduceLT, Int.reduceNeg, Nat.reduceAdd, Nat.reduceSub, Nat.reduceMul, Nat.reduceLeDiff, Int.reduceToNat, Int.reduceAdd, Int.reduceSub, Int.reduceMul, weakRule, ref18Rule, ref18May, ref18Same, ref18With, fit18, awake18]

theorem lawWeakRules_ok : lawWeakRules.Ok Try.prog := by
  refine ⟨lawWeakRules0_ok.enters, fun S w vs x hS hr hwf hp i => ?_⟩
  by_cases h : OkSeq x.2.1 ∧ 1 ≤ (x.1 : Int) ∧ (x.1 : Int) ≤ 7
  · exact lawWeakRules1_ok.calls S w vs x hS hr hwf ⟨hp, h⟩ i
  · exact lawWeakRules0_ok.calls S w vs x hS hr hwf ⟨hp, h⟩ i

end Go.Proofs.Ytkpfgfomppidpaa.Sx
