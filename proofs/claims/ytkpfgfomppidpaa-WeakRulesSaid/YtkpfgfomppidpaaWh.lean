/- The law WeakResolves. -/
import Derived.Test.YtkpfgfomppidpaaWf
namespace Go.Proofs.Ytkpfgfomppidpaa.Sx
attribute [local irreducible] OkQ Ok OkP
set_option linter.unusedSimpArgs false
set_option linter.unusedVariables false
theorem bIWh18 : bodyI Try.prog 18 = bodyF Try.f18 := by kernel_rfl
theorem bIWh15 : bodyI Try.prog 15 = bodyF Try.f15 := by kernel_rfl
theorem bIWh13 : bodyI Try.prog 13 = bodyF Try.f13 := by kernel_rfl
theorem bIWh32 : bodyI Try.prog 32 = bodyF Try.f32 := by kernel_rfl
set_option maxRecDepth 8000

def withV (s : tSeq.den) (l : List Int) : tSeq.den := (s.1, l, s.2.2.1, s.2.2.2.1, s.2.2.2.2.1, ())
def ref18With : Con := ⟨31, [(true, tSeq), (false, tClasses)], [(true, tSeq)], fun _ => True, fun x => (withV x.1 x.2.1, ()), true⟩
theorem ref18With_ok : ref18With.Ok Try.prog := by
  refine con_q Try.func31 rfl (by decide) (fun x hx hp => run_ok (Cs := []) (stp := []) (inl := []) (unr := false) nil_ok 400 _ _ _ _ ?_) (by decide)
  obtain ⟨⟨(ps : List Int), (cs : List Int), (l : Int), (so : Int), (eo : Int), ⟨⟩⟩, (m : List Int), ⟨⟩⟩ := x
  have h1 := hx.1
  have h2 := hx.2.1
  clear hx hp
  simp (maxSteps := 4000000) only [go_sem, reduceIte, reduceCtorEq, Int.reduceEq, Nat.reduceEqDiff, Nat.reduceBEq, Int.reduceLE, Int.reduceLT, Int.reduceNeg, Nat.reduceAdd, Nat.reduceSub, Nat.reduceMul, Nat.reduceLeDiff, Int.reduceToNat, Int.reduceAdd, Int.reduceSub, Int.reduceMul, Try.f31, ref18With, withV]
  (repeat' (first | (apply And.intro) | (intro _) | (show staB _ _ = true; kernel_rfl) | (show dynB _ _ = true; kernel_rfl) | (show dynP _ _ _ = true; kernel_rfl)))
  all_goals first
    | omega
    | exact h1.1.1
    | exact h2.1
    | exact (h1.1.2 _ (by assumption)).1
    | exact (h1.1.2 _ (by assumption)).2
    | exact (h2.2 _ (by assumption)).1
    | exact (h2.2 _ (by assumption)).2
    | exact h1.2.2.1.1
    | exact h1.2.2.1.2
    | exact h1.2.2.2.1.1
    | exact h1.2.2.2.1.2
    | exact h1.2.2.2.2.1.1
    | exact h1.2.2.2.2.1.2
    | rfl
    | fail

/-- What is known is told anew: slots forgotten or told otherwise, objects renamed. -/
theorem OkQ.reset {P : Program} {kp : List Nat} {Q : St → Prop} (W : List Nat) (U : List (Nat × SV)) (H : List (Nat × Ob)) (m : Nat) {k : List It} {fr : List SV} {hp : List (Nat × Ob)} {nx : Nat}
    (h1 : SubQ kp ⟨fr, hp, nx⟩ ⟨upds (forget fr W) U, uos hp H, m⟩) (h : OkQ P kp Q k ⟨upds (forget fr W) U, uos hp H, m⟩) : OkQ P kp Q k ⟨fr, hp, nx⟩ := OkQ.sub h1 h

def lawWeakResolves : Con := ⟨4, [(true, tSeq)], [(false, .bool)], (tyL [(true, tSeq)]).small, fun _ => (true, ()), false⟩
def lawWeakResolves0 : Con := ⟨4, [(true, tSeq)], [(false, .bool)], fun x => (tyL [(true, tSeq)]).small x ∧ ¬ (OkSeq x.1), fun _ => (true, ()), false⟩
def lawWeakResolves1 : Con := ⟨4, [(true, tSeq)], [(false, .bool)], fun x => (tyL [(true, tSeq)]).small x ∧ (OkSeq x.1), fun _ => (true, ()), false⟩

set_option maxHeartbeats 2000000 in
theorem lawWeakResolves0_ok : lawWeakResolves0.Ok Try.prog := by
  refine con_q Try.func4 rfl (by decide) (fun x hx hp => run_ok (Cs := [weakResolve, ref18Resolve, ref18May, ref18Same, ref18With, fit18, awake18]) (stp := []) (inl := [13, 15]) (unr := false) (cons_ok weakResolve_ok (cons_ok ref18Resolve_ok (cons_ok ref18May_ok (cons_ok ref18Same_ok (cons_ok ref18With_ok (cons_ok fit18_ok (cons_ok awake18_ok nil_ok))))))) 400 _ _ _ _ ?_) (by decide)
  obtain ⟨⟨(ps : List Int), (cs : List Int), (l : Int), (so : Int), (eo : Int), ⟨⟩⟩, ⟨⟩⟩ := x
  have hz1 : ps.length * 8 ≤ 140737488351232 := hp.1.1.1.1
  have hz2 : cs.length * 1 ≤ 140737488351232 := hp.1.1.2.1.1
  have hno : ¬ OkSeq (ps, cs, l, so, eo, ()) := hp.2
  have h4 : sameSeq (ps, cs, l, so, eo, ()) (ps, cs, l, so, eo, ()) = true := sameSeq_iff.2 rfl
  have h5 : sameSeq ([], [], 0, 0, 0, ()) ([], [], 0, 0, 0, ()) = true := sameSeq_iff.2 rfl
  have hw1 := wr_succ (n := ps.length) (by omega)
  have hw2 := wr_succ (n := cs.length) (by omega)
  clear hx hp
  by_cases hok : OkSeq (ps, cs, l, so, eo, ())
  · exact absurd hok hno
  · have h1 : resolveE (ps, cs, l, so, eo, ()) = 170 := if_neg hok
    have h2 : resolveV (ps, cs, l, so, eo, ()) = ([], [], 0, 0, 0, ()) := if_neg hok
    have h3 : okB (ps, cs, l, so, eo, ()) = false := decide_eq_false hok
    simp (maxSteps := 4000000) only [go_sem, reduceIte, reduceCtorEq, Int.reduceEq, Nat.reduceEqDiff, Nat.reduceBEq, Int.reduceLE, Int.reduceLT, Int.reduceNeg, Nat.reduceAdd, Nat.reduceSub, Nat.reduceMul, Nat.reduceLeDiff, Int.reduceToNat, Int.reduceAdd, Int.reduceSub, Int.reduceMul, Try.f4, lawWeakResolves0, h1, h2, h3, h4, h5, hw1, hw2, getD_end, bIWh13, Try.f13, bIWh15, Try.f15, weakResolve, ref18Resolve, ref18May, ref18Same, ref18With, fit18, awake18]
    (repeat' (first | (apply And.intro) | (intro _) | (show staB _ _ = true; kernel_rfl) | (show dynB _ _ = true; kernel_rfl) | (show dynP _ _ _ = true; kernel_rfl)))
    all_goals first | omega | contradiction | fail

set_option maxHeartbeats 4000000 in
theorem lawWeakResolves1_ok : lawWeakResolves1.Ok Try.prog := by
  refine con_q Try.func4 rfl (by decide) (fun x hx hp => run_ok (Cs := [weakResolve, ref18Resolve, ref18May, ref18Same, ref18With, fit18, awake18]) (stp := [10]) (inl := [13, 15]) (unr := false) (cons_ok weakResolve_ok (cons_ok ref18Resolve_ok (cons_ok ref18May_ok (cons_ok ref18Same_ok (cons_ok ref18With_ok (cons_ok fit18_ok (cons_ok awake18_ok nil_ok))))))) 400 _ _ _ _ ?_) (by decide)
  obtain ⟨⟨(ps : List Int), (cs : List Int), (l : Int), (so : Int), (eo : Int), ⟨⟩⟩, ⟨⟩⟩ := x
  have hz1 : ps.length * 8 ≤ 140737488351232 := hp.1.1.1.1
  have hz2 : cs.length * 1 ≤ 140737488351232 := hp.1.1.2.1.1
  have hok : OkS ps cs l so eo := hp.2
  have h1 : resolveE (ps, cs, l, so, eo, ()) = 0 := if_pos hok
  have h2 : resolveV (ps, cs, l, so, eo, ()) = (ps, weakC so cs, l, so, eo, ()) := if_pos hok
  have hlen : (weakC so cs).length = cs.length := weakC_len
  have hpc : ps.length = cs.length := hok.2.1
  have h3 : okB (ps, cs, l, so, eo, ()) = true := decide_eq_true hok
  have h4 : sameSeq (ps, cs, l, so, eo, ()) (ps, cs, l, so, eo, ()) = true := sameSeq_iff.2 rfl
  have h5 : sameSeq (ps, weakC so cs, l, so, eo, ()) (ps, weakC so cs, l, so, eo, ()) = true := sameSeq_iff.2 rfl
  have hw1 := wr_succ (n := ps.length) (by omega)
  have hw2 := wr_succ (n := cs.length) (by omega)
  clear hx hp hok
  simp (maxSteps := 4000000) only [go_sem, reduceIte, reduceCtorEq, Int.reduceEq, Nat.reduceEqDiff, Nat.reduceBEq, Int.reduceLE, Int.reduceLT, Int.reduceNeg, Nat.reduceAdd, Nat.reduceSub, Nat.reduceMul, Nat.reduceLeDiff, Int.reduceToNat, Int.reduceAdd, Int.reduceSub, Int.reduceMul, Try.f4, lawWeakResolves1, h1, h2, h3, h4, h5, hw1, hw2, getD_end, withV, bIWh13, Try.f13, bIWh15, Try.f15, weakResolve, ref18Resolve, ref18May, ref18Same, ref18With, fit18, awake18]
  (repeat' (first | (apply And.intro) | (intro _) | (show staB _ _ = true; kernel_rfl) | (show dynB _ _ = true; kernel_rfl) | (show dynP _ _ _ = true; kernel_rfl)))
  all_goals try omega
  refine OkQ.cutStart (by kernel_rfl) ?_
  refine OkP.draw (Cs := [weakResolve, ref18Resolve, ref18May, ref18Same, ref18With, fit18, awake18]) (cons_ok weakResolve_ok (cons_ok ref18Resolve_ok (cons_ok ref18May_ok (cons_ok ref18Same_ok (cons_ok ref18With_ok (cons_ok fit18_ok (cons_ok awake18_ok nil_ok))))))) 11 (by kernel_rfl) ⟨rfl, rfl⟩ (by kernel_rfl) (by kernel_rfl) ?_
  simp (maxSteps := 4000000) only [go_sem, reduceIte, reduceCtorEq, Int.reduceEq, Nat.reduceEqDiff, Nat.reduceBEq, Int.reduceLE, Int.reduceLT, Int.reduceNeg, Nat.reduceAdd, Nat.reduceSub, Nat.reduceMul, Nat.reduceLeDiff, Int.reduceToNat, Int.reduceAdd, Int.reduceSub, Int.reduceMul, weakResolve, ref18Resolve, ref18May, ref18Same, ref18With, fit18, awake18]
  (repeat' (first | (apply And.intro) | (intro _) | (show staB _ _ = true; kernel_rfl) | (show dynB _ _ = true; kernel_rfl) | (show dynP _ _ _ = true; kernel_rfl)))
  all_goals try contradiction
  generalize weakC so cs = W at *
  refine OkP.call [18] (by kernel_rfl) (by kernel_rfl) ?_
  simp (maxSteps := 4000000) only [go_sem, reduceIte, reduceCtorEq, Int.reduceEq, Nat.reduceEqDiff, Nat.reduceBEq, Int.reduceLE, Int.reduceLT, Int.reduceNeg, Nat.reduceAdd, Nat.reduceSub, Nat.reduceMul, Nat.reduceLeDiff, Int.reduceToNat, Int.reduceAdd, Int.reduceSub, Int.reduceMul, callP, bIWh18, Try.f18, weakResolve, ref18Resolve, ref18May, ref18Same, ref18With, fit18, awake18]
  refine run_ok (Cs := [weakResolve, ref18Resolve, ref18May, ref18Same, ref18With, fit18, awake18]) (stp := []) (inl := [18, 32]) (unr := false) (cons_ok weakResolve_ok (cons_ok ref18Resolve_ok (cons_ok ref18May_ok (cons_ok ref18Same_ok (cons_ok ref18With_ok (cons_ok fit18_ok (cons_ok awake18_ok nil_ok))))))) 400 _ _ _ _ ?_
  simp (maxSteps := 4000000) only [go_sem, reduceIte, reduceCtorEq, Int.reduceEq, Nat.reduceEqDiff, Nat.reduceBEq, Int.reduceLE, Int.reduceLT, Int.reduceNeg, Nat.reduceAdd, Nat.reduceSub, Nat.reduceMul, Nat.reduceLeDiff, Int.reduceToNat, Int.reduceAdd, Int.reduceSub, Int.reduceMul, h4, h5, withV, bIWh18, Try.f18, bIWh32, Try.f32, weakResolve, ref18Resolve, ref18May, ref18Same, ref18With, fit18, awake18]
  (repeat' (first | (apply And.intro) | (intro _) | (show staB _ _ = true; kernel_rfl) | (show dynB _ _ = true; kernel_rfl) | (show dynP _ _ _ = true; kernel_rfl)))
  all_goals try omega
  -- the classes are written over
  refine OkQ.loop (α := List Int × Nat) [0, 2, 3, 4, 5, 6, 7, 8, 9, 10, 11, 12, 13, 14, 15, 16, 17, 18, 19, 20, 21, 22, 23, 24, 25, 26, 27, 28, 29, 30, 31, 32, 33, 34, 35, 36, 37, 38] (fun a => [(2, .s (.int .i64 (a.2 : Int)))]) (fun a => [(11, .arr false 1 (.int .u8) a.1)]) (fun a => a.1.length = cs.length ∧ a.2 ≤ cs.length) (fun a => cs.length - a.2) (W, 0) ⟨hlen, Nat.zero_le _⟩ ?_ fun a ha => ?_
  · simp (maxSteps := 4000000) only [go_sem, reduceIte, reduceCtorEq, Int.reduceEq, Nat.reduceEqDiff, Nat.reduceBEq, Int.reduceLE, Int.reduceLT, Int.reduceNeg, Nat.reduceAdd, Nat.reduceSub, Nat.reduceMul, Nat.reduceLeDiff, Int.reduceToNat, Int.reduceAdd, Int.reduceSub, Int.reduceMul, weakResolve, ref18Resolve, ref18May, ref18Same, ref18With, fit18, awake18]
    simp
  obtain ⟨ys, i⟩ := a
  obtain ⟨hys, hi⟩ := ha
  dsimp only at hys hi
  refine run_ok (Cs := [weakResolve, ref18Resolve, ref18May, ref18Same, ref18With, fit18, awake18]) (stp := []) (inl := []) (unr := false) (cons_ok weakResolve_ok (cons_ok ref18Resolve_ok (cons_ok ref18May_ok (cons_ok ref18Same_ok (cons_ok ref18With_ok (cons_ok fit18_ok (cons_ok awake18_ok nil_ok))))))) 400 _ _ _ _ ?_
  simp (maxSteps := 4000000) only [go_sem, reduceIte, reduceCtorEq, Int.reduceEq, Nat.reduceEqDiff, Nat.reduceBEq, Int.reduceLE, Int.reduceLT, Int.reduceNeg, Nat.reduceAdd, Nat.reduceSub, Nat.reduceMul, Nat.reduceLeDiff, Int.reduceToNat, Int.reduceAdd, Int.reduceSub, Int.reduceMul, hys, hlen, weakResolve, ref18Resolve, ref18May, ref18Same, ref18With, fit18, awake18]
  (repeat' (first | (apply And.intro) | (intro _) | (show staB _ _ = true; kernel_rfl) | (show dynB _ _ = true; kernel_rfl) | (show dynP _ _ _ = true; kernel_rfl)))
  all_goals try omega
  · exact ⟨(ys.set i 99, i + 1), ⟨by simpa using hys, by dsimp only; omega⟩, by dsimp only; omega, wr_succ (by omega), rfl, by simp⟩
  -- the places
  refine OkQ.loop (α := List Int × Nat) [0, 2, 3, 4, 5, 6, 7, 8, 9, 10, 11, 12, 13, 14, 15, 16, 17, 18, 19, 20, 21, 22, 23, 24, 25, 26, 27, 28, 29, 30, 31, 32, 33, 34, 35, 36, 37, 38] (fun a => [(3, .s (.int .i64 (a.2 : Int)))]) (fun a => [(10, .arr false 8 (.int .i64) a.1)]) (fun a => a.1.length = ps.length ∧ a.2 ≤ ps.length) (fun a => ps.length - a.2) (ps, 0) ⟨rfl, Nat.zero_le _⟩ ?_ fun a ha => ?_
  · simp (maxSteps := 4000000) only [go_sem, reduceIte, reduceCtorEq, Int.reduceEq, Nat.reduceEqDiff, Nat.reduceBEq, Int.reduceLE, Int.reduceLT, Int.reduceNeg, Nat.reduceAdd, Nat.reduceSub, Nat.reduceMul, Nat.reduceLeDiff, Int.reduceToNat, Int.reduceAdd, Int.reduceSub, Int.reduceMul, weakResolve, ref18Resolve, ref18May, ref18Same, ref18With, fit18, awake18]
    simp
  obtain ⟨xs, m⟩ := a
  obtain ⟨hxs, hm⟩ := ha
  dsimp only at hxs hm
  refine run_ok (Cs := [weakResolve, ref18Resolve, ref18May, ref18Same, ref18With, fit18, awake18]) (stp := []) (inl := []) (unr := false) (cons_ok weakResolve_ok (cons_ok ref18Resolve_ok (cons_ok ref18May_ok (cons_ok ref18Same_ok (cons_ok ref18With_ok (cons_ok fit18_ok (cons_ok awake18_ok nil_ok))))))) 400 _ _ _ _ ?_
  simp (maxSteps := 4000000) only [go_sem, reduceIte, reduceCtorEq, Int.reduceEq, Nat.reduceEqDiff, Nat.reduceBEq, Int.reduceLE, Int.reduceLT, Int.reduceNeg, Nat.reduceAdd, Nat.reduceSub, Nat.reduceMul, Nat.reduceLeDiff, Int.reduceToNat, Int.reduceAdd, Int.reduceSub, Int.reduceMul, hxs, hlen, weakResolve, ref18Resolve, ref18May, ref18Same, ref18With, fit18, awake18]
  (repeat' (first | (apply And.intro) | (intro _) | (show staB _ _ = true; kernel_rfl) | (show dynB _ _ = true; kernel_rfl) | (show dynP _ _ _ = true; kernel_rfl)))
  all_goals try omega
  · exact ⟨(xs.set m (-99), m + 1), ⟨by simpa using hxs, by dsimp only; omega⟩, by dsimp only; omega, wr_succ (by omega), rfl, by simp⟩
  -- what lies behind them
  refine OkQ.reset [0] [] [(10, .dead), (11, .dead), (24, .arr false 8 (.int .i64) xs), (25, .arr false 1 (.int .u8) ys), (23, .box [.sub 24 0 ps.length, .sub 25 0 cs.length, .int .i8 l, .int .u8 so, .int .u8 eo])] 26 ?_ ?_
  · simp (maxSteps := 4000000) only [go_sem, reduceIte, reduceCtorEq, Int.reduceEq, Nat.reduceEqDiff, Nat.reduceBEq, Int.reduceLE, Int.reduceLT, Int.reduceNeg, Nat.reduceAdd, Nat.reduceSub, Nat.reduceMul, Nat.reduceLeDiff, Int.reduceToNat, Int.reduceAdd, Int.reduceSub, Int.reduceMul, weakResolve, ref18Resolve, ref18May, ref18Same, ref18With, fit18, awake18]
  refine OkQ.loop (α := (List Int × List Int) × Nat) [0, 2, 3, 4, 5, 6, 7, 8, 9, 10, 11, 12, 13, 14, 15, 16, 17, 18, 19, 20, 21, 22, 23, 24, 25, 26, 27, 28, 29, 30, 31, 32, 33, 34, 35, 36, 37, 38] (fun a => [(26, .s (.int .i64 (a.2 : Int)))]) (fun a => [(24, .arr false 8 (.int .i64) a.1.1), (25, .arr false 1 (.int .u8) a.1.2), (23, .box [.sub 24 0 a.1.1.length, .sub 25 0 a.1.2.length, .int .i8 l, .int .u8 so, .int .u8 eo])]) (fun a => a.1.1.length = ps.length + a.2 ∧ a.1.2.length = cs.length + a.2 ∧ a.2 ≤ 40) (fun a => 40 - a.2) ((xs, ys), 0) ⟨hxs, hys, Nat.zero_le _⟩ ?_ fun a ha => ?_
  · simp (maxSteps := 4000000) only [go_sem, reduceIte, reduceCtorEq, Int.reduceEq, Nat.reduceEqDiff, Nat.reduceBEq, Int.reduceLE, Int.reduceLT, Int.reduceNeg, Nat.reduceAdd, Nat.reduceSub, Nat.reduceMul, Nat.reduceLeDiff, Int.reduceToNat, Int.reduceAdd, Int.reduceSub, Int.reduceMul, weakResolve, ref18Resolve, ref18May, ref18Same, ref18With, fit18, awake18]
    simp [hxs, hys]
  obtain ⟨⟨xs', ys'⟩, j⟩ := a
  obtain ⟨hxs', hys', hj⟩ := ha
  dsimp only at hxs' hys' hj
  have htk : List.take cs.length W = W := List.take_of_length_le (by omega)
  refine run_ok (Cs := [weakResolve, ref18Resolve, ref18May, ref18Same, ref18With, fit18, awake18]) (stp := []) (inl := []) (unr := false) (cons_ok weakResolve_ok (cons_ok ref18Resolve_ok (cons_ok ref18May_ok (cons_ok ref18Same_ok (cons_ok ref18With_ok (cons_ok fit18_ok (cons_ok awake18_ok nil_ok))))))) 400 _ _ _ _ ?_
  simp (maxSteps := 4000000) only [go_sem, reduceIte, reduceCtorEq, Int.reduceEq, Nat.reduceEqDiff, Nat.reduceBEq, Int.reduceLE, Int.reduceLT, Int.reduceNeg, Nat.reduceAdd, Nat.reduceSub, Nat.reduceMul, Nat.reduceLeDiff, Int.reduceToNat, Int.reduceAdd, Int.reduceSub, Int.reduceMul, hxs', hys', h5, htk, weakResolve, ref18Resolve, ref18May, ref18Same, ref18With, fit18, awake18]
  (repeat' (first | (apply And.intro) | (intro _) | (show staB _ _ = true; kernel_rfl) | (show dynB _ _ = true; kernel_rfl) | (show dynP _ _ _ = true; kernel_rfl)))
  all_goals try omega
  · simp; omega
  · simp; omega
  · have hl1 : (xs'.take (ps.length + j) ++ [-98]).length = ps.length + (j + 1) := by simp [hxs']; omega
    have hl2 : (ys'.take (cs.length + j) ++ [98]).length = cs.length + (j + 1) := by simp [hys']; omega
    exact ⟨((xs'.take (ps.length + j) ++ [-98], ys'.take (cs.length + j) ++ [98]), j + 1), ⟨hl1, hl2, by dsimp only; omega⟩, by dsimp only; omega, wr_succ (by omega), ⟨by simp, by simp⟩, rfl, rfl⟩
  · trivial
  refine OkP.draw (Cs := [weakResolve, ref18Resolve, ref18May, ref18Same, ref18With, fit18, awake18]) (cons_ok weakResolve_ok (cons_ok ref18Resolve_ok (cons_ok ref18May_ok (cons_ok ref18Same_ok (cons_ok ref18With_ok (cons_ok fit18_ok (cons_ok awake18_ok nil_ok))))))) 16 (by kernel_rfl) ⟨rfl, rfl⟩ (by kernel_rfl) (by kernel_rfl) ?_
  simp (maxSteps := 4000000) only [go_sem, reduceIte, reduceCtorEq, Int.reduceEq, Nat.reduceEqDiff, Nat.reduceBEq, Int.reduceLE, Int.reduceLT, Int.reduceNeg, Nat.reduceAdd, Nat.reduceSub, Nat.reduceMul, Nat.reduceLeDiff, Int.reduceToNat, Int.reduceAdd, Int.reduceSub, Int.reduceMul, weakResolve, ref18Resolve, ref18May, ref18Same, ref18With, fit18, awake18]
  (repeat' (first | (apply And.intro) | (intro _) | (show staB _ _ = true; kernel_rfl) | (show dynB _ _ = true; kernel_rfl) | (show dynP _ _ _ = true; kernel_rfl)))
  refine OkP.call [15] (by kernel_rfl) (by kernel_rfl) ?_
  simp (maxSteps := 4000000) only [go_sem, reduceIte, reduceCtorEq, Int.reduceEq, Nat.reduceEqDiff, Nat.reduceBEq, Int.reduceLE, Int.reduceLT, Int.reduceNeg, Nat.reduceAdd, Nat.reduceSub, Nat.reduceMul, Nat.reduceLeDiff, Int.reduceToNat, Int.reduceAdd, Int.reduceSub, Int.reduceMul, callP, bIWh15, Try.f15, weakResolve, ref18Resolve, ref18May, ref18Same, ref18With, fit18, awake18]
  (repeat' (first | (apply And.intro) | (intro _) | (show staB _ _ = true; kernel_rfl) | (show dynB _ _ = true; kernel_rfl) | (show dynP _ _ _ = true; kernel_rfl)))
  all_goals try omega
  refine run_ok (Cs := [weakResolve, ref18Resolve, ref18May, ref18Same, ref18With, fit18, awake18]) (stp := []) (inl := []) (unr := false) (cons_ok weakResolve_ok (cons_ok ref18Resolve_ok (cons_ok ref18May_ok (cons_ok ref18Same_ok (cons_ok ref18With_ok (cons_ok fit18_ok (cons_ok awake18_ok nil_ok))))))) 400 _ _ _ _ ?_
  simp (maxSteps := 4000000) only [go_sem, reduceIte, reduceCtorEq, Int.reduceEq, Nat.reduceEqDiff, Nat.reduceBEq, Int.reduceLE, Int.reduceLT, Int.reduceNeg, Nat.reduceAdd, Nat.reduceSub, Nat.reduceMul, Nat.reduceLeDiff, Int.reduceToNat, Int.reduceAdd, Int.reduceSub, Int.reduceMul, h4, hw1, hw2, getD_end, weakResolve, ref18Resolve, ref18May, ref18Same, ref18With, fit18, awake18]
  (repeat' (first | (apply And.intro) | (intro _) | (show staB _ _ = true; kernel_rfl) | (show dynB _ _ = true; kernel_rfl) | (show dynP _ _ _ = true; kernel_rfl)))
  all_goals try omega
  · trivial
  refine OkP.draw (Cs := [weakResolve, ref18Resolve, ref18May, ref18Same, ref18With, fit18, awake18]) (cons_ok weakResolve_ok (cons_ok ref18Resolve_ok (cons_ok ref18May_ok (cons_ok ref18Same_ok (cons_ok ref18With_ok (cons_ok fit18_ok (cons_ok awake18_ok nil_ok))))))) 22 (by kernel_rfl) ⟨rfl, rfl⟩ (by kernel_rfl) (by kernel_rfl) ?_
  simp (maxSteps := 4000000) only [go_sem, reduceIte, reduceCtorEq, Int.reduceEq, Nat.reduceEqDiff, Nat.reduceBEq, Int.reduceLE, Int.reduceLT, Int.reduceNeg, Nat.reduceAdd, Nat.reduceSub, Nat.reduceMul, Nat.reduceLeDiff, Int.reduceToNat, Int.reduceAdd, Int.reduceSub, Int.reduceMul, weakResolve, ref18Resolve, ref18May, ref18Same, ref18With, fit18, awake18]
  (repeat' (first | (apply And.intro) | (intro _) | (show staB _ _ = true; kernel_rfl) | (show dynB _ _ = true; kernel_rfl) | (show dynP _ _ _ = true; kernel_rfl)))
  refine OkP.stop rfl ?_
  refine run_ok (Cs := [weakResolve, ref18Resolve, ref18May, ref18Same, ref18With, fit18, awake18]) (stp := []) (inl := []) (unr := false) (cons_ok weakResolve_ok (cons_ok ref18Resolve_ok (cons_ok ref18May_ok (cons_ok ref18Same_ok (cons_ok ref18With_ok (cons_ok fit18_ok (cons_ok awake18_ok nil_ok))))))) 400 _ _ _ _ ?_
  simp (maxSteps := 4000000) only [go_sem, reduceIte, reduceCtorEq, Int.reduceEq, Nat.reduceEqDiff, Nat.reduceBEq, Int.reduceLE, Int.reduceLT, Int.reduceNeg, Nat.reduceAdd, Nat.reduceSub, Nat.reduceMul, Nat.reduceLeDiff, Int.reduceToNat, Int.reduceAdd, Int.reduceSub, Int.reduceMul, weakResolve, ref18Resolve, ref18May, ref18Same, ref18With, fit18, awake18]

theorem lawWeakResolves_ok : lawWeakResolves.Ok Try.prog := by
  refine ⟨lawWeakResolves0_ok.enters, fun S w vs x hS hr hwf hp i => ?_⟩
  by_cases h : OkSeq x.1
  · exact lawWeakResolves1_ok.calls S w vs x hS hr hwf ⟨hp, h⟩ i
  · exact lawWeakResolves0_ok.calls S w vs x hS hr hwf ⟨hp, h⟩ i

end Go.Proofs.Ytkpfgfomppidpaa.Sx
