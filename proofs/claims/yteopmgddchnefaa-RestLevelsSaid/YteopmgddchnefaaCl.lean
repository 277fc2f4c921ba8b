/- The law RestLevels. -/
import Derived.Test.YteopmgddchnefaaCj
namespace Go.Proofs.Yteopmgddchnefaa.Sx
attribute [local irreducible] OkQ Ok
set_option linter.unusedSimpArgs false
set_option linter.unusedVariables false
theorem bICl29 : bodyI Try.prog 29 = bodyF Try.f29 := by kernel_rfl
theorem bICl25 : bodyI Try.prog 25 = bodyF Try.f25 := by kernel_rfl
set_option maxRecDepth 8000

def lawLevels : Con := ⟨32, [(false, tLevels), (false, tLevels)], [(false, .bool)], fun _ => True, fun x => (decide ((x.1 : List Int) = x.2.1), ())⟩

theorem lawLevels_ok : lawLevels.Ok Try.prog := by
  refine con_q Try.func32 rfl (by decide) (fun x hx hp => run_ok (Cs := []) (stp := []) (inl := []) (unr := false) nil_ok 400 _ _ _ _ ?_) (by decide)
  obtain ⟨(xs : List Int), (ys : List Int), ⟨⟩⟩ := x
  have hz : xs.length * 1 ≤ 140737488355328 := hx.1.1
  clear hx hp
  simp (maxSteps := 4000000) only [go_sem, reduceIte, reduceCtorEq, Int.reduceEq, Nat.reduceEqDiff, Nat.reduceBEq, Int.reduceLE, Int.reduceLT, Int.reduceNeg, Nat.reduceAdd, Nat.reduceSub, Nat.reduceMul, Nat.reduceLeDiff, Int.reduceToNat, Try.f32, lawLevels]
  refine ⟨fun h => ?_, fun h => ?_⟩
  · exact decF (ne_len (by omega))
  · refine OkQ.loop (α := Nat) [2, 3, 4, 5, 6, 7, 8, 9, 10, 11, 12, 13, 14, 15, 16, 17, 18, 19, 20, 21, 22, 23, 24, 25] (fun i => [(5, .s (.int .i64 (i : Int)))]) (fun _ => []) (fun i => i ≤ xs.length ∧ xs.take i = ys.take i) (fun i => xs.length - i) 0 ⟨by simp, by simp⟩ ?_ fun i hi => ?_
    · simp (maxSteps := 4000000) only [go_sem, reduceIte, reduceCtorEq, Int.reduceEq, Nat.reduceEqDiff, Nat.reduceBEq, Int.reduceLE, Int.reduceLT, Int.reduceNeg, Nat.reduceAdd, Nat.reduceSub, Nat.reduceMul, Nat.reduceLeDiff, Int.reduceToNat]
      simp
    · refine run_ok (Cs := []) (stp := []) (inl := []) (unr := false) nil_ok 400 _ _ _ _ ?_
      simp (maxSteps := 4000000) only [go_sem, reduceIte, reduceCtorEq, Int.reduceEq, Nat.reduceEqDiff, Nat.reduceBEq, Int.reduceLE, Int.reduceLT, Int.reduceNeg, Nat.reduceAdd, Nat.reduceSub, Nat.reduceMul, Nat.reduceLeDiff, Int.reduceToNat]
      obtain ⟨hi, ht⟩ := hi
      (repeat' (first | (apply And.intro) | (intro _) | (show staB _ _ = true; kernel_rfl) | (show dynB _ _ = true; kernel_rfl)))
      all_goals try omega
      · rename_i hlt hne
        exact decF (ne_at 0 hne)
      · rename_i hlt he
        exact ⟨i + 1, ⟨by omega, eq_next 0 ht (by omega) (by omega) he⟩, by omega, by rw [wr_i64 (by omega) (by omega)]; simp⟩
      · exact decT (eq_end ht (by omega) (by omega))

def lawRestLevels : Con := ⟨5, [(true, tSeq)], [(false, .bool)], (tyL [(true, tSeq)]).small, fun _ => (true, ())⟩

theorem lawRestLevels_ok : lawRestLevels.Ok Try.prog := by
  refine con_q Try.func5 rfl (by decide) (fun x hx hp => run_ok (Cs := [restLevels, refLevels, lawLevels, awake20, ref17Same]) (stp := []) (inl := [25, 29]) (unr := false) (cons_ok restLevels_ok (cons_ok refLevels_ok (cons_ok lawLevels_ok (cons_ok awake20_ok (cons_ok ref17Same_ok nil_ok))))) 400 _ _ _ _ ?_) (by decide)
  obtain ⟨⟨(ps : List Int), (cs : List Int), (l : Int), (so : Int), (eo : Int), ⟨⟩⟩, ⟨⟩⟩ := x
  have hz1 : ps.length * 8 ≤ 140737488351232 := hp.1.1.1
  have hz2 : cs.length * 1 ≤ 140737488351232 := hp.1.2.1.1
  clear hx hp
  have hw1 := wr_succ (n := ps.length) (by omega)
  have hw2 := wr_succ (n := cs.length) (by omega)
  have hss : sameSeq (ps, cs, l, so, eo, ()) (ps, cs, l, so, eo, ()) = true := sameSeq_iff.2 rfl
  have hll : (levelsV (ps, cs, l, so, eo, ())).length ≤ cs.length := by
    show (lvsV ps cs l so eo).length ≤ _
    unfold lvsV
    split <;> simp
  simp (maxSteps := 4000000) only [go_sem, reduceIte, reduceCtorEq, Int.reduceEq, Nat.reduceEqDiff, Nat.reduceBEq, Int.reduceLE, Int.reduceLT, Int.reduceNeg, Nat.reduceAdd, Nat.reduceSub, Nat.reduceMul, Nat.reduceLeDiff, Int.reduceToNat, Try.f5, lawRestLevels, bICl25, Try.f25, bICl29, Try.f29, hw1, hw2, hss, getD_end, restLevels, refLevels, lawLevels, awake20, ref17Same]
  generalize levelsV (ps, cs, l, so, eo, ()) = lv at *
  (repeat' (first | (apply And.intro) | (intro _) | (show staB _ _ = true; kernel_rfl) | (show dynB _ _ = true; kernel_rfl)))
  all_goals try omega
  · refine OkQ.loop (α := List Int × Nat) [0, 1, 2, 3, 5, 7, 9, 10, 11, 12, 13, 14, 15, 16, 17, 18, 19, 20, 21, 22, 23, 24, 25, 26, 27, 28, 29, 30, 31, 32, 33, 34, 35, 36, 37, 38, 39, 40, 41, 42, 43, 44, 45, 46, 47, 48, 49, 50, 51, 52, 53, 54, 55, 56, 57, 58, 59, 60, 61, 62, 63, 64, 65, 66, 67, 68, 69, 70, 71, 72, 73, 74, 75, 76, 77, 78, 79, 80, 81, 82, 83, 84] (fun a => [(10, .s (.int .i64 (a.2 : Int)))]) (fun a => [(11, .arr false 1 (.int .i8) a.1)]) (fun a => a.1.length = lv.length ∧ a.2 ≤ lv.length) (fun a => lv.length - a.2) (lv, 0) ⟨rfl, Nat.zero_le _⟩ ?_ fun a ha => ?_
    · simp (maxSteps := 4000000) only [go_sem, reduceIte, reduceCtorEq, Int.reduceEq, Nat.reduceEqDiff, Nat.reduceBEq, Int.reduceLE, Int.reduceLT, Int.reduceNeg, Nat.reduceAdd, Nat.reduceSub, Nat.reduceMul, Nat.reduceLeDiff, Int.reduceToNat, restLevels, refLevels, lawLevels, awake20, ref17Same]
      simp
    · obtain ⟨zs, i⟩ := a
      obtain ⟨hzs, hi⟩ := ha
      dsimp only at hzs hi
      refine run_ok (Cs := [restLevels, refLevels, lawLevels, awake20, ref17Same]) (stp := []) (inl := []) (unr := false) (cons_ok restLevels_ok (cons_ok refLevels_ok (cons_ok lawLevels_ok (cons_ok awake20_ok (cons_ok ref17Same_ok nil_ok))))) 400 _ _ _ _ ?_
      simp (maxSteps := 4000000) only [go_sem, reduceIte, reduceCtorEq, Int.reduceEq, Nat.reduceEqDiff, Nat.reduceBEq, Int.reduceLE, Int.reduceLT, Int.reduceNeg, Nat.reduceAdd, Nat.reduceSub, Nat.reduceMul, Nat.reduceLeDiff, Int.reduceToNat, hzs, restLevels, refLevels, lawLevels, awake20, ref17Same]
      (repeat' (first | (apply And.intro) | (intro _) | (show staB _ _ = true; kernel_rfl) | (show dynB _ _ = true; kernel_rfl)))
      all_goals try omega
      · exact ⟨(zs.set i (-5), i + 1), ⟨by simpa using hzs, by dsimp only; omega⟩, by dsimp only; omega, wr_succ (by omega), rfl⟩
      · refine OkQ.loop (α := List Int × Nat) [0, 1, 2, 3, 4, 5, 7, 9, 10, 11, 12, 13, 14, 15, 16, 17, 18, 19, 20, 21, 22, 23, 24, 25, 26, 27, 28, 29, 30, 31, 32, 33, 34, 35, 36, 37, 38, 39, 40, 41, 42, 43, 44, 45, 46, 47, 48, 49, 50, 51, 52, 53, 54, 55, 56, 57, 58, 59, 60, 61, 62, 63, 64, 65, 66, 67, 68, 69, 70, 71, 72, 73, 74, 75, 76, 77, 78, 79, 80, 81, 82, 83, 84] (fun a => [(4, .s (.sub 11 0 a.1.length)), (11, .s (.int .i64 (a.2 : Int)))]) (fun a => [(11, .arr false 1 (.int .i8) a.1)]) (fun a => a.1.length = lv.length + a.2 ∧ a.2 ≤ 20) (fun a => 20 - a.2) (zs, 0) ⟨hzs, Nat.zero_le _⟩ ?_ fun a ha => ?_
        · simp (maxSteps := 4000000) only [go_sem, reduceIte, reduceCtorEq, Int.reduceEq, Nat.reduceEqDiff, Nat.reduceBEq, Int.reduceLE, Int.reduceLT, Int.reduceNeg, Nat.reduceAdd, Nat.reduceSub, Nat.reduceMul, Nat.reduceLeDiff, Int.reduceToNat, restLevels, refLevels, lawLevels, awake20, ref17Same]
          simp [hzs]
        · obtain ⟨ys, j⟩ := a
          obtain ⟨hys, hj⟩ := ha
          dsimp only at hys hj
          refine run_ok (Cs := [restLevels, refLevels, lawLevels, awake20, ref17Same]) (stp := []) (inl := []) (unr := false) (cons_ok restLevels_ok (cons_ok refLevels_ok (cons_ok lawLevels_ok (cons_ok awake20_ok (cons_ok ref17Same_ok nil_ok))))) 400 _ _ _ _ ?_
          simp (maxSteps := 4000000) only [go_sem, reduceIte, reduceCtorEq, Int.reduceEq, Nat.reduceEqDiff, Nat.reduceBEq, Int.reduceLE, Int.reduceLT, Int.reduceNeg, Nat.reduceAdd, Nat.reduceSub, Nat.reduceMul, Nat.reduceLeDiff, Int.reduceToNat, hys, restLevels, refLevels, lawLevels, awake20, ref17Same]
          (repeat' (first | (apply And.intro) | (intro _) | (show staB _ _ = true; kernel_rfl) | (show dynB _ _ = true; kernel_rfl)))
          all_goals try omega
          · simp; omega
          · have hlen : (ys.take (lv.length + j) ++ [-6]).length = lv.length + (j + 1) := by simp [hys]; omega
            exact ⟨(ys.take (lv.length + j) ++ [-6], j + 1), ⟨hlen, by dsimp only; omega⟩, by dsimp only; omega, ⟨by dsimp only; rw [hlen]; simp [hys]; omega, wr_succ (by omega)⟩, rfl⟩
          · rw [wr_i64 (by omega) (by omega)]; omega
  · rename_i h
    exact h.elim

end Go.Proofs.Yteopmgddchnefaa.Sx
