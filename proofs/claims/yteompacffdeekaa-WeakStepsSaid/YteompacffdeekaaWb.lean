/- Contracts: the document's Same, May of chapter 18; lists of classes. -/
import Derived.Test.YteompacffdeekaaWa
namespace Go.Proofs.Yteompacffdeekaa.Sx
attribute [local irreducible] OkQ Ok OkP
set_option linter.unusedSimpArgs false
set_option linter.unusedVariables false
set_option maxRecDepth 8000

theorem sameSeq_iff {a b : tSeq.den} : sameSeq a b = true ↔ a = b := by
  obtain ⟨a1, a2, a3, a4, a5, ⟨⟩⟩ := a
  obtain ⟨b1, b2, b3, b4, b5, ⟨⟩⟩ := b
  simp [sameSeq]
theorem sameF {a b : tSeq.den} (h : a ≠ b) : false = sameSeq a b := by
  cases e : sameSeq a b
  · rfl
  · exact absurd (sameSeq_iff.1 e) h
theorem sameT {a b : tSeq.den} (h : a = b) : true = sameSeq a b := (sameSeq_iff.2 h).symm

theorem ref18Same_ok : ref18Same.Ok Try.prog := by
  refine con_q Try.func17 rfl (by decide) (fun x hx hp => run_ok (Cs := []) (stp := []) (inl := []) (unr := false) nil_ok 400 _ _ _ _ ?_) (by decide)
  obtain ⟨⟨a1, a2, a3, a4, a5, ⟨⟩⟩, ⟨b1, b2, b3, b4, b5, ⟨⟩⟩, u3⟩ := x
  simp (maxSteps := 4000000) only [go_sem, reduceIte, reduceCtorEq, Int.reduceEq, Nat.reduceEqDiff, Nat.reduceBEq, Int.reduceLE, Int.reduceLT, Int.reduceNeg, Nat.reduceAdd, Nat.reduceSub, Nat.reduceMul, Nat.reduceLeDiff, Int.reduceToNat, Int.reduceAdd, Int.reduceSub, Int.reduceMul, Try.f17, ref18Same]
  (repeat' (first | (apply And.intro) | (intro _) | (show staB _ _ = true; kernel_rfl) | (show dynB _ _ = true; kernel_rfl) | (show dynP _ _ _ = true; kernel_rfl)))
  · refine sameF fun e => ?_
    simp only [Prod.mk.injEq] at e
    obtain ⟨rfl, rfl, rfl, rfl, rfl, _⟩ := e
    simp_all
  · rename_i hlen
    obtain ⟨⟨⟨⟨rfl, rfl⟩, rfl⟩, h1⟩, h2⟩ := hlen
    have h1 : a1.length = b1.length := by omega
    have h2 : a2.length = b2.length := by omega
    have hz1 : a1.length * 8 ≤ 140737488355328 := hx.1.1.1
    have hz2 : a2.length * 1 ≤ 140737488355328 := hx.1.2.1.1
    clear hp hx
    refine OkQ.loop (α := Nat) [0, 1, 4, 5, 6, 7, 8, 9, 10, 11, 12, 13, 14, 15, 16, 17, 18, 19, 20, 21, 22, 23, 24, 25, 26, 27, 28, 29, 30, 31, 32, 33, 34, 35, 36, 37, 38, 39, 40, 41, 42, 43, 44, 45, 46, 47, 48, 49, 50, 51, 52, 53, 54, 55, 56, 57, 58, 59, 60, 61, 62, 63, 64, 65, 66, 67, 68, 69, 70, 71, 72, 73, 74, 75, 76, 77, 78, 79] (fun i => [(5, .s (.int .i64 (i : Int)))]) (fun _ => []) (fun i => i ≤ a1.length ∧ a1.take i = b1.take i) (fun i => a1.length - i) 0 ⟨by simp, by simp⟩ ?_ fun i hi => ?_
    · simp (maxSteps := 4000000) only [go_sem, reduceIte, reduceCtorEq, Int.reduceEq, Nat.reduceEqDiff, Nat.reduceBEq, Int.reduceLE, Int.reduceLT, Int.reduceNeg, Nat.reduceAdd, Nat.reduceSub, Nat.reduceMul, Nat.reduceLeDiff, Int.reduceToNat, Int.reduceAdd, Int.reduceSub, Int.reduceMul]
      simp
    · refine run_ok (Cs := []) (stp := []) (inl := []) (unr := false) nil_ok 400 _ _ _ _ ?_
      simp (maxSteps := 4000000) only [go_sem, reduceIte, reduceCtorEq, Int.reduceEq, Nat.reduceEqDiff, Nat.reduceBEq, Int.reduceLE, Int.reduceLT, Int.reduceNeg, Nat.reduceAdd, Nat.reduceSub, Nat.reduceMul, Nat.reduceLeDiff, Int.reduceToNat, Int.reduceAdd, Int.reduceSub, Int.reduceMul]
      obtain ⟨hi, ht⟩ := hi
      (repeat' (first | (apply And.intro) | (intro _) | (show staB _ _ = true; kernel_rfl) | (show dynB _ _ = true; kernel_rfl) | (show dynP _ _ _ = true; kernel_rfl)))
      all_goals try omega
      · rename_i hlt hne
        refine sameF fun e => ne_at 0 hne ?_
        simp only [Prod.mk.injEq] at e
        exact e.1
      · rename_i hlt he
        exact ⟨i + 1, ⟨by omega, eq_next 0 ht (by omega) (by omega) he⟩, by omega, wr_succ (by omega)⟩
      · rename_i hge
        obtain rfl := eq_end ht (by omega) (by omega)
        refine OkQ.loop (α := Nat) [0, 1, 4, 5, 6, 7, 8, 9, 10, 11, 12, 13, 14, 15, 16, 17, 18, 19, 20, 21, 22, 23, 24, 25, 26, 27, 28, 29, 30, 31, 32, 33, 34, 35, 36, 37, 38, 39, 40, 41, 42, 43, 44, 45, 46, 47, 48, 49, 50, 51, 52, 53, 54, 55, 56, 57, 58, 59, 60, 61, 62, 63, 64, 65, 66, 67, 68, 69, 70, 71, 72, 73, 74, 75, 76, 77, 78, 79] (fun i => [(6, .s (.int .i64 (i : Int)))]) (fun _ => []) (fun i => i ≤ a2.length ∧ a2.take i = b2.take i) (fun i => a2.length - i) 0 ⟨by simp, by simp⟩ ?_ fun i hi => ?_
        · simp (maxSteps := 4000000) only [go_sem, reduceIte, reduceCtorEq, Int.reduceEq, Nat.reduceEqDiff, Nat.reduceBEq, Int.reduceLE, Int.reduceLT, Int.reduceNeg, Nat.reduceAdd, Nat.reduceSub, Nat.reduceMul, Nat.reduceLeDiff, Int.reduceToNat, Int.reduceAdd, Int.reduceSub, Int.reduceMul]
          simp
        · refine run_ok (Cs := []) (stp := []) (inl := []) (unr := false) nil_ok 400 _ _ _ _ ?_
          simp (maxSteps := 4000000) only [go_sem, reduceIte, reduceCtorEq, Int.reduceEq, Nat.reduceEqDiff, Nat.reduceBEq, Int.reduceLE, Int.reduceLT, Int.reduceNeg, Nat.reduceAdd, Nat.reduceSub, Nat.reduceMul, Nat.reduceLeDiff, Int.reduceToNat, Int.reduceAdd, Int.reduceSub, Int.reduceMul]
          obtain ⟨hi, ht⟩ := hi
          (repeat' (first | (apply And.intro) | (intro _) | (show staB _ _ = true; kernel_rfl) | (show dynB _ _ = true; kernel_rfl) | (show dynP _ _ _ = true; kernel_rfl)))
          all_goals try omega
          · rename_i hlt hne
            refine sameF fun e => ne_at 0 hne ?_
            simp only [Prod.mk.injEq] at e
            exact e.2.1
          · rename_i hlt he
            exact ⟨i + 1, ⟨by omega, eq_next 0 ht (by omega) (by omega) he⟩, by omega, wr_succ (by omega)⟩
          · rename_i hge
            obtain rfl := eq_end ht (by omega) (by omega)
            exact sameT rfl

theorem sameClasses_ok : sameClasses.Ok Try.prog := by
  refine con_q Try.func23 rfl (by decide) (fun x hx hp => run_ok (Cs := []) (stp := []) (inl := []) (unr := false) nil_ok 400 _ _ _ _ ?_) (by decide)
  obtain ⟨(xs : List Int), (ys : List Int), ⟨⟩⟩ := x
  have hz : xs.length * 1 ≤ 140737488355328 := hx.1.1
  clear hx hp
  simp (maxSteps := 4000000) only [go_sem, reduceIte, reduceCtorEq, Int.reduceEq, Nat.reduceEqDiff, Nat.reduceBEq, Int.reduceLE, Int.reduceLT, Int.reduceNeg, Nat.reduceAdd, Nat.reduceSub, Nat.reduceMul, Nat.reduceLeDiff, Int.reduceToNat, Int.reduceAdd, Int.reduceSub, Int.reduceMul, Try.f23, sameClasses, sameList]
  refine ⟨fun h => ?_, fun h => ?_⟩
  · exact decF (ne_len (by omega))
  · refine OkQ.loop (α := Nat) [2, 3, 4, 5, 6, 7, 8, 9, 10, 11, 12, 13, 14, 15, 16, 17, 18, 19, 20, 21, 22, 23, 24, 25] (fun i => [(5, .s (.int .i64 (i : Int)))]) (fun _ => []) (fun i => i ≤ xs.length ∧ xs.take i = ys.take i) (fun i => xs.length - i) 0 ⟨by simp, by simp⟩ ?_ fun i hi => ?_
    · simp (maxSteps := 4000000) only [go_sem, reduceIte, reduceCtorEq, Int.reduceEq, Nat.reduceEqDiff, Nat.reduceBEq, Int.reduceLE, Int.reduceLT, Int.reduceNeg, Nat.reduceAdd, Nat.reduceSub, Nat.reduceMul, Nat.reduceLeDiff, Int.reduceToNat, Int.reduceAdd, Int.reduceSub, Int.reduceMul]
      simp
    · refine run_ok (Cs := []) (stp := []) (inl := []) (unr := false) nil_ok 400 _ _ _ _ ?_
      simp (maxSteps := 4000000) only [go_sem, reduceIte, reduceCtorEq, Int.reduceEq, Nat.reduceEqDiff, Nat.reduceBEq, Int.reduceLE, Int.reduceLT, Int.reduceNeg, Nat.reduceAdd, Nat.reduceSub, Nat.reduceMul, Nat.reduceLeDiff, Int.reduceToNat, Int.reduceAdd, Int.reduceSub, Int.reduceMul]
      obtain ⟨hi, ht⟩ := hi
      (repeat' (first | (apply And.intro) | (intro _) | (show staB _ _ = true; kernel_rfl) | (show dynB _ _ = true; kernel_rfl) | (show dynP _ _ _ = true; kernel_rfl)))
      all_goals try omega
      · rename_i hlt hne
        exact decF (ne_at 0 hne)
      · rename_i hlt he
        exact ⟨i + 1, ⟨by omega, eq_next 0 ht (by omega) (by omega) he⟩, by omega, wr_succ (by omega)⟩
      · exact decT (eq_end ht (by omega) (by omega))

theorem okF {s : tSeq.den} (h : ¬ OkSeq s) : false = okB s := (decide_eq_false h).symm
theorem okT {s : tSeq.den} (h : OkSeq s) : true = okB s := (decide_eq_true h).symm

theorem ref18May_ok : ref18May.Ok Try.prog := by
  refine con_q Try.func16 rfl (by decide) (fun x hx hp => run_ok (Cs := [ref18Edge, ref18Removed]) (stp := []) (inl := []) (unr := false) (cons_ok ref18Edge_ok (cons_ok ref18Removed_ok nil_ok)) 400 _ _ _ _ ?_) (by decide)
  obtain ⟨⟨(ps : List Int), (cs : List Int), (l : Int), (so : Int), (eo : Int), ⟨⟩⟩, ⟨⟩⟩ := x
  simp (maxSteps := 4000000) only [go_sem, reduceIte, reduceCtorEq, Int.reduceEq, Nat.reduceEqDiff, Nat.reduceBEq, Int.reduceLE, Int.reduceLT, Int.reduceNeg, Nat.reduceAdd, Nat.reduceSub, Nat.reduceMul, Nat.reduceLeDiff, Int.reduceToNat, Int.reduceAdd, Int.reduceSub, Int.reduceMul, Try.f16, ref18May, ref18Edge, ref18Removed]
  have hz1 : ps.length * 8 ≤ 140737488355328 := hx.1.1.1
  have hz2 : cs.length * 1 ≤ 140737488355328 := hx.1.2.1.1
  clear hp hx
  refine ⟨fun h => okF fun g => ?_, fun h => ?_⟩
  · obtain ⟨g1, g2, g3, g4, g5, g6, _⟩ := g
    dsimp only at g1 g2 g3 g4 g5 g6
    rw [edgeBf, edgeBf] at h
    omega
  · rw [edgeBt, edgeBt] at h
    have hok : ∀ f : ∀ i, i < ps.length → Fine ps cs i, OkS ps cs l so eo := fun f => ⟨by omega, by omega, by omega, by omega, by omega, by omega, f⟩
    refine OkQ.loop (α := Nat) [0, 2, 3, 4, 5, 6, 7, 8, 9, 10, 11, 12, 13, 14, 15, 16, 17, 18, 19, 20, 21, 22, 23, 24, 25, 26, 27, 28, 29, 30, 31, 32, 33, 34, 35, 36, 37, 38, 39, 40, 41, 42, 43, 44, 45, 46, 47, 48, 49, 50, 51, 52, 53, 54, 55, 56, 57, 58, 59, 60, 61, 62, 63, 64, 65, 66, 67, 68, 69, 70, 71, 72, 73, 74, 75, 76, 77, 78, 79, 80, 81, 82, 83, 84, 85, 86, 87, 88, 89, 90, 91, 92, 93] (fun i => [(3, .s (.int .i64 (i : Int)))]) (fun _ => []) (fun i => i ≤ ps.length ∧ ∀ j, j < i → Fine ps cs j) (fun i => ps.length - i) 0 ⟨by simp, by simp⟩ ?_ fun i hi => ?_
    · simp (maxSteps := 4000000) only [go_sem, reduceIte, reduceCtorEq, Int.reduceEq, Nat.reduceEqDiff, Nat.reduceBEq, Int.reduceLE, Int.reduceLT, Int.reduceNeg, Nat.reduceAdd, Nat.reduceSub, Nat.reduceMul, Nat.reduceLeDiff, Int.reduceToNat, Int.reduceAdd, Int.reduceSub, Int.reduceMul, ref18Edge, ref18Removed]
      simp
    · obtain ⟨hi, ht⟩ := hi
      rcases Nat.eq_zero_or_pos i with e0 | e0
      · subst e0
        refine run_ok (Cs := [ref18Edge, ref18Removed]) (stp := []) (inl := []) (unr := false) (cons_ok ref18Edge_ok (cons_ok ref18Removed_ok nil_ok)) 400 _ _ _ _ ?_
        simp (maxSteps := 4000000) only [go_sem, reduceIte, reduceCtorEq, Int.reduceEq, Nat.reduceEqDiff, Nat.reduceBEq, Int.reduceLE, Int.reduceLT, Int.reduceNeg, Nat.reduceAdd, Nat.reduceSub, Nat.reduceMul, Nat.reduceLeDiff, Int.reduceToNat, Int.reduceAdd, Int.reduceSub, Int.reduceMul, Int.natCast_zero, Int.lt_irrefl, ref18Edge, ref18Removed]
        (repeat' (first | (apply And.intro) | (intro _) | (show staB _ _ = true; kernel_rfl) | (show dynB _ _ = true; kernel_rfl) | (show dynP _ _ _ = true; kernel_rfl)))
        all_goals try omega
        all_goals try contradiction
        · rename_i hg
          refine okF fun g => ?_
          obtain ⟨g1, g2, g3, g4⟩ := g.2.2.2.2.2.2 0 (by dsimp only; omega)
          dsimp only at g1 g2 g3 g4
          rw [g4] at hg
          simp only [ahd, Bool.false_eq_true, or_false] at hg g1
          omega
        · rename_i hg
          obtain ⟨⟨⟨g0, g1⟩, g2⟩, g3⟩ := hg
          refine ⟨1, ⟨by omega, fun j hj => ?_⟩, by omega, by rw [wr_i64 (by omega) (by omega)]; simp⟩
          obtain rfl : j = 0 := by omega
          exact ⟨by show (-1 : Int) < _; omega, by omega, by omega, g3⟩
      · have hw : wr .i64 ((i : Int) - 1) = ((i - 1 : Nat) : Int) := by rw [wr_i64 (by omega) (by omega)]; omega
        have hpos : ((0 : Int) < (i : Int)) = True := by simp; omega
        refine run_ok (Cs := [ref18Edge, ref18Removed]) (stp := []) (inl := []) (unr := false) (cons_ok ref18Edge_ok (cons_ok ref18Removed_ok nil_ok)) 400 _ _ _ _ ?_
        simp (maxSteps := 4000000) only [go_sem, reduceIte, reduceCtorEq, Int.reduceEq, Nat.reduceEqDiff, Nat.reduceBEq, Int.reduceLE, Int.reduceLT, Int.reduceNeg, Nat.reduceAdd, Nat.reduceSub, Nat.reduceMul, Nat.reduceLeDiff, Int.reduceToNat, Int.reduceAdd, Int.reduceSub, Int.reduceMul, hw, hpos, ref18Edge, ref18Removed]
        (repeat' (first | (apply And.intro) | (intro _) | (show staB _ _ = true; kernel_rfl) | (show dynB _ _ = true; kernel_rfl) | (show dynP _ _ _ = true; kernel_rfl)))
        all_goals try omega
        · rename_i hg
          refine okF fun g => ?_
          obtain ⟨g1, g2, g3, g4⟩ := g.2.2.2.2.2.2 i (by dsimp only; omega)
          have g5 := (ahd_lt (ps := ps) (cs := cs) (i := i) fun j hj => g.2.2.2.2.2.2 j (by dsimp only; omega)).1
          dsimp only at g1 g2 g3 g4
          rw [g4] at hg
          simp only [Bool.false_eq_true, or_false] at hg
          rw [ahd_pos e0] at g1 g5
          omega
        · rename_i hg
          obtain ⟨⟨⟨⟨g0, g5⟩, g1⟩, g2⟩, g3⟩ := hg
          refine ⟨i + 1, ⟨by omega, fun j hj => ?_⟩, by omega, wr_succ (by omega)⟩
          by_cases e : j < i
          · exact ht j e
          · obtain rfl : j = i := by omega
            refine ⟨?_, by omega, by omega, g3⟩
            rw [ahd_pos e0]
            omega
        · exact okT (hok fun j hj => ht j (by omega))

end Go.Proofs.Yteompacffdeekaa.Sx
