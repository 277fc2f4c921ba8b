/- The laws WeakFront and WeakNear. -/
import Derived.Test.YtkpfgfomppidpaaWf
import Derived.Test.YtkpfgfomppidpaaSx31
import Derived.Test.YtkpfgfomppidpaaLz
import Derived.Test.YtkpfgfomppidpaaSx28
namespace Go.Proofs.Ytkpfgfomppidpaa.Sx
attribute [local irreducible] OkQ Ok OkP
set_option linter.unusedSimpArgs false
set_option linter.unusedVariables false
theorem bIWj31 : bodyI Try.prog 31 = bodyF Try.f31 := by kernel_rfl
set_option maxRecDepth 8000

def lastP (ps : List Int) : Int := if ps.length = 0 then 0 else wr .i64 (ps.getD (ps.length - 1) 0 + 1)
/-- So many places more. -/
def extP (ps : List Int) : Nat → List Int
  | 0 => ps
  | n + 1 => extP ps n ++ [lastP (extP ps n)]
theorem extP_len {ps : List Int} : ∀ {n : Nat}, (extP ps n).length = ps.length + n
  | 0 => rfl
  | n + 1 => by rw [extP, List.length_append, extP_len]; simp; omega
def moreV (s : tSeq.den) (more : List Int) : tSeq.den := (extP s.1 more.length, s.2.1 ++ more, s.2.2.1, s.2.2.2.1, s.2.2.2.2.1, ())
def lawWith18 : Con := ⟨22, [(true, tSeq), (false, tClasses)], [(true, tSeq)],
  fun x => (x.1.1 : List Int).length ≤ 1048576 ∧ (x.1.2.1 : List Int).length ≤ 1048576 ∧ (x.2.1 : List Int).length ≤ 1048576, fun x => (moreV x.1 x.2.1, ()), false⟩

theorem lawWith18_ok : lawWith18.Ok Try.prog := by
  refine con_q Try.func22 rfl (by decide) (fun x hx hp => run_ok (Cs := []) (stp := [2]) (inl := []) (unr := false) nil_ok 400 _ _ _ _ ?_) (by decide)
  obtain ⟨⟨(ps : List Int), (cs : List Int), (l : Int), (so : Int), (eo : Int), ⟨⟩⟩, (m : List Int), ⟨⟩⟩ := x
  have hz1 : ps.length ≤ 1048576 := hp.1
  have hz2 : cs.length ≤ 1048576 := hp.2.1
  have hz3 : m.length ≤ 1048576 := hp.2.2
  clear hx hp
  simp (maxSteps := 4000000) only [go_sem, reduceIte, reduceCtorEq, Int.reduceEq, Nat.reduceEqDiff, Nat.reduceBEq, Int.reduceLE, Int.reduceLT, Int.reduceNeg, Nat.reduceAdd, Nat.reduceSub, Nat.reduceMul, Nat.reduceLeDiff, Int.reduceToNat, Int.reduceAdd, Int.reduceSub, Int.reduceMul, Try.f22, lawWith18, moreV]
  refine OkQ.cutStart (by kernel_rfl) ?_
  refine OkP.draw (Cs := []) nil_ok 7 (by kernel_rfl) ⟨rfl, rfl⟩ (by kernel_rfl) (by kernel_rfl) ?_
  simp (maxSteps := 4000000) only [go_sem, reduceIte, reduceCtorEq, Int.reduceEq, Nat.reduceEqDiff, Nat.reduceBEq, Int.reduceLE, Int.reduceLT, Int.reduceNeg, Nat.reduceAdd, Nat.reduceSub, Nat.reduceMul, Nat.reduceLeDiff, Int.reduceToNat, Int.reduceAdd, Int.reduceSub, Int.reduceMul]
  (repeat' (first | (apply And.intro) | (intro _) | (show staB _ _ = true; kernel_rfl) | (show dynB _ _ = true; kernel_rfl) | (show dynP _ _ _ = true; kernel_rfl)))
  all_goals try omega
  refine OkP.call [31] (by kernel_rfl) (by kernel_rfl) ?_
  simp (maxSteps := 4000000) only [go_sem, reduceIte, reduceCtorEq, Int.reduceEq, Nat.reduceEqDiff, Nat.reduceBEq, Int.reduceLE, Int.reduceLT, Int.reduceNeg, Nat.reduceAdd, Nat.reduceSub, Nat.reduceMul, Nat.reduceLeDiff, Int.reduceToNat, Int.reduceAdd, Int.reduceSub, Int.reduceMul, callP, bIWj31, Try.f31]
  (repeat' (first | (apply And.intro) | (intro _) | (show staB _ _ = true; kernel_rfl) | (show dynB _ _ = true; kernel_rfl) | (show dynP _ _ _ = true; kernel_rfl)))
  all_goals try omega
  refine run_ok (Cs := []) (stp := []) (inl := []) (unr := false) nil_ok 400 _ _ _ _ ?_
  simp (maxSteps := 4000000) only [go_sem, reduceIte, reduceCtorEq, Int.reduceEq, Nat.reduceEqDiff, Nat.reduceBEq, Int.reduceLE, Int.reduceLT, Int.reduceNeg, Nat.reduceAdd, Nat.reduceSub, Nat.reduceMul, Nat.reduceLeDiff, Int.reduceToNat, Int.reduceAdd, Int.reduceSub, Int.reduceMul, RetI]
  (repeat' (first | (apply And.intro) | (intro _) | (show staB _ _ = true; kernel_rfl) | (show dynB _ _ = true; kernel_rfl) | (show dynP _ _ _ = true; kernel_rfl)))
  all_goals try omega
  refine OkP.draw (Cs := []) nil_ok 9 (by kernel_rfl) ⟨rfl, rfl⟩ (by kernel_rfl) (by kernel_rfl) ?_
  simp (maxSteps := 4000000) only [go_sem, reduceIte, reduceCtorEq, Int.reduceEq, Nat.reduceEqDiff, Nat.reduceBEq, Int.reduceLE, Int.reduceLT, Int.reduceNeg, Nat.reduceAdd, Nat.reduceSub, Nat.reduceMul, Nat.reduceLeDiff, Int.reduceToNat, Int.reduceAdd, Int.reduceSub, Int.reduceMul]
  (repeat' (first | (apply And.intro) | (intro _) | (show staB _ _ = true; kernel_rfl) | (show dynB _ _ = true; kernel_rfl) | (show dynP _ _ _ = true; kernel_rfl)))
  refine OkP.stop rfl ?_
  refine run_ok (Cs := []) (stp := []) (inl := []) (unr := false) nil_ok 400 _ _ _ _ ?_
  simp (maxSteps := 4000000) only [go_sem, reduceIte, reduceCtorEq, Int.reduceEq, Nat.reduceEqDiff, Nat.reduceBEq, Int.reduceLE, Int.reduceLT, Int.reduceNeg, Nat.reduceAdd, Nat.reduceSub, Nat.reduceMul, Nat.reduceLeDiff, Int.reduceToNat, Int.reduceAdd, Int.reduceSub, Int.reduceMul]
  refine OkQ.reset [7, 8, 9, 10, 11, 12, 13, 14] [] [(6, .dead), (7, .dead)] 9 ?_ ?_
  · simp (maxSteps := 4000000) only [go_sem, reduceIte, reduceCtorEq, Int.reduceEq, Nat.reduceEqDiff, Nat.reduceBEq, Int.reduceLE, Int.reduceLT, Int.reduceNeg, Nat.reduceAdd, Nat.reduceSub, Nat.reduceMul, Nat.reduceLeDiff, Int.reduceToNat, Int.reduceAdd, Int.reduceSub, Int.reduceMul]
  have hlen : ∀ i, (extP ps i).length = ps.length + i := fun i => extP_len
  refine OkQ.loop (α := Nat) [0, 1, 2, 3, 6, 7, 8, 9, 10, 11, 12, 13, 14, 15, 17, 18, 19, 20, 21, 22, 23, 24, 25, 26, 27, 28, 29, 30, 31, 32, 33, 34, 35, 36, 37, 38, 39] (fun i => [(17, .s (.int .i64 (i : Int)))]) (fun i => [(8, .arr false 8 (.int .i64) (extP ps i)), (2, .box [.sub 8 0 (ps.length + i), .sub 5 0 (cs.length + m.length), .int .i8 l, .int .u8 so, .int .u8 eo])]) (fun i => i ≤ m.length) (fun i => m.length - i) 0 (Nat.zero_le _) ?_ fun i hi => ?_
  · simp (maxSteps := 4000000) only [go_sem, reduceIte, reduceCtorEq, Int.reduceEq, Nat.reduceEqDiff, Nat.reduceBEq, Int.reduceLE, Int.reduceLT, Int.reduceNeg, Nat.reduceAdd, Nat.reduceSub, Nat.reduceMul, Nat.reduceLeDiff, Int.reduceToNat, Int.reduceAdd, Int.reduceSub, Int.reduceMul]
    simp [extP]
  have htk : (extP ps i).take (ps.length + i) = extP ps i := List.take_of_length_le (by rw [hlen]; exact Nat.le_refl _)
  have hcm : List.take (cs.length + m.length) (cs ++ m) = cs ++ m := List.take_of_length_le (by simp)
  have hnx := wr_succ (n := i) (by omega)
  have hext : extP ps (i + 1) = extP ps i ++ [lastP (extP ps i)] := rfl
  by_cases h0 : ps.length + i = 0
  · have e1 : ((0 : Int) < ((ps.length + i : Nat) : Int)) = False := eq_false (by omega)
    have e2 : lastP (extP ps i) = 0 := if_pos (by rw [hlen]; exact h0)
    rw [e2] at hext
    refine run_ok (Cs := []) (stp := []) (inl := []) (unr := false) nil_ok 400 _ _ _ _ ?_
    simp (maxSteps := 4000000) only [go_sem, reduceIte, reduceCtorEq, Int.reduceEq, Nat.reduceEqDiff, Nat.reduceBEq, Int.reduceLE, Int.reduceLT, Int.reduceNeg, Nat.reduceAdd, Nat.reduceSub, Nat.reduceMul, Nat.reduceLeDiff, Int.reduceToNat, Int.reduceAdd, Int.reduceSub, Int.reduceMul, hlen, htk, hcm, e1, hnx]
    (repeat' (first | (apply And.intro) | (intro _) | (show staB _ _ = true; kernel_rfl) | (show dynB _ _ = true; kernel_rfl) | (show dynP _ _ _ = true; kernel_rfl)))
    all_goals try omega
    · exact ⟨i + 1, by omega, by omega, rfl, by omega, hext.symm⟩
    · obtain rfl : i = m.length := by omega
      rfl
  · have e1 : ((0 : Int) < ((ps.length + i : Nat) : Int)) = True := eq_true (by omega)
    have e2 : lastP (extP ps i) = wr .i64 ((extP ps i).getD (ps.length + i - 1) 0 + 1) := by rw [lastP, if_neg (by rw [hlen]; exact h0), hlen]
    have e3 : wr .i64 (((ps.length + i : Nat) : Int) - 1) = ((ps.length + i - 1 : Nat) : Int) := by rw [wr_i64 (by omega) (by omega)]; omega
    rw [e2] at hext
    refine run_ok (Cs := []) (stp := []) (inl := []) (unr := false) nil_ok 400 _ _ _ _ ?_
    simp (maxSteps := 4000000) only [go_sem, reduceIte, reduceCtorEq, Int.reduceEq, Nat.reduceEqDiff, Nat.reduceBEq, Int.reduceLE, Int.reduceLT, Int.reduceNeg, Nat.reduceAdd, Nat.reduceSub, Nat.reduceMul, Nat.reduceLeDiff, Int.reduceToNat, Int.reduceAdd, Int.reduceSub, Int.reduceMul, hlen, htk, hcm, e1, e3, hnx]
    (repeat' (first | (apply And.intro) | (intro _) | (show staB _ _ = true; kernel_rfl) | (show dynB _ _ = true; kernel_rfl) | (show dynP _ _ _ = true; kernel_rfl)))
    all_goals try omega
    · exact ⟨i + 1, by omega, by omega, rfl, by omega, hext.symm⟩
    · obtain rfl : i = m.length := by omega
      rfl

theorem sum_ones : ∀ xs : List Int, (xs.map fun _ => 1).sum = xs.length
  | [] => rfl
  | x :: xs => by rw [List.map_cons, List.sum_cons, sum_ones xs, List.length_cons]; omega

theorem take_two {α : Type} (a b : List α) : (a ++ b).take (a.length + b.length) = a ++ b := List.take_of_length_le (by simp)

def lawWeakFront : Con := ⟨7, [(true, tSeq), (false, tClasses)], [(false, .bool)], fun x => (tyL [(true, tSeq), (false, tClasses)]).small x ∧ (tyL [(true, tSeq), (false, tClasses)]).bulk x ≤ 1048576, fun _ => (true, ()), false⟩

set_option maxHeartbeats 2000000 in
theorem lawWeakFront_ok : lawWeakFront.Ok Try.prog := by
  refine con_q Try.func7 rfl (by decide) (fun x hx hp => run_ok (Cs := [awake18, weakResolve, lawWith18, sameClasses]) (stp := []) (inl := []) (unr := false) (cons_ok awake18_ok (cons_ok weakResolve_ok (cons_ok lawWith18_ok (cons_ok sameClasses_ok nil_ok)))) 400 _ _ _ _ ?_) (by decide)
  obtain ⟨⟨(ps : List Int), (cs : List Int), (l : Int), (so : Int), (eo : Int), ⟨⟩⟩, (m : List Int), ⟨⟩⟩ := x
  have hb := hp.2
  simp only [tyL, Ty.bulk, sum_ones] at hb
  clear hx hp
  by_cases h0 : cs.length = 0
  · have e0 : ((cs.length : Int) = 0) = True := eq_true (by omega)
    simp (maxSteps := 4000000) only [go_sem, reduceIte, reduceCtorEq, Int.reduceEq, Nat.reduceEqDiff, Nat.reduceBEq, Int.reduceLE, Int.reduceLT, Int.reduceNeg, Nat.reduceAdd, Nat.reduceSub, Nat.reduceMul, Nat.reduceLeDiff, Int.reduceToNat, Int.reduceAdd, Int.reduceSub, Int.reduceMul, Try.f7, lawWeakFront, e0, awake18, weakResolve, lawWith18, sameClasses]
  have e0 : ((cs.length : Int) = 0) = False := eq_false (by omega)
  have e1 : wr .i64 ((cs.length : Int) - 1) = ((cs.length - 1 : Nat) : Int) := by rw [wr_i64 (by omega) (by omega)]; omega
  have e2 : ((cs.length - 1 : Nat) : Int) < (cs.length : Int) := by omega
  have e3 : (0 : Int) ≤ ((cs.length - 1 : Nat) : Int) := by omega
  by_cases hc : cs.getD (cs.length - 1) 0 = 1 ∨ cs.getD (cs.length - 1) 0 = 2 ∨ cs.getD (cs.length - 1) 0 = 3
  · by_cases hok : OkS ps cs l so eo
    · have h1 : resolveE (ps, cs, l, so, eo, ()) = 0 := if_pos hok
      have h2 : resolveV (ps, cs, l, so, eo, ()) = (ps, weakC so cs, l, so, eo, ()) := if_pos hok
      by_cases hok2 : OkS (extP ps m.length) (cs ++ m) l so eo
      · have h3 : resolveE (extP ps m.length, cs ++ m, l, so, eo, ()) = 0 := if_pos hok2
        have h4 : resolveV (extP ps m.length, cs ++ m, l, so, eo, ()) = (extP ps m.length, weakC so (cs ++ m), l, so, eo, ()) := if_pos hok2
        have hl1 : (weakC so cs).length = cs.length := weakC_len
        have hl2 : (weakC so (cs ++ m)).length = cs.length + m.length := by rw [weakC_len, List.length_append]
        have htk : (weakC so cs).take cs.length = weakC so cs := List.take_of_length_le (by omega)
        have hsame : sameList (weakC so cs) ((weakC so (cs ++ m)).take cs.length) = true := by
          refine decide_eq_true ?_
          have hs := weak_front (sos := so) (l := cs) (m := cs ++ m) (n := cs.length - 1) ⟨by omega, by rw [List.length_append]; omega, fun i hi => by simp [List.getD_eq_getElem?_getD, List.getElem?_append_left (show i < cs.length by omega)]⟩ hc
          refine List.ext_getElem (by rw [List.length_take, hl1, hl2]; omega) fun i g1 g2 => ?_
          rw [List.getElem_take, ← getD_at 0, ← getD_at 0]
          exact hs.2.2 i (by omega)
        clear hok hok2
        generalize weakC so cs = W at *
        generalize weakC so (cs ++ m) = W2 at *
        simp (maxSteps := 4000000) only [go_sem, reduceIte, reduceCtorEq, Int.reduceEq, Nat.reduceEqDiff, Nat.reduceBEq, Int.reduceLE, Int.reduceLT, Int.reduceNeg, Nat.reduceAdd, Nat.reduceSub, Nat.reduceMul, Nat.reduceLeDiff, Int.reduceToNat, Int.reduceAdd, Int.reduceSub, Int.reduceMul, Try.f7, lawWeakFront, moreV, e0, e1, e2, e3, h1, h2, h3, h4, hl1, hl2, htk, take_two, hsame, awake18, weakResolve, lawWith18, sameClasses]
        (repeat' (first | (apply And.intro) | (intro _) | (show staB _ _ = true; kernel_rfl) | (show dynB _ _ = true; kernel_rfl) | (show dynP _ _ _ = true; kernel_rfl)))
        all_goals first | omega | exact hsame | fail
      · have h3 : resolveE (extP ps m.length, cs ++ m, l, so, eo, ()) = 170 := if_neg hok2
        simp (maxSteps := 4000000) only [go_sem, reduceIte, reduceCtorEq, Int.reduceEq, Nat.reduceEqDiff, Nat.reduceBEq, Int.reduceLE, Int.reduceLT, Int.reduceNeg, Nat.reduceAdd, Nat.reduceSub, Nat.reduceMul, Nat.reduceLeDiff, Int.reduceToNat, Int.reduceAdd, Int.reduceSub, Int.reduceMul, Try.f7, lawWeakFront, moreV, e0, e1, e2, e3, h1, h2, h3, take_two, awake18, weakResolve, lawWith18, sameClasses]
        (repeat' (first | (apply And.intro) | (intro _) | (show staB _ _ = true; kernel_rfl) | (show dynB _ _ = true; kernel_rfl) | (show dynP _ _ _ = true; kernel_rfl)))
        all_goals first | omega | fail
    · have h1 : resolveE (ps, cs, l, so, eo, ()) = 170 := if_neg hok
      simp (maxSteps := 4000000) only [go_sem, reduceIte, reduceCtorEq, Int.reduceEq, Nat.reduceEqDiff, Nat.reduceBEq, Int.reduceLE, Int.reduceLT, Int.reduceNeg, Nat.reduceAdd, Nat.reduceSub, Nat.reduceMul, Nat.reduceLeDiff, Int.reduceToNat, Int.reduceAdd, Int.reduceSub, Int.reduceMul, Try.f7, lawWeakFront, moreV, e0, e1, e2, e3, h1, awake18, weakResolve, lawWith18, sameClasses]
      (repeat' (first | (apply And.intro) | (intro _) | (show staB _ _ = true; kernel_rfl) | (show dynB _ _ = true; kernel_rfl) | (show dynP _ _ _ = true; kernel_rfl)))
      all_goals first | omega | fail
  · simp (maxSteps := 4000000) only [go_sem, reduceIte, reduceCtorEq, Int.reduceEq, Nat.reduceEqDiff, Nat.reduceBEq, Int.reduceLE, Int.reduceLT, Int.reduceNeg, Nat.reduceAdd, Nat.reduceSub, Nat.reduceMul, Nat.reduceLeDiff, Int.reduceToNat, Int.reduceAdd, Int.reduceSub, Int.reduceMul, Try.f7, lawWeakFront, moreV, e0, e1, e2, e3, awake18, weakResolve, lawWith18, sameClasses]
    generalize cs.getD (cs.length - 1) 0 = c at *
    (repeat' (first | (apply And.intro) | (intro _) | (show staB _ _ = true; kernel_rfl) | (show dynB _ _ = true; kernel_rfl) | (show dynP _ _ _ = true; kernel_rfl)))
    all_goals first | omega | fail

end Go.Proofs.Ytkpfgfomppidpaa.Sx
