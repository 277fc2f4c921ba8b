/- The law RestApart, a settled one at the place, part 3. -/
import Derived.Test.YteopmgddchnefaaCq
namespace Go.Proofs.Yteopmgddchnefaa.Sx
attribute [local irreducible] OkQ Ok
set_option linter.unusedSimpArgs false
set_option linter.unusedVariables false
set_option maxRecDepth 8000

set_option maxHeartbeats 4000000 in
theorem lawApart3_ok : lawApart3.Ok Try.prog := by
  refine con_q Try.func6 rfl (by decide) (fun x hx hp => run_ok (Cs := [restResolve, restSide, awake20, lawPart]) (stp := []) (inl := []) (unr := false) (cons_ok restResolve_ok (cons_ok restSide_ok (cons_ok awake20_ok (cons_ok lawPart_ok nil_ok)))) 400 _ _ _ _ ?_) (by decide)
  obtain ⟨⟨(ps : List Int), (cs : List Int), (l : Int), (so : Int), (eo : Int), ⟨⟩⟩, (n : Int), ⟨⟩⟩ := x
  have hz1 : ps.length * 8 ≤ 140737488351232 := hp.1.1.1.1
  have hz2 : cs.length * 1 ≤ 140737488351232 := hp.1.1.2.1.1
  have hR : RsOk ps cs l so eo := hp.2.1
  have hs : settB (cs.getD (apAt cs n) 0) = true := hp.2.2.1
  have hc : ¬ n.tmod (cs.length : Int) < 0 := hp.2.2.2
  clear hx hp
  have h1 := rslV_ok hR
  have h2 := rslE_ok hR
  have hps : ps.length = cs.length := hR.1.2.1
  have hne : ps.length ≠ 0 := hR.1.1
  have hat := apAt_lt (cs := cs) (n := n) (by omega)
  have hnz : ((cs.length : Int) = 0) = False := eq_false (by omega)
  have hun : (n.tmod (cs.length : Int)).natAbs = apAt cs n := rfl
  generalize hAt : apAt cs n = at_ at *
  have hw3 : n.tmod (cs.length : Int) = (at_ : Int) := by omega
  clear hun
  have hsd : sideV (cs.getD at_ 0) = 1 ∨ sideV (cs.getD at_ 0) = 2 := by
    rw [settBt] at hs
    unfold sideV
    (repeat' split) <;> omega
  generalize hsv : sideV (cs.getD at_ 0) = sv at *
  have hwr : wr .u8 (3 - sv) = 3 - sv := wr_u8 (by omega) (by omega)
  have ho : 3 - sv = 1 ∨ 3 - sv = 2 := by omega
  have hnn := sett_neut hs
  have hp1 : partV (ps, cs, l, so, eo, ()) 0 ((at_ + 1 : Nat) : Int) = (ps.take (at_ + 1), cs.take (at_ + 1), l, so, eo, ()) := by simp [partV, partL]
  have hp2 : partV (ps, cs, l, so, eo, ()) (at_ : Int) (cs.length : Int) = (ps.drop at_, cs.drop at_, l, so, eo, ()) := by
    have e1 : (ps.drop at_).take (cs.length - at_) = ps.drop at_ := List.take_of_length_le (by rw [List.length_drop]; omega)
    have e2 : (cs.drop at_).take (cs.length - at_) = cs.drop at_ := List.take_of_length_le (by rw [List.length_drop]; omega)
    simp [partV, partL, e1, e2]
  have hRx := rsOk_take (eo' := 3 - sv) hR ho hat
  have hRy := rsOk_drop (so' := 3 - sv) hR ho hat
  have hx1 := rslV_ok hRx
  have hx2 := rslE_ok hRx
  have hy1 := rslV_ok hRy
  have hy2 := rslE_ok hRy
  have hA : (resC cs l so eo).length = cs.length := resC_len
  have hB : (resC (cs.take (at_ + 1)) l so (3 - sv)).length = at_ + 1 := by rw [resC_len, List.length_take]; omega
  have hC : (resC (cs.drop at_) l (3 - sv) eo).length = cs.length - at_ := by rw [resC_len, List.length_drop]
  have hAB : ∀ i, i ≤ at_ → (resC (cs.take (at_ + 1)) l so (3 - sv)).getD i 0 = (resC cs l so eo).getD i 0 := fun i hi => by
    rw [resC_at (by rw [List.length_take]; omega), resC_at (by omega)]
    exact res_take hat hnn hi
  have hAC : ∀ i, at_ ≤ i → i < cs.length → (resC (cs.drop at_) l (3 - sv) eo).getD (i - at_) 0 = (resC cs l so eo).getD i 0 := fun i h1 h2 => by
    rw [resC_at (by rw [List.length_drop]; omega), resC_at h2, res_drop (so := so) hnn, show at_ + (i - at_) = i by omega]
  generalize resC (cs.take (at_ + 1)) l so (3 - sv) = rB at *
  generalize resC (cs.drop at_) l (3 - sv) eo = rC at *
  generalize resC cs l so eo = rA at *
  have hw1 := wr_succ (n := at_) (by omega)
  have hw2 : wr .i64 ((cs.length : Int) - (at_ : Int)) = ((cs.length - at_ : Nat) : Int) := by rw [wr_i64 (by omega) (by omega)]; omega
  have q1 : (0 : Int) ≤ ((at_ + 1 : Nat) : Int) := by omega
  have q2 : ((at_ + 1 : Nat) : Int) ≤ (ps.length : Int) := by omega
  have q3 : ((at_ + 1 : Nat) : Int) ≤ (cs.length : Int) := by omega
  have q4 : (0 : Int) ≤ (at_ : Int) := by omega
  have q5 : (at_ : Int) ≤ (cs.length : Int) := by omega
  have q6 : (cs.length : Int) ≤ (ps.length : Int) := by omega
  have q7 : (at_ : Int) < (cs.length : Int) := by omega
  clear hR hRx hRy hnn
  simp (maxSteps := 4000000) only [go_sem, reduceIte, reduceCtorEq, Int.reduceEq, Nat.reduceEqDiff, Nat.reduceBEq, Int.reduceLE, Int.reduceLT, Int.reduceNeg, Nat.reduceAdd, Nat.reduceSub, Nat.reduceMul, Nat.reduceLeDiff, Int.reduceToNat, Int.reduceAdd, Int.reduceSub, Int.reduceMul, Try.f6, lawApart3, h1, h2, hnz, hc, hw3, hs, hsv, hwr, hp1, hp2, hx1, hx2, hy1, hy2, hw1, hw2, q1, q2, q3, q4, q5, q6, q7, restResolve, restSide, awake20, lawPart]
  (repeat' (first | (apply And.intro) | (intro _) | (show staB _ _ = true; kernel_rfl) | (show dynB _ _ = true; kernel_rfl)))
  all_goals try omega
  all_goals try exact Int.le_refl _
  refine OkQ.loop (α := Nat) [0, 2, 3, 4, 6, 7, 8, 9, 10, 12, 14, 15, 16, 17, 18, 19, 20, 21, 22, 23, 24, 25, 26, 27, 28, 29, 30, 31, 32, 33, 34, 35, 36, 37, 38, 39, 40, 41, 42, 43, 44, 45, 46, 47, 48, 49, 50, 51, 52, 53, 54, 55, 56, 57, 58, 59, 60, 61, 62, 63, 64, 65, 66, 67, 68, 69, 70, 71, 72, 73, 74, 75, 76, 77, 78, 79, 80, 81, 82, 83, 84, 85, 86, 87, 88, 89, 90, 91, 92, 93, 94, 95, 96, 97, 98, 99, 100, 101, 102, 103, 104, 105, 106, 107, 108, 109, 110, 111, 112, 113, 114, 115, 116, 117, 118, 119, 120, 121, 122, 123, 124, 125, 126, 127, 128, 129, 130, 131, 132, 133, 134, 135, 136, 137, 138, 139, 140, 141, 142, 143, 144, 145, 146, 147, 148] (fun i => [(15, .s (.int .i64 (i : Int)))]) (fun _ => []) (fun i => i ≤ cs.length) (fun i => cs.length - i) 0 (Nat.zero_le _) ?_ fun i hi => ?_
  · simp (maxSteps := 4000000) only [go_sem, reduceIte, reduceCtorEq, Int.reduceEq, Nat.reduceEqDiff, Nat.reduceBEq, Int.reduceLE, Int.reduceLT, Int.reduceNeg, Nat.reduceAdd, Nat.reduceSub, Nat.reduceMul, Nat.reduceLeDiff, Int.reduceToNat, Int.reduceAdd, Int.reduceSub, Int.reduceMul, restResolve, restSide, awake20, lawPart]
    simp
  · clear h1 h2 hx1 hx2 hy1 hy2 hp1 hp2
    rcases Nat.lt_or_ge i cs.length with hlt | hge
    · have hw4 := wr_succ (n := i) (by omega)
      have e0 : (i : Int) < (cs.length : Int) := by omega
      have e3 : (0 : Int) ≤ (i : Int) := by omega
      have e4 : i - i = 0 := by omega
      rcases Nat.lt_trichotomy i at_ with hc | hc | hc
      · have e1 : ((i : Int) ≤ (at_ : Int)) = True := eq_true (by omega)
        have e2 : ((at_ : Int) ≤ (i : Int)) = False := eq_false (by omega)
        have g1 := hAB i (by omega)
        refine run_ok (Cs := [restResolve, restSide, awake20, lawPart]) (stp := []) (inl := []) (unr := false) (cons_ok restResolve_ok (cons_ok restSide_ok (cons_ok awake20_ok (cons_ok lawPart_ok nil_ok)))) 400 _ _ _ _ ?_
        simp (maxSteps := 4000000) only [go_sem, reduceIte, reduceCtorEq, Int.reduceEq, Nat.reduceEqDiff, Nat.reduceBEq, Int.reduceLE, Int.reduceLT, Int.reduceNeg, Nat.reduceAdd, Nat.reduceSub, Nat.reduceMul, Nat.reduceLeDiff, Int.reduceToNat, Int.reduceAdd, Int.reduceSub, Int.reduceMul, hA, hB, hC, e0, e1, e2, e3, g1, hw4, restResolve, restSide, awake20, lawPart]
        (repeat' (first | (apply And.intro) | (intro _) | (show staB _ _ = true; kernel_rfl) | (show dynB _ _ = true; kernel_rfl)))
        all_goals try omega
        all_goals first
          | contradiction
          | exact ⟨i + 1, by omega, by omega, rfl⟩
          | fail
      · subst hc
        have e1 : ((i : Int) ≤ (i : Int)) = True := eq_true (Int.le_refl _)
        have g1 := hAB i (Nat.le_refl _)
        have g2 := hAC i (Nat.le_refl _) hlt
        have g3 : rC.getD 0 0 = rA.getD i 0 := by rw [← g2, e4]
        have hw5 : wr .i64 ((i : Int) - (i : Int)) = ((i - i : Nat) : Int) := by rw [wr_i64 (by omega) (by omega)]; omega
        refine run_ok (Cs := [restResolve, restSide, awake20, lawPart]) (stp := []) (inl := []) (unr := false) (cons_ok restResolve_ok (cons_ok restSide_ok (cons_ok awake20_ok (cons_ok lawPart_ok nil_ok)))) 400 _ _ _ _ ?_
        simp (maxSteps := 4000000) only [go_sem, reduceIte, reduceCtorEq, Int.reduceEq, Nat.reduceEqDiff, Nat.reduceBEq, Int.reduceLE, Int.reduceLT, Int.reduceNeg, Nat.reduceAdd, Nat.reduceSub, Nat.reduceMul, Nat.reduceLeDiff, Int.reduceToNat, Int.reduceAdd, Int.reduceSub, Int.reduceMul, hA, hB, hC, e0, e1, e3, g1, g2, g3, hw4, hw5, restResolve, restSide, awake20, lawPart]
        (repeat' (first | (apply And.intro) | (intro _) | (show staB _ _ = true; kernel_rfl) | (show dynB _ _ = true; kernel_rfl)))
        all_goals try omega
        all_goals first
          | contradiction
          | exact ⟨i + 1, by omega, by omega, rfl⟩
          | fail
      · have e1 : ((i : Int) ≤ (at_ : Int)) = False := eq_false (by omega)
        have e2 : ((at_ : Int) ≤ (i : Int)) = True := eq_true (by omega)
        have g2 := hAC i (by omega) hlt
        have hw5 : wr .i64 ((i : Int) - (at_ : Int)) = ((i - at_ : Nat) : Int) := by rw [wr_i64 (by omega) (by omega)]; omega
        refine run_ok (Cs := [restResolve, restSide, awake20, lawPart]) (stp := []) (inl := []) (unr := false) (cons_ok restResolve_ok (cons_ok restSide_ok (cons_ok awake20_ok (cons_ok lawPart_ok nil_ok)))) 400 _ _ _ _ ?_
        simp (maxSteps := 4000000) only [go_sem, reduceIte, reduceCtorEq, Int.reduceEq, Nat.reduceEqDiff, Nat.reduceBEq, Int.reduceLE, Int.reduceLT, Int.reduceNeg, Nat.reduceAdd, Nat.reduceSub, Nat.reduceMul, Nat.reduceLeDiff, Int.reduceToNat, Int.reduceAdd, Int.reduceSub, Int.reduceMul, hA, hB, hC, e0, e1, e2, e3, g2, hw4, hw5, restResolve, restSide, awake20, lawPart]
        (repeat' (first | (apply And.intro) | (intro _) | (show staB _ _ = true; kernel_rfl) | (show dynB _ _ = true; kernel_rfl)))
        all_goals try omega
        all_goals first
          | contradiction
          | exact ⟨i + 1, by omega, by omega, rfl⟩
          | fail
    · have e0 : ((i : Int) < (cs.length : Int)) = False := eq_false (by omega)
      refine run_ok (Cs := [restResolve, restSide, awake20, lawPart]) (stp := []) (inl := []) (unr := false) (cons_ok restResolve_ok (cons_ok restSide_ok (cons_ok awake20_ok (cons_ok lawPart_ok nil_ok)))) 400 _ _ _ _ ?_
      simp (maxSteps := 4000000) only [go_sem, reduceIte, reduceCtorEq, Int.reduceEq, Nat.reduceEqDiff, Nat.reduceBEq, Int.reduceLE, Int.reduceLT, Int.reduceNeg, Nat.reduceAdd, Nat.reduceSub, Nat.reduceMul, Nat.reduceLeDiff, Int.reduceToNat, Int.reduceAdd, Int.reduceSub, Int.reduceMul, hA, hB, hC, e0, restResolve, restSide, awake20, lawPart]
      (repeat' (first | (apply And.intro) | (intro _) | (show staB _ _ = true; kernel_rfl) | (show dynB _ _ = true; kernel_rfl)))
      all_goals first | omega | contradiction

end Go.Proofs.Yteopmgddchnefaa.Sx
