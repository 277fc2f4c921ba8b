/- The law RestMirror. -/
import Derived.Test.YteopmgddchnefaaCn
namespace Go.Proofs.Yteopmgddchnefaa.Sx
attribute [local irreducible] OkQ Ok
set_option linter.unusedSimpArgs false
set_option linter.unusedVariables false
set_option maxRecDepth 8000

def lawRestMirror : Con := ⟨9, [(true, tSeq)], [(false, .bool)], (tyL [(true, tSeq)]).small, fun _ => (true, ())⟩

theorem lawRestMirror_ok : lawRestMirror.Ok Try.prog := by
  refine con_q Try.func9 rfl (by decide) (fun x hx hp => run_ok (Cs := [restResolve, lawMirror, spansSame, awake20]) (stp := []) (inl := []) (unr := false) (cons_ok restResolve_ok (cons_ok lawMirror_ok (cons_ok spansSame_ok (cons_ok awake20_ok nil_ok)))) 400 _ _ _ _ ?_) (by decide)
  obtain ⟨⟨(ps : List Int), (cs : List Int), (l : Int), (so : Int), (eo : Int), ⟨⟩⟩, ⟨⟩⟩ := x
  have hz1 : ps.length * 8 ≤ 140737488351232 := hp.1.1.1
  have hz2 : cs.length * 1 ≤ 140737488351232 := hp.1.2.1.1
  clear hx hp
  simp (maxSteps := 4000000) only [go_sem, reduceIte, reduceCtorEq, Int.reduceEq, Nat.reduceEqDiff, Nat.reduceBEq, Int.reduceLE, Int.reduceLT, Int.reduceNeg, Nat.reduceAdd, Nat.reduceSub, Nat.reduceMul, Nat.reduceLeDiff, Int.reduceToNat, Int.reduceAdd, Int.reduceSub, Int.reduceMul, Try.f9, lawRestMirror, restResolve, lawMirror, spansSame, awake20]
  refine OkQ.loop (α := Nat) [0, 2, 3, 4, 5, 6, 7, 8, 9, 10, 11, 12, 13, 14, 15, 16, 17, 18, 19, 20, 21, 22, 23, 24, 25, 26, 27, 28, 29, 30, 31, 32, 33, 34, 35, 36, 37, 38, 39, 40, 41, 42, 43, 44, 45, 46, 47, 48, 49, 50, 51, 52, 53, 54, 55, 56, 57, 58, 59, 60, 61, 62, 63, 64, 65, 66] (fun i => [(3, .s (.int .i64 (i : Int)))]) (fun _ => []) (fun i => i ≤ cs.length ∧ ∀ j, j < i → cs.getD j 0 ≠ 4 ∧ cs.getD j 0 ≠ 7) (fun i => cs.length - i) 0 ⟨by simp, by simp⟩ ?_ fun i hi => ?_
  · simp (maxSteps := 4000000) only [go_sem, reduceIte, reduceCtorEq, Int.reduceEq, Nat.reduceEqDiff, Nat.reduceBEq, Int.reduceLE, Int.reduceLT, Int.reduceNeg, Nat.reduceAdd, Nat.reduceSub, Nat.reduceMul, Nat.reduceLeDiff, Int.reduceToNat, Int.reduceAdd, Int.reduceSub, Int.reduceMul, restResolve, lawMirror, spansSame, awake20]
    simp
  · obtain ⟨hi, ht⟩ := hi
    have hnext : (¬ cs.getD i 0 = 4 ∧ ¬ cs.getD i 0 = 7) → ∀ j, j < i + 1 → ¬ cs.getD j 0 = 4 ∧ ¬ cs.getD j 0 = 7 := fun h j hj => by
      by_cases e : j < i
      · exact ht j e
      · rw [show j = i by omega]; exact h
    by_cases hR : RsOk ps cs l so eo
    · have h1 := rslV_ok hR
      have h2 := rslE_ok hR
      have hl0 : 0 ≤ l := hR.1.2.2.1
      have hl1 : l ≤ 126 := hR.1.2.2.2.1
      have hex : ¬ (i : Int) < cs.length → NoNum cs := fun hlt c hc => by
        obtain ⟨j, hj, rfl⟩ := List.mem_iff_getElem.1 hc
        rw [← getD_at 0 hj]; exact ht j (by omega)
      have hm : ∀ l', (l' = l + 1 ∧ l < 126 ∨ l' = l - 1 ∧ l = 126) → NoNum cs → resolveE (ps, cs.map turnV, l', turnV so, turnV eo, ()) = 0 ∧ resolveV (ps, cs.map turnV, l', turnV so, turnV eo, ()) = (ps, (resC cs l so eo).map turnV, l', turnV so, turnV eo, ()) := fun l' h3 hn => by
        have hR2 := rsOk_turn hR h3
        exact ⟨rslE_ok hR2, by rw [rslV_ok hR2, resC_turn hn (way_turn hl0 hl1 h3)]⟩
      refine run_ok (Cs := [restResolve, lawMirror, spansSame, awake20]) (stp := []) (inl := []) (unr := false) (cons_ok restResolve_ok (cons_ok lawMirror_ok (cons_ok spansSame_ok (cons_ok awake20_ok nil_ok)))) 400 _ _ _ _ ?_
      simp (maxSteps := 4000000) only [go_sem, reduceIte, reduceCtorEq, Int.reduceEq, Nat.reduceEqDiff, Nat.reduceBEq, Int.reduceLE, Int.reduceLT, Int.reduceNeg, Nat.reduceAdd, Nat.reduceSub, Nat.reduceMul, Nat.reduceLeDiff, Int.reduceToNat, Int.reduceAdd, Int.reduceSub, Int.reduceMul, h1, h2, mirV, restResolve, lawMirror, spansSame, awake20]
      (repeat' (first | (apply And.intro) | (intro _) | (show staB _ _ = true; kernel_rfl) | (show dynB _ _ = true; kernel_rfl)))
      all_goals try omega
      · exact ⟨i + 1, ⟨by omega, hnext (by assumption)⟩, by omega, wr_succ (by omega)⟩
      · have hw : wr .i8 (l - 1) = l - 1 := wr_i8 (by omega) (by omega)
        rw [hw, (hm (l - 1) (.inr ⟨rfl, by omega⟩) (hex (by assumption))).2]
        exact sameSeq_iff.2 rfl
      · rename_i he
        have hw : wr .i8 (l - 1) = l - 1 := wr_i8 (by omega) (by omega)
        rw [hw] at he
        exact he (hm (l - 1) (.inr ⟨rfl, by omega⟩) (hex (by assumption))).1
      · have hw : wr .i8 (l + 1) = l + 1 := wr_i8 (by omega) (by omega)
        rw [hw, (hm (l + 1) (.inl ⟨rfl, by omega⟩) (hex (by assumption))).2]
        exact sameSeq_iff.2 rfl
      · rename_i he
        have hw : wr .i8 (l + 1) = l + 1 := wr_i8 (by omega) (by omega)
        rw [hw] at he
        exact he (hm (l + 1) (.inl ⟨rfl, by omega⟩) (hex (by assumption))).1
    · have h2 := rslE_ne hR
      refine run_ok (Cs := [restResolve, lawMirror, spansSame, awake20]) (stp := []) (inl := []) (unr := false) (cons_ok restResolve_ok (cons_ok lawMirror_ok (cons_ok spansSame_ok (cons_ok awake20_ok nil_ok)))) 400 _ _ _ _ ?_
      simp (maxSteps := 4000000) only [go_sem, reduceIte, reduceCtorEq, Int.reduceEq, Nat.reduceEqDiff, Nat.reduceBEq, Int.reduceLE, Int.reduceLT, Int.reduceNeg, Nat.reduceAdd, Nat.reduceSub, Nat.reduceMul, Nat.reduceLeDiff, Int.reduceToNat, Int.reduceAdd, Int.reduceSub, Int.reduceMul, h2, restResolve, lawMirror, spansSame, awake20]
      (repeat' (first | (apply And.intro) | (intro _) | (show staB _ _ = true; kernel_rfl) | (show dynB _ _ = true; kernel_rfl)))
      all_goals try omega
      · exact ⟨i + 1, ⟨by omega, hnext (by assumption)⟩, by omega, wr_succ (by omega)⟩

end Go.Proofs.Yteopmgddchnefaa.Sx
