/- Contracts: the document's place, Rule. -/
import Derived.Test.YteompacffdeekaaWb
import Derived.Test.YteompacffdeekaaLx
namespace Go.Proofs.Yteompacffdeekaa.Sx
attribute [local irreducible] OkQ Ok OkP
set_option linter.unusedSimpArgs false
set_option linter.unusedVariables false
set_option maxRecDepth 8000

def ref18Place : Con := ⟨33, [(false, .int .i64), (false, tClasses), (false, .int .u8), (false, .int .i64)], [(false, .int .u8)],
  fun x => 0 ≤ (x.2.2.2.1 : Int) ∧ (x.2.2.2.1 : Int) < (x.2.1 : List Int).length, fun x => (placeV x.1 x.2.1 x.2.2.1 (Int.toNat x.2.2.2.1), ()), false⟩

theorem look3 {l : List Int} {sos : Int} : ∀ {i : Nat}, lookV (inB' [2, 1, 3]) l sos i = lookV st3 l sos i
  | 0 => rfl
  | i + 1 => by
    have e : inB' [2, 1, 3] (l.getD i 0) = st3 (l.getD i 0) := by
      rw [Bool.eq_iff_iff, st3t]
      simp only [inB', decide_eq_true_eq, List.mem_cons, List.not_mem_nil, or_false]
      omega
    rw [lookV, lookV, e, look3]
theorem look2 {l : List Int} {sos : Int} : ∀ {i : Nat}, lookV (inB' [2, 1]) l sos i = lookV st2 l sos i
  | 0 => rfl
  | i + 1 => by
    have e : inB' [2, 1] (l.getD i 0) = st2 (l.getD i 0) := by
      rw [Bool.eq_iff_iff, st2t]
      simp only [inB', decide_eq_true_eq, List.mem_cons, List.not_mem_nil, or_false]
      omega
    rw [lookV, lookV, e, look2]

theorem atV_prev {l : List Int} {i : Nat} (hi : i < l.length) (hz : l.length * 1 ≤ 140737488355328) : atV l (wr .i64 ((i : Int) - 1)) = prevV l 0 i := by
  rw [wr_i64 (by omega) (by omega)]
  unfold atV prevV
  rcases Nat.eq_zero_or_pos i with e | e
  · rw [if_pos (by omega), if_pos e]
  · rw [if_neg (by omega), if_neg (by omega), show ((i : Int) - 1).toNat = i - 1 by omega]
theorem atV_next {l : List Int} {i : Nat} (hi : i < l.length) (hz : l.length * 1 ≤ 140737488355328) : atV l (wr .i64 ((i : Int) + 1)) = l.getD (i + 1) 0 := by
  rw [wr_i64 (by omega) (by omega)]
  unfold atV
  rcases Nat.lt_or_ge (i + 1) l.length with e | e
  · rw [if_neg (by omega), show ((i : Int) + 1).toNat = i + 1 by omega]
  · rw [if_pos (by omega), List.getD_eq_getElem?_getD, List.getElem?_eq_none e]; rfl
theorem atV_at {l : List Int} {i : Nat} (hi : i < l.length) : atV l (i : Int) = l.getD i 0 := by
  unfold atV
  rw [if_neg (by omega)]; rfl
theorem atV_out {l : List Int} {i : Nat} (hi : l.length ≤ i) : atV l (i : Int) = 0 := by
  unfold atV
  rw [if_pos (by omega)]

set_option maxHeartbeats 2000000 in
theorem ref18Place_ok : ref18Place.Ok Try.prog := by
  refine con_q Try.func33 rfl (by decide) (fun x hx hp => run_ok (Cs := [ref18Isolates, ref18Ahead, ref18At]) (stp := []) (inl := []) (unr := false) (cons_ok ref18Isolates_ok (cons_ok ref18Ahead_ok (cons_ok ref18At_ok nil_ok))) 400 _ _ _ _ ?_) (by decide)
  obtain ⟨(n : Int), (l : List Int), (sos : Int), (m : Int), ⟨⟩⟩ := x
  have hz : l.length * 1 ≤ 140737488355328 := hx.2.1.1
  have h0 : 0 ≤ m := hp.1
  have h1 : m < l.length := hp.2
  clear hp hx
  obtain ⟨i, rfl⟩ : ∃ i : Nat, m = i := ⟨m.toNat, by omega⟩
  have hi : i < l.length := by omega
  by_cases n1 : n = 1
  · subst n1
    have hF : placeV 1 l sos i = place1 l sos i := rfl
    rcases Nat.eq_zero_or_pos i with e0 | e0
    · subst e0
      simp (maxSteps := 4000000) only [go_sem, reduceIte, reduceCtorEq, Int.reduceEq, Nat.reduceEqDiff, Nat.reduceBEq, Int.reduceLE, Int.reduceLT, Int.reduceNeg, Nat.reduceAdd, Nat.reduceSub, Nat.reduceMul, Nat.reduceLeDiff, Int.reduceToNat, Int.reduceAdd, Int.reduceSub, Int.reduceMul, Try.f33, ref18Place, Int.natCast_zero, hF, ref18Isolates, ref18Ahead, ref18At]
      (repeat' (first | (apply And.intro) | (intro _) | (show staB _ _ = true; kernel_rfl) | (show dynB _ _ = true; kernel_rfl) | (show dynP _ _ _ = true; kernel_rfl)))
      all_goals try omega
      all_goals try contradiction
      · rename_i h; rw [place1, if_pos h, if_neg (by simp)]; rfl
      · rename_i h; rw [place1, if_neg h]
    · have hw : wr .i64 ((i : Int) - 1) = ((i - 1 : Nat) : Int) := by rw [wr_i64 (by omega) (by omega)]; omega
      have hne : ((i : Int) = 0) = False := by simp; omega
      have hp : prevV l sos i = l.getD (i - 1) 0 := by rw [prevV, if_neg (by omega)]
      simp (maxSteps := 4000000) only [go_sem, reduceIte, reduceCtorEq, Int.reduceEq, Nat.reduceEqDiff, Nat.reduceBEq, Int.reduceLE, Int.reduceLT, Int.reduceNeg, Nat.reduceAdd, Nat.reduceSub, Nat.reduceMul, Nat.reduceLeDiff, Int.reduceToNat, Int.reduceAdd, Int.reduceSub, Int.reduceMul, Try.f33, ref18Place, hF, hw, hne, ref18Isolates, ref18Ahead, ref18At]
      (repeat' (first | (apply And.intro) | (intro _) | (show staB _ _ = true; kernel_rfl) | (show dynB _ _ = true; kernel_rfl) | (show dynP _ _ _ = true; kernel_rfl)))
      all_goals try omega
      all_goals try contradiction
      · rename_i h g; rw [place1, if_pos h, hp, if_pos ⟨by omega, g⟩]
      · rename_i h g; rw [place1, if_pos h, hp, if_neg (by rw [g]; simp)]
      · rename_i h; rw [place1, if_neg h]
  by_cases n2 : n = 2
  · subst n2
    have hF : placeV 2 l sos i = place2 l sos i := rfl
    have ha : aheadS l sos (i : Int) [2, 1, 3] = lookV st3 l sos i := look3
    simp (maxSteps := 4000000) only [go_sem, reduceIte, reduceCtorEq, Int.reduceEq, Nat.reduceEqDiff, Nat.reduceBEq, Int.reduceLE, Int.reduceLT, Int.reduceNeg, Nat.reduceAdd, Nat.reduceSub, Nat.reduceMul, Nat.reduceLeDiff, Int.reduceToNat, Int.reduceAdd, Int.reduceSub, Int.reduceMul, Try.f33, ref18Place, hF, ha, ref18Isolates, ref18Ahead, ref18At]
    (repeat' (first | (apply And.intro) | (intro _) | (show staB _ _ = true; kernel_rfl) | (show dynB _ _ = true; kernel_rfl) | (show dynP _ _ _ = true; kernel_rfl)))
    all_goals try omega
    all_goals first
      | exact Int.le_of_lt h1
      | rw [place2, if_pos ⟨by assumption, by assumption⟩]
      | rw [place2, if_neg (by rintro ⟨_, _⟩; omega)]
      | fail
  by_cases n3 : n = 3
  · subst n3
    have hF : placeV 3 l sos i = place3 l i := rfl
    simp (maxSteps := 4000000) only [go_sem, reduceIte, reduceCtorEq, Int.reduceEq, Nat.reduceEqDiff, Nat.reduceBEq, Int.reduceLE, Int.reduceLT, Int.reduceNeg, Nat.reduceAdd, Nat.reduceSub, Nat.reduceMul, Nat.reduceLeDiff, Int.reduceToNat, Int.reduceAdd, Int.reduceSub, Int.reduceMul, Try.f33, ref18Place, hF, ref18Isolates, ref18Ahead, ref18At]
    (repeat' (first | (apply And.intro) | (intro _) | (show staB _ _ = true; kernel_rfl) | (show dynB _ _ = true; kernel_rfl) | (show dynP _ _ _ = true; kernel_rfl)))
    all_goals try omega
    · rename_i h; rw [place3, if_pos h]
    · rename_i h; rw [place3, if_neg h]
  by_cases n4 : n = 4
  · subst n4
    have hF : placeV 4 l sos i = place4 l i := rfl
    have ha := atV_prev hi hz
    have hb := atV_next hi hz
    simp (maxSteps := 4000000) only [go_sem, reduceIte, reduceCtorEq, Int.reduceEq, Nat.reduceEqDiff, Nat.reduceBEq, Int.reduceLE, Int.reduceLT, Int.reduceNeg, Nat.reduceAdd, Nat.reduceSub, Nat.reduceMul, Nat.reduceLeDiff, Int.reduceToNat, Int.reduceAdd, Int.reduceSub, Int.reduceMul, Try.f33, ref18Place, hF, ha, hb, ref18Isolates, ref18Ahead, ref18At]
    unfold place4
    generalize prevV l 0 i = a
    generalize l.getD (i + 1) 0 = b
    generalize l.getD i 0 = c
    (repeat' (first | (apply And.intro) | (intro _) | (show staB _ _ = true; kernel_rfl) | (show dynB _ _ = true; kernel_rfl) | (show dynP _ _ _ = true; kernel_rfl)))
    all_goals try omega
    all_goals (repeat' split) <;> omega
  by_cases n5 : n = 5
  · subst n5
    have hF : placeV 5 l sos i = place5 l i := rfl
    by_cases h6 : l.getD i 0 = 6
    · simp (maxSteps := 4000000) only [go_sem, reduceIte, reduceCtorEq, Int.reduceEq, Nat.reduceEqDiff, Nat.reduceBEq, Int.reduceLE, Int.reduceLT, Int.reduceNeg, Nat.reduceAdd, Nat.reduceSub, Nat.reduceMul, Nat.reduceLeDiff, Int.reduceToNat, Int.reduceAdd, Int.reduceSub, Int.reduceMul, Try.f33, ref18Place, hF, h6, ref18Isolates, ref18Ahead, ref18At]
      (repeat' (first | (apply And.intro) | (intro _) | (show staB _ _ = true; kernel_rfl) | (show dynB _ _ = true; kernel_rfl) | (show dynP _ _ _ = true; kernel_rfl)))
      all_goals try omega
      have hb0 : backV l (i + 1) = backV l i := by rw [backV, if_pos h6]
      refine OkQ.loop (α := Nat) [0, 2, 3, 4, 5, 6, 7, 8, 10, 11, 12, 14, 15, 16, 17, 18, 19, 20, 21, 22, 23, 24, 25, 26, 27, 28, 29, 30, 31, 32, 33, 34, 35, 36, 37, 38, 39, 40, 41, 42, 43, 44, 45, 46, 47, 48, 49, 50, 51, 52, 53, 54, 55, 56, 57, 58, 59, 60, 61, 62, 63, 64, 65, 66, 67, 68, 69, 70, 71, 72, 73, 74, 75, 76, 77, 78, 79, 80, 81, 82, 83, 84, 85, 86, 87, 88, 89, 90, 91, 92, 93, 94, 95, 96, 97, 98, 99, 100, 101, 102, 103, 104, 105, 106, 107, 108, 109, 110, 111, 112, 113, 114, 115, 116, 117, 118, 119, 120, 121, 122, 123, 124, 125, 126, 127, 128, 129, 130, 131, 132, 133, 134, 135, 136, 137, 138, 139, 140, 141, 142, 143, 144, 145, 146, 147, 148, 149, 150, 151, 152, 153] (fun m => [(12, .s (.int .i64 ((m : Int) - 1)))]) (fun _ => []) (fun m => m ≤ i + 1 ∧ backV l m = backV l i) (fun m => m) (i + 1) ⟨by omega, hb0⟩ ?_ fun m hm => ?_
      · simp (maxSteps := 4000000) only [go_sem, reduceIte, reduceCtorEq, Int.reduceEq, Nat.reduceEqDiff, Nat.reduceBEq, Int.reduceLE, Int.reduceLT, Int.reduceNeg, Nat.reduceAdd, Nat.reduceSub, Nat.reduceMul, Nat.reduceLeDiff, Int.reduceToNat, Int.reduceAdd, Int.reduceSub, Int.reduceMul, ref18Isolates, ref18Ahead, ref18At]
        omega
      · obtain ⟨hm1, hm2⟩ := hm
        have hst : ∀ v : Int, atV l ((m : Int) - 1) = v → ¬ v = 6 → backV l i = v := fun v hv h => by
          rw [← hm2]
          cases m with
          | zero =>
            rw [atV, if_pos (by omega)] at hv
            rw [backV]; exact hv
          | succ m =>
            rw [show ((m + 1 : Nat) : Int) - 1 = m by omega, atV_at (by omega)] at hv
            rw [backV, hv, if_neg h]
        have hgo : atV l ((m : Int) - 1) = 6 → ∃ q, m = q + 1 ∧ backV l q = backV l i := fun hv => by
          cases m with
          | zero => rw [atV, if_pos (by omega)] at hv; omega
          | succ m =>
            rw [show ((m + 1 : Nat) : Int) - 1 = m by omega, atV_at (by omega)] at hv
            rw [backV, if_pos hv] at hm2
            exact ⟨m, rfl, hm2⟩
        generalize hv : atV l ((m : Int) - 1) = v at *
        refine run_ok (Cs := [ref18Isolates, ref18Ahead, ref18At]) (stp := []) (inl := []) (unr := false) (cons_ok ref18Isolates_ok (cons_ok ref18Ahead_ok (cons_ok ref18At_ok nil_ok))) 400 _ _ _ _ ?_
        simp (maxSteps := 4000000) only [go_sem, reduceIte, reduceCtorEq, Int.reduceEq, Nat.reduceEqDiff, Nat.reduceBEq, Int.reduceLE, Int.reduceLT, Int.reduceNeg, Nat.reduceAdd, Nat.reduceSub, Nat.reduceMul, Nat.reduceLeDiff, Int.reduceToNat, Int.reduceAdd, Int.reduceSub, Int.reduceMul, hv, ref18Isolates, ref18Ahead, ref18At]
        (repeat' (first | (apply And.intro) | (intro _) | (show staB _ _ = true; kernel_rfl) | (show dynB _ _ = true; kernel_rfl) | (show dynP _ _ _ = true; kernel_rfl)))
        all_goals try omega
        · rename_i g
          obtain ⟨q, rfl, hq⟩ := hgo g
          exact ⟨q, ⟨by omega, hq⟩, by omega, by rw [wr_i64 (by omega) (by omega)]; omega⟩
        · rename_i g
          have hback := hst v rfl g
          refine OkQ.loop (α := Nat) [0, 2, 3, 4, 5, 6, 7, 8, 10, 11, 13, 14, 15, 16, 17, 18, 19, 20, 21, 22, 23, 24, 25, 26, 27, 28, 29, 30, 31, 32, 33, 34, 35, 36, 37, 38, 39, 40, 41, 42, 43, 44, 45, 46, 47, 48, 49, 50, 51, 52, 53, 54, 55, 56, 57, 58, 59, 60, 61, 62, 63, 64, 65, 66, 67, 68, 69, 70, 71, 72, 73, 74, 75, 76, 77, 78, 79, 80, 81, 82, 83, 84, 85, 86, 87, 88, 89, 90, 91, 92, 93, 94, 95, 96, 97, 98, 99, 100, 101, 102, 103, 104, 105, 106, 107, 108, 109, 110, 111, 112, 113, 114, 115, 116, 117, 118, 119, 120, 121, 122, 123, 124, 125, 126, 127, 128, 129, 130, 131, 132, 133, 134, 135, 136, 137, 138, 139, 140, 141, 142, 143, 144, 145, 146, 147, 148, 149, 150, 151, 152, 153] (fun t => [(13, .s (.int .i64 (t : Int)))]) (fun _ => []) (fun t => t ≤ l.length ∧ fwdV l t = fwdV l i) (fun t => l.length - t) i ⟨by omega, rfl⟩ ?_ fun t ht => ?_
          · simp (maxSteps := 4000000) only [go_sem, reduceIte, reduceCtorEq, Int.reduceEq, Nat.reduceEqDiff, Nat.reduceBEq, Int.reduceLE, Int.reduceLT, Int.reduceNeg, Nat.reduceAdd, Nat.reduceSub, Nat.reduceMul, Nat.reduceLeDiff, Int.reduceToNat, Int.reduceAdd, Int.reduceSub, Int.reduceMul, ref18Isolates, ref18Ahead, ref18At]
          · obtain ⟨ht1, ht2⟩ := ht
            have hst2 : ¬ atV l (t : Int) = 6 → fwdV l i = atV l (t : Int) := fun h => by
              rw [← ht2]
              rcases Nat.lt_or_ge t l.length with e | e
              · rw [atV_at e] at h ⊢
                rw [fwdV_in e, if_neg h]
              · rw [fwdV_out e, atV_out e]
            have hgo2 : atV l (t : Int) = 6 → t < l.length ∧ fwdV l (t + 1) = fwdV l i := fun h => by
              rcases Nat.lt_or_ge t l.length with e | e
              · rw [atV_at e] at h
                rw [fwdV_in e, if_pos h] at ht2
                exact ⟨e, ht2⟩
              · rw [atV_out e] at h; omega
            refine run_ok (Cs := [ref18Isolates, ref18Ahead, ref18At]) (stp := []) (inl := []) (unr := false) (cons_ok ref18Isolates_ok (cons_ok ref18Ahead_ok (cons_ok ref18At_ok nil_ok))) 400 _ _ _ _ ?_
            simp (maxSteps := 4000000) only [go_sem, reduceIte, reduceCtorEq, Int.reduceEq, Nat.reduceEqDiff, Nat.reduceBEq, Int.reduceLE, Int.reduceLT, Int.reduceNeg, Nat.reduceAdd, Nat.reduceSub, Nat.reduceMul, Nat.reduceLeDiff, Int.reduceToNat, Int.reduceAdd, Int.reduceSub, Int.reduceMul, hv, ref18Isolates, ref18Ahead, ref18At]
            generalize atV l (t : Int) = u at *
            (repeat' (first | (apply And.intro) | (intro _) | (show staB _ _ = true; kernel_rfl) | (show dynB _ _ = true; kernel_rfl) | (show dynP _ _ _ = true; kernel_rfl)))
            all_goals try omega
            · rename_i g2
              have := hgo2 g2
              exact ⟨t + 1, ⟨by omega, this.2⟩, by omega, wr_succ (by omega)⟩
            · rename_i g1 _ _ g2
              rw [place5, if_pos ⟨h6, by rw [hback, hst2 g1]; exact g2⟩]
            · rename_i g1 _ _ g2
              rw [place5, if_neg (by rw [hback, hst2 g1]; omega), h6]
    · simp (maxSteps := 4000000) only [go_sem, reduceIte, reduceCtorEq, Int.reduceEq, Nat.reduceEqDiff, Nat.reduceBEq, Int.reduceLE, Int.reduceLT, Int.reduceNeg, Nat.reduceAdd, Nat.reduceSub, Nat.reduceMul, Nat.reduceLeDiff, Int.reduceToNat, Int.reduceAdd, Int.reduceSub, Int.reduceMul, Try.f33, ref18Place, hF, h6, ref18Isolates, ref18Ahead, ref18At]
      (repeat' (first | (apply And.intro) | (intro _) | (show staB _ _ = true; kernel_rfl) | (show dynB _ _ = true; kernel_rfl) | (show dynP _ _ _ = true; kernel_rfl)))
      all_goals try omega
      rw [place5, if_neg fun q => h6 q.1]
  by_cases n6 : n = 6
  · subst n6
    have hF : placeV 6 l sos i = place6 l i := rfl
    simp (maxSteps := 4000000) only [go_sem, reduceIte, reduceCtorEq, Int.reduceEq, Nat.reduceEqDiff, Nat.reduceBEq, Int.reduceLE, Int.reduceLT, Int.reduceNeg, Nat.reduceAdd, Nat.reduceSub, Nat.reduceMul, Nat.reduceLeDiff, Int.reduceToNat, Int.reduceAdd, Int.reduceSub, Int.reduceMul, Try.f33, ref18Place, hF, ref18Isolates, ref18Ahead, ref18At]
    unfold place6
    generalize l.getD i 0 = c
    (repeat' (first | (apply And.intro) | (intro _) | (show staB _ _ = true; kernel_rfl) | (show dynB _ _ = true; kernel_rfl) | (show dynP _ _ _ = true; kernel_rfl)))
    all_goals try omega
    all_goals (repeat' split) <;> omega
  by_cases n7 : n = 7
  · subst n7
    have hF : placeV 7 l sos i = place7 l sos i := rfl
    have ha : aheadS l sos (i : Int) [2, 1] = lookV st2 l sos i := look2
    simp (maxSteps := 4000000) only [go_sem, reduceIte, reduceCtorEq, Int.reduceEq, Nat.reduceEqDiff, Nat.reduceBEq, Int.reduceLE, Int.reduceLT, Int.reduceNeg, Nat.reduceAdd, Nat.reduceSub, Nat.reduceMul, Nat.reduceLeDiff, Int.reduceToNat, Int.reduceAdd, Int.reduceSub, Int.reduceMul, Try.f33, ref18Place, hF, ha, ref18Isolates, ref18Ahead, ref18At]
    (repeat' (first | (apply And.intro) | (intro _) | (show staB _ _ = true; kernel_rfl) | (show dynB _ _ = true; kernel_rfl) | (show dynP _ _ _ = true; kernel_rfl)))
    all_goals try omega
    all_goals first
      | exact Int.le_of_lt h1
      | rw [place7, if_pos ⟨by assumption, by assumption⟩]
      | rw [place7, if_neg (by rintro ⟨_, _⟩; omega)]
  have hF : placeV n l sos i = l.getD i 0 := by unfold placeV; rw [if_neg n1, if_neg n2, if_neg n3, if_neg n4, if_neg n5, if_neg n6, if_neg n7]
  simp (maxSteps := 4000000) only [go_sem, reduceIte, reduceCtorEq, Int.reduceEq, Nat.reduceEqDiff, Nat.reduceBEq, Int.reduceLE, Int.reduceLT, Int.reduceNeg, Nat.reduceAdd, Nat.reduceSub, Nat.reduceMul, Nat.reduceLeDiff, Int.reduceToNat, Int.reduceAdd, Int.reduceSub, Int.reduceMul, Try.f33, ref18Place, hF, n1, n2, n3, n4, n5, n6, n7, ref18Isolates, ref18Ahead, ref18At]
  (repeat' (first | (apply And.intro) | (intro _) | (show staB _ _ = true; kernel_rfl) | (show dynB _ _ = true; kernel_rfl) | (show dynP _ _ _ = true; kernel_rfl)))
  all_goals first | omega | contradiction

end Go.Proofs.Yteompacffdeekaa.Sx
