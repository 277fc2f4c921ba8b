/- Contracts: Levels. -/
import Derived.Test.YteopmgddchnefaaCf
namespace Go.Proofs.Yteopmgddchnefaa.Sx
attribute [local irreducible] OkQ Ok
set_option linter.unusedSimpArgs false
set_option linter.unusedVariables false
set_option maxRecDepth 8000

def lvsV (ps cs : List Int) (l so eo : Int) : List Int := if OkS ps cs l so eo ∧ l ≤ 125 ∧ ∀ c ∈ cs, settB c = true then cs.map (levelV l) else []
def lvsE (ps cs : List Int) (l so eo : Int) : Int := if OkS ps cs l so eo ∧ l ≤ 125 then (if ∀ c ∈ cs, settB c = true then 0 else 200) else 170
def levelsV (s : tSeq.den) : List Int := lvsV s.1 s.2.1 s.2.2.1 s.2.2.2.1 s.2.2.2.2.1
def levelsE (s : tSeq.den) : Int := lvsE s.1 s.2.1 s.2.2.1 s.2.2.2.1 s.2.2.2.2.1

def restLevels : Con := ⟨30, [(true, tSeq)], [(false, tLevels), (false, .int .i64)], fun _ => True, fun x => (levelsV x.1, levelsE x.1, ()), false⟩
def refLevels : Con := ⟨31, [(true, tSeq)], [(false, tLevels), (false, .int .i64)], fun _ => True, fun x => (levelsV x.1, levelsE x.1, ()), false⟩

theorem chkV_eq {ps cs : List Int} {l so eo : Int} : (chkV ps cs l so eo = 0) = OkS ps cs l so eo := by unfold chkV; split <;> simp [*]

theorem restLevels_ok : restLevels.Ok Try.prog := by
  refine con_q Try.func30 rfl (by decide) (fun x hx hp => run_ok (Cs := [spansCheck, restLevel]) (stp := []) (inl := []) (unr := false) (cons_ok spansCheck_ok (cons_ok restLevel_ok nil_ok)) 400 _ _ _ _ ?_) (by decide)
  obtain ⟨⟨(ps : List Int), (cs : List Int), (l : Int), (so : Int), (eo : Int), ⟨⟩⟩, ⟨⟩⟩ := x
  have hz1 : ps.length * 8 ≤ 140737488355328 := hx.1.1.1
  have hz2 : cs.length * 1 ≤ 140737488355328 := hx.1.2.1.1
  clear hp hx
  simp (maxSteps := 4000000) only [go_sem, reduceIte, reduceCtorEq, Int.reduceEq, Nat.reduceEqDiff, Nat.reduceBEq, Int.reduceLE, Int.reduceLT, Int.reduceNeg, Nat.reduceAdd, Nat.reduceSub, Nat.reduceMul, Nat.reduceLeDiff, Int.reduceToNat, Int.reduceAdd, Int.reduceSub, Int.reduceMul, Try.f30, restLevels, checkV, levelsV, levelsE, chkV_eq, spansCheck, restLevel]
  refine fun _ => ⟨fun h => ?_, fun h => ?_⟩
  · have : ¬ (OkS ps cs l so eo ∧ l ≤ 125) := fun g => by rcases h with h | h; exact h g.1; omega
    exact ⟨by rw [lvsV, if_neg fun g => this ⟨g.1, g.2.1⟩], by rw [lvsE, if_neg this]⟩
  · obtain ⟨hok, hl⟩ := h
    have h0 : 0 ≤ l := hok.2.2.1
    have hlb : ∀ c, levelB l c = settB c := fun c => by unfold levelB; rw [decide_eq_true (by omega : 0 ≤ l ∧ l ≤ 125), Bool.true_and]
    refine OkQ.virt 1 (.int .i8) ?_
    refine OkQ.loop (α := Nat) [0, 2, 3, 4, 5, 6, 7, 8, 9, 10, 11, 12, 13, 14, 15, 16, 17, 20, 21, 22, 23, 24, 25, 26, 27, 28, 29, 30, 31, 32, 33, 34, 35, 36, 37, 38] (fun i => [(4, .s (.sub 1 0 i)), (20, .s (.int .i64 (i : Int)))]) (fun i => [(1, .arr false 1 (.int .i8) ((cs.take i).map (levelV l)))]) (fun i => i ≤ cs.length ∧ ∀ c ∈ cs.take i, settB c = true) (fun i => cs.length - i) 0 ⟨by simp, by simp⟩ ?_ fun i hi => ?_
    · simp (maxSteps := 4000000) only [go_sem, reduceIte, reduceCtorEq, Int.reduceEq, Nat.reduceEqDiff, Nat.reduceBEq, Int.reduceLE, Int.reduceLT, Int.reduceNeg, Nat.reduceAdd, Nat.reduceSub, Nat.reduceMul, Nat.reduceLeDiff, Int.reduceToNat, Int.reduceAdd, Int.reduceSub, Int.reduceMul, spansCheck, restLevel]
      simp
    · refine run_ok (Cs := [restLevel]) (stp := []) (inl := []) (unr := false) (cons_ok restLevel_ok nil_ok) 400 _ _ _ _ ?_
      simp (maxSteps := 4000000) only [go_sem, reduceIte, reduceCtorEq, Int.reduceEq, Nat.reduceEqDiff, Nat.reduceBEq, Int.reduceLE, Int.reduceLT, Int.reduceNeg, Nat.reduceAdd, Nat.reduceSub, Nat.reduceMul, Nat.reduceLeDiff, Int.reduceToNat, Int.reduceAdd, Int.reduceSub, Int.reduceMul, restLevel]
      obtain ⟨hi, ht⟩ := hi
      (repeat' (first | (apply And.intro) | (intro _) | (show staB _ _ = true; kernel_rfl) | (show dynB _ _ = true; kernel_rfl)))
      all_goals try omega
      · rename_i hlt _ hg
        rw [hlb] at hg
        rw [lvsV, if_neg fun g => ?_]
        have := g.2.2 _ (getD_mem 0 (by omega : i < cs.length))
        rw [hg] at this; cases this
      · rename_i hlt _ hg
        rw [hlb] at hg
        rw [lvsE, if_pos ⟨hok, by omega⟩, if_neg fun g => ?_]
        have := g _ (getD_mem 0 (by omega : i < cs.length))
        rw [hg] at this; cases this
      · simp; omega
      · rename_i hlt _ hg
        rw [hlb] at hg
        have hn := take_next 0 (by omega : i < cs.length)
        refine ⟨i + 1, ⟨by omega, ?_⟩, by omega, ⟨by simp; omega, by rw [wr_i64 (by omega) (by omega)]; simp⟩, ?_⟩
        · rw [hn]
          intro c hc
          rcases List.mem_append.1 hc with hc | hc
          · exact ht c hc
          · rw [List.mem_singleton.1 hc]; exact hg
        · rw [hn, List.take_of_length_le (by simp; omega)]; simp
      · have e : cs.take i = cs := List.take_of_length_le (by omega)
        rw [e] at ht
        rw [lvsV, if_pos ⟨hok, by omega, ht⟩, e, List.take_of_length_le (by simp; omega)]
      · have e : cs.take i = cs := List.take_of_length_le (by omega)
        rw [e] at ht
        rw [lvsE, if_pos ⟨hok, by omega⟩, if_pos ht]

theorem refLevels_ok : refLevels.Ok Try.prog := by
  refine con_q Try.func31 rfl (by decide) (fun x hx hp => run_ok (Cs := [ref17Check, refLevel]) (stp := []) (inl := []) (unr := false) (cons_ok ref17Check_ok (cons_ok refLevel_ok nil_ok)) 400 _ _ _ _ ?_) (by decide)
  obtain ⟨⟨(ps : List Int), (cs : List Int), (l : Int), (so : Int), (eo : Int), ⟨⟩⟩, ⟨⟩⟩ := x
  have hz1 : ps.length * 8 ≤ 140737488355328 := hx.1.1.1
  have hz2 : cs.length * 1 ≤ 140737488355328 := hx.1.2.1.1
  clear hp hx
  simp (maxSteps := 4000000) only [go_sem, reduceIte, reduceCtorEq, Int.reduceEq, Nat.reduceEqDiff, Nat.reduceBEq, Int.reduceLE, Int.reduceLT, Int.reduceNeg, Nat.reduceAdd, Nat.reduceSub, Nat.reduceMul, Nat.reduceLeDiff, Int.reduceToNat, Int.reduceAdd, Int.reduceSub, Int.reduceMul, Try.f31, refLevels, checkV, levelsV, levelsE, chkV_eq, ref17Check, refLevel]
  refine fun _ => ⟨fun h => ?_, fun h => ?_⟩
  · have : ¬ (OkS ps cs l so eo ∧ l ≤ 125) := fun g => by rcases h with h | h; exact h g.1; omega
    exact ⟨by rw [lvsV, if_neg fun g => this ⟨g.1, g.2.1⟩], by rw [lvsE, if_neg this]⟩
  · obtain ⟨hok, hl⟩ := h
    have h0 : 0 ≤ l := hok.2.2.1
    have hlb : ∀ c, levelB l c = settB c := fun c => by unfold levelB; rw [decide_eq_true (by omega : 0 ≤ l ∧ l ≤ 125), Bool.true_and]
    refine OkQ.virt 1 (.int .i8) ?_
    refine OkQ.loop (α := Nat) [0, 2, 3, 4, 5, 6, 7, 8, 9, 10, 11, 12, 13, 14, 15, 16, 17, 18, 19, 20, 21, 22, 23, 24, 25, 26, 27, 28, 29, 30, 31, 32, 33, 34, 35, 36, 37, 38, 39, 40] (fun i => [(4, .s (.sub 1 0 i)), (5, .s (.int .i64 (i : Int)))]) (fun i => [(1, .arr false 1 (.int .i8) ((cs.take i).map (levelV l)))]) (fun i => i ≤ cs.length ∧ ∀ c ∈ cs.take i, settB c = true) (fun i => cs.length - i) 0 ⟨by simp, by simp⟩ ?_ fun i hi => ?_
    · simp (maxSteps := 4000000) only [go_sem, reduceIte, reduceCtorEq, Int.reduceEq, Nat.reduceEqDiff, Nat.reduceBEq, Int.reduceLE, Int.reduceLT, Int.reduceNeg, Nat.reduceAdd, Nat.reduceSub, Nat.reduceMul, Nat.reduceLeDiff, Int.reduceToNat, Int.reduceAdd, Int.reduceSub, Int.reduceMul, ref17Check, refLevel]
      simp
    · refine run_ok (Cs := [refLevel]) (stp := []) (inl := []) (unr := false) (cons_ok refLevel_ok nil_ok) 400 _ _ _ _ ?_
      simp (maxSteps := 4000000) only [go_sem, reduceIte, reduceCtorEq, Int.reduceEq, Nat.reduceEqDiff, Nat.reduceBEq, Int.reduceLE, Int.reduceLT, Int.reduceNeg, Nat.reduceAdd, Nat.reduceSub, Nat.reduceMul, Nat.reduceLeDiff, Int.reduceToNat, Int.reduceAdd, Int.reduceSub, Int.reduceMul, refLevel]
      obtain ⟨hi, ht⟩ := hi
      (repeat' (first | (apply And.intro) | (intro _) | (show staB _ _ = true; kernel_rfl) | (show dynB _ _ = true; kernel_rfl)))
      all_goals try omega
      · rename_i hlt _ hg
        rw [hlb] at hg
        rw [lvsV, if_neg fun g => ?_]
        have := g.2.2 _ (getD_mem 0 (by omega : i < cs.length))
        rw [hg] at this; cases this
      · rename_i hlt _ hg
        rw [hlb] at hg
        rw [lvsE, if_pos ⟨hok, by omega⟩, if_neg fun g => ?_]
        have := g _ (getD_mem 0 (by omega : i < cs.length))
        rw [hg] at this; cases this
      · simp; omega
      · rename_i hlt _ hg
        rw [hlb] at hg
        have hn := take_next 0 (by omega : i < cs.length)
        refine ⟨i + 1, ⟨by omega, ?_⟩, by omega, ⟨by simp; omega, by rw [wr_i64 (by omega) (by omega)]; simp⟩, ?_⟩
        · rw [hn]
          intro c hc
          rcases List.mem_append.1 hc with hc | hc
          · exact ht c hc
          · rw [List.mem_singleton.1 hc]; exact hg
        · rw [hn, List.take_of_length_le (by simp; omega)]; simp
      · have e : cs.take i = cs := List.take_of_length_le (by omega)
        rw [e] at ht
        rw [lvsV, if_pos ⟨hok, by omega, ht⟩, e, List.take_of_length_le (by simp; omega)]
      · have e : cs.take i = cs := List.take_of_length_le (by omega)
        rw [e] at ht
        rw [lvsE, if_pos ⟨hok, by omega⟩, if_pos ht]

end Go.Proofs.Yteopmgddchnefaa.Sx
