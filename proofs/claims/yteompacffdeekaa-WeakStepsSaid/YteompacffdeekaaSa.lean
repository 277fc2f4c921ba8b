/- The contracts of spans that the chapters 18 .. ask (cut out of Cc, Ce, Cf): Removed, known, Way, Check, Copy. -/
import Derived.Test.YteompacffdeekaaLa
import Derived.Test.YteompacffdeekaaSx30
namespace Go.Proofs.Yteompacffdeekaa.Sx
attribute [local irreducible] OkQ Ok OkP
set_option linter.unusedSimpArgs false
set_option linter.unusedVariables false

def remB (c : Int) : Bool := decide (c = 10 ∨ 15 ≤ c ∧ c ≤ 19)
def knownV (c : Int) : Int := if c < 1 ∨ 23 < c then 14 else c
def wayV (l : Int) : Int := if l < 0 ∨ 126 < l then 0 else if l % 2 = 0 then 1 else 2
theorem remBt {c : Int} : (remB c = true) = (c = 10 ∨ 15 ≤ c ∧ c ≤ 19) := by simp [remB]
theorem remBf {c : Int} : (remB c = false) = ¬ (c = 10 ∨ 15 ≤ c ∧ c ≤ 19) := by simp only [remB, decide_eq_false_iff_not]

def spansRemoved : Con := ⟨37, [(false, .int .u8)], [(false, .bool)], fun _ => True, fun x => (remB x.1, ()), false⟩
def spansKnown : Con := ⟨38, [(false, .int .u8)], [(false, .int .u8)], fun _ => True, fun x => (knownV x.1, ()), false⟩

set_option maxRecDepth 8000

theorem spansRemoved_ok : spansRemoved.Ok Try.prog := by
  refine con_q Try.func37 rfl (by decide) (fun x hx hp => run_ok (Cs := []) (stp := []) (inl := []) (unr := false) nil_ok 400 _ _ _ _ ?_) (by decide)
  obtain ⟨c, ⟨⟩⟩ := x
  simp (maxSteps := 4000000) only [go_sem, reduceIte, reduceCtorEq, Int.reduceEq, Nat.reduceEqDiff, Nat.reduceBEq, Int.reduceLE, Int.reduceLT, Int.reduceNeg, Nat.reduceAdd, Nat.reduceSub, Nat.reduceMul, Nat.reduceLeDiff, Int.reduceToNat, Int.reduceAdd, Int.reduceSub, Int.reduceMul, Try.f37, spansRemoved]
  (repeat' (first | (apply And.intro) | (intro _) | (show staB _ _ = true; kernel_rfl) | (show dynB _ _ = true; kernel_rfl) | (show dynP _ _ _ = true; kernel_rfl)))
  all_goals clear hp hx
  all_goals first | ((try simp only [bt, bf, decide_eq_true_eq, decide_eq_false_iff_not, Bool.and_eq_true, Bool.or_eq_true, Bool.and_eq_false_iff, Bool.or_eq_false_iff, Bool.not_eq_true', Bool.not_eq_false', remBt, remBf] at *); omega) | (rw [Bool.eq_iff_iff]; (try simp only [bt, bf, decide_eq_true_eq, decide_eq_false_iff_not, Bool.and_eq_true, Bool.or_eq_true, Bool.and_eq_false_iff, Bool.or_eq_false_iff, Bool.not_eq_true', Bool.not_eq_false', remBt, remBf] at *); omega)

theorem spansKnown_ok : spansKnown.Ok Try.prog := by
  refine con_q Try.func38 rfl (by decide) (fun x hx hp => run_ok (Cs := []) (stp := []) (inl := []) (unr := false) nil_ok 400 _ _ _ _ ?_) (by decide)
  obtain ⟨c, ⟨⟩⟩ := x
  simp (maxSteps := 4000000) only [go_sem, reduceIte, reduceCtorEq, Int.reduceEq, Nat.reduceEqDiff, Nat.reduceBEq, Int.reduceLE, Int.reduceLT, Int.reduceNeg, Nat.reduceAdd, Nat.reduceSub, Nat.reduceMul, Nat.reduceLeDiff, Int.reduceToNat, Int.reduceAdd, Int.reduceSub, Int.reduceMul, Try.f38, spansKnown]
  (repeat' (first | (apply And.intro) | (intro _) | (show staB _ _ = true; kernel_rfl) | (show dynB _ _ = true; kernel_rfl) | (show dynP _ _ _ = true; kernel_rfl)))
  all_goals clear hp hx
  all_goals (try simp only [bt, bf, decide_eq_true_eq, decide_eq_false_iff_not, Bool.and_eq_true, Bool.or_eq_true, Bool.and_eq_false_iff, Bool.or_eq_false_iff, Bool.not_eq_true', Bool.not_eq_false', knownV] at *)
  all_goals (repeat' split) <;> omega

/-- The place ahead of a place; -1 ahead of the first. -/
def ahd (ps : List Int) : Nat → Int
  | 0 => -1
  | i + 1 => ps.getD i 0
def Fine (ps cs : List Int) (i : Nat) : Prop := ahd ps i < ps.getD i 0 ∧ 1 ≤ cs.getD i 0 ∧ cs.getD i 0 ≤ 23 ∧ remB (cs.getD i 0) = false
instance (ps cs : List Int) (i : Nat) : Decidable (Fine ps cs i) := by unfold Fine; infer_instance
def OkS (ps cs : List Int) (l so eo : Int) : Prop := ps.length ≠ 0 ∧ ps.length = cs.length ∧ 0 ≤ l ∧ l ≤ 126 ∧ (so = 1 ∨ so = 2) ∧ (eo = 1 ∨ eo = 2) ∧ ∀ i, i < ps.length → Fine ps cs i
instance (ps cs : List Int) (l so eo : Int) : Decidable (OkS ps cs l so eo) := by unfold OkS; infer_instance
def chkV (ps cs : List Int) (l so eo : Int) : Int := if OkS ps cs l so eo then 0 else 170
theorem chkV_no {ps cs : List Int} {l so eo : Int} (h : ¬ OkS ps cs l so eo) : 170 = chkV ps cs l so eo := by rw [chkV, if_neg h]
theorem chkV_yes {ps cs : List Int} {l so eo : Int} (h : OkS ps cs l so eo) : 0 = chkV ps cs l so eo := by rw [chkV, if_pos h]
def OkSeq (s : tSeq.den) : Prop := OkS s.1 s.2.1 s.2.2.1 s.2.2.2.1 s.2.2.2.2.1
instance (s : tSeq.den) : Decidable (OkSeq s) := by unfold OkSeq; infer_instance
def checkV (s : tSeq.den) : Int := chkV s.1 s.2.1 s.2.2.1 s.2.2.2.1 s.2.2.2.2.1
theorem ahd_pos {ps : List Int} {i : Nat} (h : 0 < i) : ahd ps i = ps.getD (i - 1) 0 := by
  cases i with
  | zero => omega
  | succ i => rfl
theorem knownV_eq {c : Int} : (knownV c = c) = (1 ≤ c ∧ c ≤ 23 ∨ c = 14) := by
  unfold knownV
  refine propext ?_
  split <;> omega
theorem ahd_lt {ps cs : List Int} {i : Nat} (h : ∀ j, j < i → Fine ps cs j) : -1 ≤ ahd ps i ∧ ∀ j, j ≤ i → -1 ≤ ahd ps j := by
  have key : ∀ j, j ≤ i → -1 ≤ ahd ps j := by
    intro j
    induction j with
    | zero => intro _; show (-1 : Int) ≤ -1; omega
    | succ j ih =>
      intro hj
      have h1 := ih (by omega)
      have h2 := (h j (by omega)).1
      show -1 ≤ ps.getD j 0
      omega
  exact ⟨key i (Nat.le_refl _), key⟩

def edgeB (c : Int) : Bool := decide (c = 1 ∨ c = 2)
theorem edgeBt {c : Int} : (edgeB c = true) = (c = 1 ∨ c = 2) := by simp [edgeB]
theorem edgeBf {c : Int} : (edgeB c = false) = ¬ (c = 1 ∨ c = 2) := by simp only [edgeB, decide_eq_false_iff_not]
def checkEdge : Con := ⟨36, [(false, .int .u8)], [(false, .bool)], fun _ => True, fun x => (edgeB x.1, ()), false⟩
def spansCheck : Con := ⟨26, [(true, tSeq)], [(false, .int .i64)], fun _ => True, fun x => (checkV x.1, ()), false⟩

theorem checkEdge_ok : checkEdge.Ok Try.prog := by
  refine con_q Try.func36 rfl (by decide) (fun x hx hp => run_ok (Cs := []) (stp := []) (inl := []) (unr := false) nil_ok 400 _ _ _ _ ?_) (by decide)
  obtain ⟨c, ⟨⟩⟩ := x
  simp (maxSteps := 4000000) only [go_sem, reduceIte, reduceCtorEq, Int.reduceEq, Nat.reduceEqDiff, Nat.reduceBEq, Int.reduceLE, Int.reduceLT, Int.reduceNeg, Nat.reduceAdd, Nat.reduceSub, Nat.reduceMul, Nat.reduceLeDiff, Int.reduceToNat, Int.reduceAdd, Int.reduceSub, Int.reduceMul, Try.f36, checkEdge]
  simp [edgeB, Bool.decide_or]

theorem spansCheck_ok : spansCheck.Ok Try.prog := by
  refine con_q Try.func26 rfl (by decide) (fun x hx hp => run_ok (Cs := [checkEdge, spansRemoved, spansKnown]) (stp := []) (inl := []) (unr := false) (cons_ok checkEdge_ok (cons_ok spansRemoved_ok (cons_ok spansKnown_ok nil_ok))) 400 _ _ _ _ ?_) (by decide)
  obtain ⟨⟨(ps : List Int), (cs : List Int), (l : Int), (so : Int), (eo : Int), ⟨⟩⟩, ⟨⟩⟩ := x
  simp (maxSteps := 4000000) only [go_sem, reduceIte, reduceCtorEq, Int.reduceEq, Nat.reduceEqDiff, Nat.reduceBEq, Int.reduceLE, Int.reduceLT, Int.reduceNeg, Nat.reduceAdd, Nat.reduceSub, Nat.reduceMul, Nat.reduceLeDiff, Int.reduceToNat, Int.reduceAdd, Int.reduceSub, Int.reduceMul, Try.f26, spansCheck, checkV, checkEdge, spansRemoved, spansKnown]
  have hz1 : ps.length * 8 ≤ 140737488355328 := hx.1.1.1
  have hz2 : cs.length * 1 ≤ 140737488355328 := hx.1.2.1.1
  clear hp hx
  refine ⟨fun h => chkV_no fun g => ?_, fun h => ?_⟩
  · obtain ⟨g1, g2, g3, g4, g5, g6, _⟩ := g
    rw [edgeBf, edgeBf] at h
    omega
  · rw [edgeBt, edgeBt] at h
    have hok : ∀ f : ∀ i, i < ps.length → Fine ps cs i, OkS ps cs l so eo := fun f => ⟨by omega, by omega, by omega, by omega, by omega, by omega, f⟩
    refine OkQ.loop (α := Nat) [0, 2, 3, 4, 5, 6, 7, 8, 9, 10, 11, 12, 13, 14, 15, 16, 17, 18, 19, 20, 21, 22, 23, 24, 25, 26, 27, 28, 29, 30, 31, 32, 33, 34, 35, 36, 37, 38, 39, 40, 41, 42, 43, 44, 47, 48, 49, 50, 51, 52, 53, 54, 55, 56, 57, 58, 59, 60, 61, 62, 63, 64, 65, 66, 67, 68, 69, 70, 71, 72, 73, 74, 75, 76, 77, 78] (fun i => [(4, .s (.int .i64 (ahd ps i))), (47, .s (.int .i64 (i : Int)))]) (fun _ => []) (fun i => i ≤ ps.length ∧ ∀ j, j < i → Fine ps cs j) (fun i => ps.length - i) 0 ⟨by simp, by simp⟩ ?_ fun i hi => ?_
    · simp (maxSteps := 4000000) only [go_sem, reduceIte, reduceCtorEq, Int.reduceEq, Nat.reduceEqDiff, Nat.reduceBEq, Int.reduceLE, Int.reduceLT, Int.reduceNeg, Nat.reduceAdd, Nat.reduceSub, Nat.reduceMul, Nat.reduceLeDiff, Int.reduceToNat, Int.reduceAdd, Int.reduceSub, Int.reduceMul, checkEdge, spansRemoved, spansKnown]
      simp [ahd]
    · refine run_ok (Cs := [checkEdge, spansRemoved, spansKnown]) (stp := []) (inl := []) (unr := false) (cons_ok checkEdge_ok (cons_ok spansRemoved_ok (cons_ok spansKnown_ok nil_ok))) 400 _ _ _ _ ?_
      simp (maxSteps := 4000000) only [go_sem, reduceIte, reduceCtorEq, Int.reduceEq, Nat.reduceEqDiff, Nat.reduceBEq, Int.reduceLE, Int.reduceLT, Int.reduceNeg, Nat.reduceAdd, Nat.reduceSub, Nat.reduceMul, Nat.reduceLeDiff, Int.reduceToNat, Int.reduceAdd, Int.reduceSub, Int.reduceMul, checkEdge, spansRemoved, spansKnown]
      obtain ⟨hi, ht⟩ := hi
      (repeat' (first | (apply And.intro) | (intro _) | (show staB _ _ = true; kernel_rfl) | (show dynB _ _ = true; kernel_rfl) | (show dynP _ _ _ = true; kernel_rfl)))
      all_goals try omega
      all_goals try (rename_i hg; exact hg.2)
      · rename_i hg
        refine chkV_no fun g => ?_
        obtain ⟨g1, g2, g3, g4⟩ := g.2.2.2.2.2.2 i (by omega)
        rw [g4, knownV_eq] at hg
        simp only [Bool.false_eq_true, or_false] at hg
        omega
      · rename_i hg
        rw [knownV_eq] at hg
        obtain ⟨⟨g1, g2⟩, g3⟩ := hg
        refine ⟨i + 1, ⟨by omega, fun j hj => ?_⟩, by omega, rfl, by rw [wr_i64 (by omega) (by omega)]; simp⟩
        by_cases e : j < i
        · exact ht j e
        · obtain rfl : j = i := by omega
          exact ⟨by omega, by omega, by omega, g2⟩
      · exact chkV_yes (hok fun j hj => ht j (by omega))

def cloneInts : Con := ⟨46, [(false, tInts)], [(false, tInts)], fun _ => True, fun x => (x.1, ()), false⟩
def cloneClasses : Con := ⟨35, [(false, tClasses)], [(false, tClasses)], fun _ => True, fun x => (x.1, ()), false⟩
def spansCopy : Con := ⟨28, [(true, tSeq)], [(true, tSeq)], fun _ => True, fun x => (x.1, ()), false⟩

theorem cloneInts_ok : cloneInts.Ok Try.prog := by
  refine con_q Try.func46 rfl (by decide) (fun x hx hp => run_ok (Cs := []) (stp := []) (inl := []) (unr := false) nil_ok 400 _ _ _ _ ?_) (by decide)
  obtain ⟨xs, ⟨⟩⟩ := x
  have hz : xs.length * 8 ≤ 140737488355328 := hx.1.1
  simp (maxSteps := 4000000) only [go_sem, reduceIte, reduceCtorEq, Int.reduceEq, Nat.reduceEqDiff, Nat.reduceBEq, Int.reduceLE, Int.reduceLT, Int.reduceNeg, Nat.reduceAdd, Nat.reduceSub, Nat.reduceMul, Nat.reduceLeDiff, Int.reduceToNat, Int.reduceAdd, Int.reduceSub, Int.reduceMul, Try.f46, cloneInts]
  first | exact ⟨id, hz⟩ | exact hz

theorem cloneClasses_ok : cloneClasses.Ok Try.prog := by
  refine con_q Try.func35 rfl (by decide) (fun x hx hp => run_ok (Cs := []) (stp := []) (inl := []) (unr := false) nil_ok 400 _ _ _ _ ?_) (by decide)
  obtain ⟨xs, ⟨⟩⟩ := x
  have hz : xs.length * 1 ≤ 140737488355328 := hx.1.1
  simp (maxSteps := 4000000) only [go_sem, reduceIte, reduceCtorEq, Int.reduceEq, Nat.reduceEqDiff, Nat.reduceBEq, Int.reduceLE, Int.reduceLT, Int.reduceNeg, Nat.reduceAdd, Nat.reduceSub, Nat.reduceMul, Nat.reduceLeDiff, Int.reduceToNat, Int.reduceAdd, Int.reduceSub, Int.reduceMul, Try.f35, cloneClasses]
  first | exact ⟨id, hz⟩ | exact hz

theorem spansCopy_ok : spansCopy.Ok Try.prog := by
  refine con_q Try.func28 rfl (by decide) (fun x hx hp => run_ok (Cs := [cloneInts, cloneClasses]) (stp := []) (inl := []) (unr := false) (cons_ok cloneInts_ok (cons_ok cloneClasses_ok nil_ok)) 400 _ _ _ _ ?_) (by decide)
  obtain ⟨⟨(ps : List Int), (cs : List Int), (l : Int), (so : Int), (eo : Int), ⟨⟩⟩, ⟨⟩⟩ := x
  simp (maxSteps := 4000000) only [go_sem, reduceIte, reduceCtorEq, Int.reduceEq, Nat.reduceEqDiff, Nat.reduceBEq, Int.reduceLE, Int.reduceLT, Int.reduceNeg, Nat.reduceAdd, Nat.reduceSub, Nat.reduceMul, Nat.reduceLeDiff, Int.reduceToNat, Int.reduceAdd, Int.reduceSub, Int.reduceMul, Try.f28, spansCopy, cloneInts, cloneClasses]

theorem chkV_eq {ps cs : List Int} {l so eo : Int} : (chkV ps cs l so eo = 0) = OkS ps cs l so eo := by unfold chkV; split <;> simp [*]

end Go.Proofs.Yteompacffdeekaa.Sx
