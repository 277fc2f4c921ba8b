/- Contracts: rest's and ref20's small functions. -/
import Derived.Test.YteopmgddchnefaaFa
import Derived.Test.YteopmgddchnefaaSx27
namespace Go.Proofs.Yteopmgddchnefaa.Sx
attribute [local irreducible] OkQ Ok
set_option linter.unusedSimpArgs false
set_option linter.unusedVariables false

def sideV (c : Int) : Int := if c = 1 then 1 else if c = 2 ∨ c = 4 ∨ c = 7 then 2 else 0
def settB (c : Int) : Bool := decide (c = 1 ∨ c = 2 ∨ c = 4 ∨ c = 7)
def neutB (c : Int) : Bool := decide (11 ≤ c ∧ c ≤ 14 ∨ 20 ≤ c ∨ c < 1)
def earlyB (c : Int) : Bool := decide (c = 3 ∨ c = 5 ∨ c = 6 ∨ c = 8 ∨ c = 9)
def levelV (l c : Int) : Int := if l < 0 ∨ 125 < l ∨ settB c = false then 0 else if l % 2 = 1 then (if c = 2 then l else l+1) else if c = 1 then l else if c = 2 then l + 1 else l + 2
def levelB (l c : Int) : Bool := decide (0 ≤ l ∧ l ≤ 125) && settB c

theorem sideV1 {c : Int} : (sideV c = 1) = (c = 1) := by unfold sideV; (repeat' split) <;> simp_all
theorem sideV2 {c : Int} : (sideV c = 2) = (c = 2 ∨ c = 4 ∨ c = 7) := by unfold sideV; (repeat' split) <;> simp_all <;> omega
theorem settBt {c : Int} : (settB c = true) = (c = 1 ∨ c = 2 ∨ c = 4 ∨ c = 7) := by simp [settB]
theorem settBf {c : Int} : (settB c = false) = ¬ (c = 1 ∨ c = 2 ∨ c = 4 ∨ c = 7) := by simp only [settB, decide_eq_false_iff_not]
theorem neutBt {c : Int} : (neutB c = true) = (11 ≤ c ∧ c ≤ 14 ∨ 20 ≤ c ∨ c < 1) := by simp [neutB]
theorem neutBf {c : Int} : (neutB c = false) = ¬ (11 ≤ c ∧ c ≤ 14 ∨ 20 ≤ c ∨ c < 1) := by simp only [neutB, decide_eq_false_iff_not]

def restSide : Con := ⟨18, [(false, .int .u8)], [(false, .int .u8), (false, .bool)], fun _ => True, fun x => (sideV x.1, settB x.1, ()), false⟩
def restNeutral : Con := ⟨21, [(false, .int .u8)], [(false, .bool)], fun _ => True, fun x => (neutB x.1, ()), false⟩
def restLevel : Con := ⟨19, [(false, .int .i8), (false, .int .u8)], [(false, .int .i8), (false, .bool)], fun _ => True, fun x => (levelV x.1 x.2.1, levelB x.1 x.2.1, ()), false⟩
def refSide : Con := ⟨23, [(false, .int .u8)], [(false, .int .u8)], fun _ => True, fun x => (sideV x.1, ()), false⟩
def refNeutral : Con := ⟨22, [(false, .int .u8)], [(false, .bool)], fun _ => True, fun x => (neutB x.1, ()), false⟩
def refLevel : Con := ⟨20, [(false, .int .i8), (false, .int .u8)], [(false, .int .i8), (false, .bool)], fun _ => True, fun x => (levelV x.1 x.2.1, levelB x.1 x.2.1, ()), false⟩
def refEarly : Con := ⟨55, [(false, .int .u8)], [(false, .bool)], fun _ => True, fun x => (earlyB x.1, ()), false⟩

set_option maxRecDepth 8000

theorem restSide_ok : restSide.Ok Try.prog := by
  refine con_q Try.func18 rfl (by decide) (fun x hx hp => run_ok (Cs := []) (stp := []) (inl := []) (unr := false) nil_ok 400 _ _ _ _ ?_) (by decide)
  obtain ⟨c, ⟨⟩⟩ := x
  simp (maxSteps := 4000000) only [go_sem, reduceIte, reduceCtorEq, Int.reduceEq, Nat.reduceEqDiff, Nat.reduceBEq, Int.reduceLE, Int.reduceLT, Int.reduceNeg, Nat.reduceAdd, Nat.reduceSub, Nat.reduceMul, Nat.reduceLeDiff, Int.reduceToNat, Int.reduceAdd, Int.reduceSub, Int.reduceMul, Try.f18, restSide]
  (repeat' (first | (apply And.intro) | (intro _) | (show staB _ _ = true; kernel_rfl) | (show dynB _ _ = true; kernel_rfl)))
  all_goals clear hp hx
  all_goals simp_all [sideV, settB]

theorem refSide_ok : refSide.Ok Try.prog := by
  refine con_q Try.func23 rfl (by decide) (fun x hx hp => run_ok (Cs := []) (stp := []) (inl := []) (unr := false) nil_ok 400 _ _ _ _ ?_) (by decide)
  obtain ⟨c, ⟨⟩⟩ := x
  simp (maxSteps := 4000000) only [go_sem, reduceIte, reduceCtorEq, Int.reduceEq, Nat.reduceEqDiff, Nat.reduceBEq, Int.reduceLE, Int.reduceLT, Int.reduceNeg, Nat.reduceAdd, Nat.reduceSub, Nat.reduceMul, Nat.reduceLeDiff, Int.reduceToNat, Int.reduceAdd, Int.reduceSub, Int.reduceMul, Try.f23, refSide]
  (repeat' (first | (apply And.intro) | (intro _) | (show staB _ _ = true; kernel_rfl) | (show dynB _ _ = true; kernel_rfl)))
  all_goals clear hp hx
  all_goals simp_all [sideV]

theorem refEarly_ok : refEarly.Ok Try.prog := by
  refine con_q Try.func55 rfl (by decide) (fun x hx hp => run_ok (Cs := []) (stp := []) (inl := []) (unr := false) nil_ok 400 _ _ _ _ ?_) (by decide)
  obtain ⟨c, ⟨⟩⟩ := x
  simp (maxSteps := 4000000) only [go_sem, reduceIte, reduceCtorEq, Int.reduceEq, Nat.reduceEqDiff, Nat.reduceBEq, Int.reduceLE, Int.reduceLT, Int.reduceNeg, Nat.reduceAdd, Nat.reduceSub, Nat.reduceMul, Nat.reduceLeDiff, Int.reduceToNat, Int.reduceAdd, Int.reduceSub, Int.reduceMul, Try.f55, refEarly]
  (repeat' (first | (apply And.intro) | (intro _) | (show staB _ _ = true; kernel_rfl) | (show dynB _ _ = true; kernel_rfl)))
  all_goals clear hp hx
  all_goals simp_all [earlyB]

theorem restNeutral_ok : restNeutral.Ok Try.prog := by
  refine con_q Try.func21 rfl (by decide) (fun x hx hp => run_ok (Cs := []) (stp := []) (inl := []) (unr := false) nil_ok 400 _ _ _ _ ?_) (by decide)
  obtain ⟨c, ⟨⟩⟩ := x
  simp (maxSteps := 4000000) only [go_sem, reduceIte, reduceCtorEq, Int.reduceEq, Nat.reduceEqDiff, Nat.reduceBEq, Int.reduceLE, Int.reduceLT, Int.reduceNeg, Nat.reduceAdd, Nat.reduceSub, Nat.reduceMul, Nat.reduceLeDiff, Int.reduceToNat, Int.reduceAdd, Int.reduceSub, Int.reduceMul, Try.f21, restNeutral]
  have h1 : 0 ≤ c := hx.1.1
  (repeat' (first | (apply And.intro) | (intro _) | (show staB _ _ = true; kernel_rfl) | (show dynB _ _ = true; kernel_rfl)))
  all_goals clear hp hx
  all_goals first | ((try simp only [bt, bf, decide_eq_true_eq, decide_eq_false_iff_not, Bool.and_eq_true, Bool.or_eq_true, Bool.and_eq_false_iff, Bool.or_eq_false_iff, Bool.not_eq_true', Bool.not_eq_false', neutBt, neutBf] at *); omega) | (rw [Bool.eq_iff_iff]; (try simp only [bt, bf, decide_eq_true_eq, decide_eq_false_iff_not, Bool.and_eq_true, Bool.or_eq_true, Bool.and_eq_false_iff, Bool.or_eq_false_iff, Bool.not_eq_true', Bool.not_eq_false', neutBt, neutBf] at *); omega)

theorem refNeutral_ok : refNeutral.Ok Try.prog := by
  refine con_q Try.func22 rfl (by decide) (fun x hx hp => run_ok (Cs := []) (stp := []) (inl := []) (unr := false) nil_ok 400 _ _ _ _ ?_) (by decide)
  obtain ⟨c, ⟨⟩⟩ := x
  simp (maxSteps := 4000000) only [go_sem, reduceIte, reduceCtorEq, Int.reduceEq, Nat.reduceEqDiff, Nat.reduceBEq, Int.reduceLE, Int.reduceLT, Int.reduceNeg, Nat.reduceAdd, Nat.reduceSub, Nat.reduceMul, Nat.reduceLeDiff, Int.reduceToNat, Int.reduceAdd, Int.reduceSub, Int.reduceMul, Try.f22, refNeutral]
  have h1 : 0 ≤ c := hx.1.1
  (repeat' (first | (apply And.intro) | (intro _) | (show staB _ _ = true; kernel_rfl) | (show dynB _ _ = true; kernel_rfl)))
  all_goals clear hp hx
  all_goals first | ((try simp only [bt, bf, decide_eq_true_eq, decide_eq_false_iff_not, Bool.and_eq_true, Bool.or_eq_true, Bool.and_eq_false_iff, Bool.or_eq_false_iff, Bool.not_eq_true', Bool.not_eq_false', neutBt, neutBf] at *); omega) | (rw [Bool.eq_iff_iff]; (try simp only [bt, bf, decide_eq_true_eq, decide_eq_false_iff_not, Bool.and_eq_true, Bool.or_eq_true, Bool.and_eq_false_iff, Bool.or_eq_false_iff, Bool.not_eq_true', Bool.not_eq_false', neutBt, neutBf] at *); omega)

theorem restLevel_ok : restLevel.Ok Try.prog := by
  refine con_q Try.func19 rfl (by decide) (fun x hx hp => run_ok (Cs := [restSide]) (stp := []) (inl := []) (unr := false) (cons_ok restSide_ok nil_ok) 400 _ _ _ _ ?_) (by decide)
  obtain ⟨l, c, ⟨⟩⟩ := x
  simp (maxSteps := 4000000) only [go_sem, reduceIte, reduceCtorEq, Int.reduceEq, Nat.reduceEqDiff, Nat.reduceBEq, Int.reduceLE, Int.reduceLT, Int.reduceNeg, Nat.reduceAdd, Nat.reduceSub, Nat.reduceMul, Nat.reduceLeDiff, Int.reduceToNat, Int.reduceAdd, Int.reduceSub, Int.reduceMul, Try.f19, restLevel, restSide]
  have h1 : -128 ≤ l := hx.1.1
  have h2 : l ≤ 127 := hx.1.2
  intro _
  (repeat' (first | (apply And.intro) | (intro _) | (show staB _ _ = true; kernel_rfl) | (show dynB _ _ = true; kernel_rfl)))
  all_goals clear hp hx
  all_goals first | rw [tmod2 (by omega)] at * | skip
  all_goals (try simp only [bt, bf, decide_eq_true_eq, decide_eq_false_iff_not, Bool.and_eq_true, Bool.or_eq_true, Bool.and_eq_false_iff, Bool.or_eq_false_iff, Bool.not_eq_true', Bool.not_eq_false', sideV1, sideV2, settBt, settBf, levelB, levelV] at *)
  all_goals try omega
  all_goals try rw [wr_i8 (by omega) (by omega)]
  all_goals (repeat' split) <;> omega

theorem refLevel_ok : refLevel.Ok Try.prog := by
  refine con_q Try.func20 rfl (by decide) (fun x hx hp => run_ok (Cs := []) (stp := []) (inl := []) (unr := false) nil_ok 400 _ _ _ _ ?_) (by decide)
  obtain ⟨l, c, ⟨⟩⟩ := x
  simp (maxSteps := 4000000) only [go_sem, reduceIte, reduceCtorEq, Int.reduceEq, Nat.reduceEqDiff, Nat.reduceBEq, Int.reduceLE, Int.reduceLT, Int.reduceNeg, Nat.reduceAdd, Nat.reduceSub, Nat.reduceMul, Nat.reduceLeDiff, Int.reduceToNat, Int.reduceAdd, Int.reduceSub, Int.reduceMul, Try.f20, refLevel]
  have h1 : -128 ≤ l := hx.1.1
  have h2 : l ≤ 127 := hx.1.2
  (repeat' (first | (apply And.intro) | (intro _) | (show staB _ _ = true; kernel_rfl) | (show dynB _ _ = true; kernel_rfl)))
  all_goals clear hp hx
  all_goals first | rw [tmod2 (by omega)] at * | skip
  all_goals (try simp only [bt, bf, decide_eq_true_eq, decide_eq_false_iff_not, Bool.and_eq_true, Bool.or_eq_true, Bool.and_eq_false_iff, Bool.or_eq_false_iff, Bool.not_eq_true', Bool.not_eq_false', sideV1, sideV2, settBt, settBf, levelB, levelV] at *)
  all_goals try omega
  all_goals try rw [wr_i8 (by omega) (by omega)]
  all_goals (repeat' split) <;> omega

end Go.Proofs.Yteopmgddchnefaa.Sx
