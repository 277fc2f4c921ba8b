/- Contracts: the small functions of spans and ref17. -/
import Derived.Test.YteopmgddchnefaaCa
import Derived.Test.YteopmgddchnefaaCb
namespace Go.Proofs.Yteopmgddchnefaa.Sx
attribute [local irreducible] OkQ Ok
set_option linter.unusedSimpArgs false
set_option linter.unusedVariables false

def remB (c : Int) : Bool := decide (c = 10 ∨ 15 ≤ c ∧ c ≤ 19)
def knownV (c : Int) : Int := if c < 1 ∨ 23 < c then 14 else c
def wayV (l : Int) : Int := if l < 0 ∨ 126 < l then 0 else if l % 2 = 0 then 1 else 2
theorem remBt {c : Int} : (remB c = true) = (c = 10 ∨ 15 ≤ c ∧ c ≤ 19) := by simp [remB]
theorem remBf {c : Int} : (remB c = false) = ¬ (c = 10 ∨ 15 ≤ c ∧ c ≤ 19) := by simp only [remB, decide_eq_false_iff_not]

def spansRemoved : Con := ⟨58, [(false, .int .u8)], [(false, .bool)], fun _ => True, fun x => (remB x.1, ()), false⟩
def refRemoved : Con := ⟨73, [(false, .int .u8)], [(false, .bool)], fun _ => True, fun x => (remB x.1, ()), false⟩
def spansKnown : Con := ⟨59, [(false, .int .u8)], [(false, .int .u8)], fun _ => True, fun x => (knownV x.1, ()), false⟩
def spansWay : Con := ⟨37, [(false, .int .i8)], [(false, .int .u8)], fun _ => True, fun x => (wayV x.1, ()), false⟩
def refWay : Con := ⟨56, [(false, .int .i8)], [(false, .int .u8)], fun _ => True, fun x => (wayV x.1, ()), false⟩
def sameSeq (a b : tSeq.den) : Bool := decide (a.1 = b.1) && (decide (a.2.1 = b.2.1) && (decide (a.2.2.1 = b.2.2.1) && (decide (a.2.2.2.1 = b.2.2.2.1) && decide (a.2.2.2.2.1 = b.2.2.2.2.1))))
def spansSame : Con := ⟨36, [(true, tSeq), (true, tSeq)], [(false, .bool)], fun _ => True, fun x => (sameSeq x.1 x.2.1, ()), false⟩

set_option maxRecDepth 8000

theorem spansRemoved_ok : spansRemoved.Ok Try.prog := by
  refine con_q Try.func58 rfl (by decide) (fun x hx hp => run_ok (Cs := []) (stp := []) (inl := []) (unr := false) nil_ok 400 _ _ _ _ ?_) (by decide)
  obtain ⟨c, ⟨⟩⟩ := x
  simp (maxSteps := 4000000) only [go_sem, reduceIte, reduceCtorEq, Int.reduceEq, Nat.reduceEqDiff, Nat.reduceBEq, Int.reduceLE, Int.reduceLT, Int.reduceNeg, Nat.reduceAdd, Nat.reduceSub, Nat.reduceMul, Nat.reduceLeDiff, Int.reduceToNat, Int.reduceAdd, Int.reduceSub, Int.reduceMul, Try.f58, spansRemoved]
  (repeat' (first | (apply And.intro) | (intro _) | (show staB _ _ = true; kernel_rfl) | (show dynB _ _ = true; kernel_rfl)))
  all_goals clear hp hx
  all_goals first | ((try simp only [bt, bf, decide_eq_true_eq, decide_eq_false_iff_not, Bool.and_eq_true, Bool.or_eq_true, Bool.and_eq_false_iff, Bool.or_eq_false_iff, Bool.not_eq_true', Bool.not_eq_false', remBt, remBf] at *); omega) | (rw [Bool.eq_iff_iff]; (try simp only [bt, bf, decide_eq_true_eq, decide_eq_false_iff_not, Bool.and_eq_true, Bool.or_eq_true, Bool.and_eq_false_iff, Bool.or_eq_false_iff, Bool.not_eq_true', Bool.not_eq_false', remBt, remBf] at *); omega)

theorem refRemoved_ok : refRemoved.Ok Try.prog := by
  refine con_q Try.func73 rfl (by decide) (fun x hx hp => run_ok (Cs := []) (stp := []) (inl := []) (unr := false) nil_ok 400 _ _ _ _ ?_) (by decide)
  obtain ⟨c, ⟨⟩⟩ := x
  simp (maxSteps := 4000000) only [go_sem, reduceIte, reduceCtorEq, Int.reduceEq, Nat.reduceEqDiff, Nat.reduceBEq, Int.reduceLE, Int.reduceLT, Int.reduceNeg, Nat.reduceAdd, Nat.reduceSub, Nat.reduceMul, Nat.reduceLeDiff, Int.reduceToNat, Int.reduceAdd, Int.reduceSub, Int.reduceMul, Try.f73, refRemoved]
  (repeat' (first | (apply And.intro) | (intro _) | (show staB _ _ = true; kernel_rfl) | (show dynB _ _ = true; kernel_rfl)))
  all_goals clear hp hx
  all_goals first | ((try simp only [bt, bf, decide_eq_true_eq, decide_eq_false_iff_not, Bool.and_eq_true, Bool.or_eq_true, Bool.and_eq_false_iff, Bool.or_eq_false_iff, Bool.not_eq_true', Bool.not_eq_false', remBt, remBf] at *); omega) | (rw [Bool.eq_iff_iff]; (try simp only [bt, bf, decide_eq_true_eq, decide_eq_false_iff_not, Bool.and_eq_true, Bool.or_eq_true, Bool.and_eq_false_iff, Bool.or_eq_false_iff, Bool.not_eq_true', Bool.not_eq_false', remBt, remBf] at *); omega)

theorem spansKnown_ok : spansKnown.Ok Try.prog := by
  refine con_q Try.func59 rfl (by decide) (fun x hx hp => run_ok (Cs := []) (stp := []) (inl := []) (unr := false) nil_ok 400 _ _ _ _ ?_) (by decide)
  obtain ⟨c, ⟨⟩⟩ := x
  simp (maxSteps := 4000000) only [go_sem, reduceIte, reduceCtorEq, Int.reduceEq, Nat.reduceEqDiff, Nat.reduceBEq, Int.reduceLE, Int.reduceLT, Int.reduceNeg, Nat.reduceAdd, Nat.reduceSub, Nat.reduceMul, Nat.reduceLeDiff, Int.reduceToNat, Int.reduceAdd, Int.reduceSub, Int.reduceMul, Try.f59, spansKnown]
  (repeat' (first | (apply And.intro) | (intro _) | (show staB _ _ = true; kernel_rfl) | (show dynB _ _ = true; kernel_rfl)))
  all_goals clear hp hx
  all_goals (try simp only [bt, bf, decide_eq_true_eq, decide_eq_false_iff_not, Bool.and_eq_true, Bool.or_eq_true, Bool.and_eq_false_iff, Bool.or_eq_false_iff, Bool.not_eq_true', Bool.not_eq_false', knownV] at *)
  all_goals (repeat' split) <;> omega

theorem spansWay_ok : spansWay.Ok Try.prog := by
  refine con_q Try.func37 rfl (by decide) (fun x hx hp => run_ok (Cs := []) (stp := []) (inl := []) (unr := false) nil_ok 400 _ _ _ _ ?_) (by decide)
  obtain ⟨l, ⟨⟩⟩ := x
  simp (maxSteps := 4000000) only [go_sem, reduceIte, reduceCtorEq, Int.reduceEq, Nat.reduceEqDiff, Nat.reduceBEq, Int.reduceLE, Int.reduceLT, Int.reduceNeg, Nat.reduceAdd, Nat.reduceSub, Nat.reduceMul, Nat.reduceLeDiff, Int.reduceToNat, Int.reduceAdd, Int.reduceSub, Int.reduceMul, Try.f37, spansWay]
  (repeat' (first | (apply And.intro) | (intro _) | (show staB _ _ = true; kernel_rfl) | (show dynB _ _ = true; kernel_rfl)))
  all_goals clear hp hx
  all_goals (try simp only [bt, bf, decide_eq_true_eq, decide_eq_false_iff_not, Bool.and_eq_true, Bool.or_eq_true, Bool.and_eq_false_iff, Bool.or_eq_false_iff, Bool.not_eq_true', Bool.not_eq_false', wayV] at *)
  all_goals first | rw [tmod2 (by omega)] at * | skip
  all_goals (repeat' split) <;> omega

theorem refWay_ok : refWay.Ok Try.prog := by
  refine con_q Try.func56 rfl (by decide) (fun x hx hp => run_ok (Cs := []) (stp := []) (inl := []) (unr := false) nil_ok 400 _ _ _ _ ?_) (by decide)
  obtain ⟨l, ⟨⟩⟩ := x
  simp (maxSteps := 4000000) only [go_sem, reduceIte, reduceCtorEq, Int.reduceEq, Nat.reduceEqDiff, Nat.reduceBEq, Int.reduceLE, Int.reduceLT, Int.reduceNeg, Nat.reduceAdd, Nat.reduceSub, Nat.reduceMul, Nat.reduceLeDiff, Int.reduceToNat, Int.reduceAdd, Int.reduceSub, Int.reduceMul, Try.f56, refWay]
  (repeat' (first | (apply And.intro) | (intro _) | (show staB _ _ = true; kernel_rfl) | (show dynB _ _ = true; kernel_rfl)))
  all_goals clear hp hx
  all_goals (try simp only [bt, bf, decide_eq_true_eq, decide_eq_false_iff_not, Bool.and_eq_true, Bool.or_eq_true, Bool.and_eq_false_iff, Bool.or_eq_false_iff, Bool.not_eq_true', Bool.not_eq_false', wayV] at *)
  all_goals first | rw [tmod2 (by omega)] at * | skip
  all_goals (repeat' split) <;> omega

end Go.Proofs.Yteopmgddchnefaa.Sx
