/- Contracts: weak.Rule, rule by rule. -/
import Derived.Test.YteompacffdeekaaLx
namespace Go.Proofs.Yteompacffdeekaa.Sx
attribute [local irreducible] OkQ Ok OkP
set_option linter.unusedSimpArgs false
set_option linter.unusedVariables false
theorem bIWc27 : bodyI Try.prog 27 = bodyF Try.f27 := by kernel_rfl
set_option maxRecDepth 8000

def ruB (ps cs : List Int) (l so eo n : Int) : Prop := OkS ps cs l so eo ∧ 1 ≤ n ∧ n ≤ 7
instance (ps cs : List Int) (l so eo n : Int) : Decidable (ruB ps cs l so eo n) := by unfold ruB; infer_instance
def ruleE (n : Int) (s : tSeq.den) : Int := if OkSeq s then (if 1 ≤ n ∧ n ≤ 7 then 0 else 180) else 170
def ruleV (n : Int) (s : tSeq.den) : tSeq.den := if OkSeq s ∧ 1 ≤ n ∧ n ≤ 7 then (s.1, ruleC n s.2.2.2.1 s.2.1, s.2.2.1, s.2.2.2.1, s.2.2.2.2.1, ()) else ([], [], 0, 0, 0, ())
theorem ruleE_ok {n : Int} {s : tSeq.den} (h : OkSeq s) (h1 : 1 ≤ n) (h2 : n ≤ 7) : ruleE n s = 0 := by rw [ruleE, if_pos h, if_pos ⟨h1, h2⟩]
theorem ruleV_ok {n : Int} {s : tSeq.den} (h : OkSeq s) (h1 : 1 ≤ n) (h2 : n ≤ 7) : ruleV n s = (s.1, ruleC n s.2.2.2.1 s.2.1, s.2.2.1, s.2.2.2.1, s.2.2.2.2.1, ()) := by rw [ruleV, if_pos ⟨h, h1, h2⟩]

def weakRule0 : Con := ⟨14, [(false, .int .i64), (true, tSeq)], [(true, tSeq), (false, .int .i64)], fun x => ¬ (OkSeq x.2.1 ∧ 1 ≤ (x.1 : Int) ∧ (x.1 : Int) ≤ 7), fun x => (ruleV x.1 x.2.1, ruleE x.1 x.2.1, ()), false⟩
def weakRule1 : Con := ⟨14, [(false, .int .i64), (true, tSeq)], [(true, tSeq), (false, .int .i64)], fun x => OkSeq x.2.1 ∧ (x.1 : Int) = 1, fun x => (ruleV x.1 x.2.1, ruleE x.1 x.2.1, ()), false⟩
def weakRule2 : Con := ⟨14, [(false, .int .i64), (true, tSeq)], [(true, tSeq), (false, .int .i64)], fun x => OkSeq x.2.1 ∧ (x.1 : Int) = 2, fun x => (ruleV x.1 x.2.1, ruleE x.1 x.2.1, ()), false⟩
def weakRule3 : Con := ⟨14, [(false, .int .i64), (true, tSeq)], [(true, tSeq), (false, .int .i64)], fun x => OkSeq x.2.1 ∧ (x.1 : Int) = 3, fun x => (ruleV x.1 x.2.1, ruleE x.1 x.2.1, ()), false⟩
def weakRule4 : Con := ⟨14, [(false, .int .i64), (true, tSeq)], [(true, tSeq), (false, .int .i64)], fun x => OkSeq x.2.1 ∧ (x.1 : Int) = 4, fun x => (ruleV x.1 x.2.1, ruleE x.1 x.2.1, ()), false⟩
def weakRule5 : Con := ⟨14, [(false, .int .i64), (true, tSeq)], [(true, tSeq), (false, .int .i64)], fun x => OkSeq x.2.1 ∧ (x.1 : Int) = 5, fun x => (ruleV x.1 x.2.1, ruleE x.1 x.2.1, ()), false⟩
def weakRule6 : Con := ⟨14, [(false, .int .i64), (true, tSeq)], [(true, tSeq), (false, .int .i64)], fun x => OkSeq x.2.1 ∧ (x.1 : Int) = 6, fun x => (ruleV x.1 x.2.1, ruleE x.1 x.2.1, ()), false⟩
def weakRule7 : Con := ⟨14, [(false, .int .i64), (true, tSeq)], [(true, tSeq), (false, .int .i64)], fun x => OkSeq x.2.1 ∧ (x.1 : Int) = 7, fun x => (ruleV x.1 x.2.1, ruleE x.1 x.2.1, ()), false⟩

theorem weakRule0_ok : weakRule0.Ok Try.prog := by
  refine con_q Try.func14 rfl (by decide) (fun x hx hp => run_ok (Cs := [spansCheck, spansCopy]) (stp := [8]) (inl := [27]) (unr := false) (cons_ok spansCheck_ok (cons_ok spansCopy_ok nil_ok)) 400 _ _ _ _ ?_) (by decide)
  obtain ⟨(n : Int), ⟨(ps : List Int), (cs : List Int), (l : Int), (so : Int), (eo : Int), ⟨⟩⟩, ⟨⟩⟩ := x
  have hp : ¬ (OkS ps cs l so eo ∧ 1 ≤ n ∧ n ≤ 7) := hp
  have h2 : ruleV n (ps, cs, l, so, eo, ()) = ([], [], 0, 0, 0, ()) := if_neg hp
  have h3 : ruleE n (ps, cs, l, so, eo, ()) = if OkS ps cs l so eo then 180 else 170 := by
    show (if OkS ps cs l so eo then (if 1 ≤ n ∧ n ≤ 7 then (0 : Int) else 180) else 170) = _
    by_cases h : OkS ps cs l so eo
    · rw [if_pos h, if_pos h, if_neg fun g => hp ⟨h, g⟩]
    · rw [if_neg h, if_neg h]
  have h5 : checkV (ps, cs, l, so, eo, ()) = if OkS ps cs l so eo then 0 else 170 := rfl
  clear hx
  by_cases hok : OkS ps cs l so eo
  · rw [if_pos hok] at h3 h5
    simp (maxSteps := 4000000) only [go_sem, reduceIte, reduceCtorEq, Int.reduceEq, Nat.reduceEqDiff, Nat.reduceBEq, Int.reduceLE, Int.reduceLT, Int.reduceNeg, Nat.reduceAdd, Nat.reduceSub, Nat.reduceMul, Nat.reduceLeDiff, Int.reduceToNat, Int.reduceAdd, Int.reduceSub, Int.reduceMul, Try.f14, weakRule0, h2, h3, h5, bIWc27, Try.f27, spansCheck, spansCopy]
    (repeat' (first | (apply And.intro) | (intro _) | (show staB _ _ = true; kernel_rfl) | (show dynB _ _ = true; kernel_rfl) | (show dynP _ _ _ = true; kernel_rfl)))
    all_goals try omega
    exact absurd ⟨hok, by omega, by omega⟩ hp
  · rw [if_neg hok] at h3 h5
    simp (maxSteps := 4000000) only [go_sem, reduceIte, reduceCtorEq, Int.reduceEq, Nat.reduceEqDiff, Nat.reduceBEq, Int.reduceLE, Int.reduceLT, Int.reduceNeg, Nat.reduceAdd, Nat.reduceSub, Nat.reduceMul, Nat.reduceLeDiff, Int.reduceToNat, Int.reduceAdd, Int.reduceSub, Int.reduceMul, Try.f14, weakRule0, h2, h3, h5, bIWc27, Try.f27, spansCheck, spansCopy]
    (repeat' (first | (apply And.intro) | (intro _) | (show staB _ _ = true; kernel_rfl) | (show dynB _ _ = true; kernel_rfl) | (show dynP _ _ _ = true; kernel_rfl)))
    all_goals try omega

end Go.Proofs.Yteompacffdeekaa.Sx
