/- Contracts: Rule and Resolve, the document's and the program's. -/
import Derived.Test.YteompacffdeekaaWd
import Derived.Test.YteompacffdeekaaWr1
import Derived.Test.YteompacffdeekaaWr2
import Derived.Test.YteompacffdeekaaWr3
import Derived.Test.YteompacffdeekaaWr4
import Derived.Test.YteompacffdeekaaWr5
import Derived.Test.YteompacffdeekaaWr6
import Derived.Test.YteompacffdeekaaWr7
namespace Go.Proofs.Yteompacffdeekaa.Sx
attribute [local irreducible] OkQ Ok OkP
set_option linter.unusedSimpArgs false
set_option linter.unusedVariables false
theorem bIWe27 : bodyI Try.prog 27 = bodyF Try.f27 := by kernel_rfl
set_option maxRecDepth 8000

def ref18Rule : Con := ⟨19, [(false, .int .i64), (false, tClasses), (false, .int .u8)], [(false, tClasses)], fun _ => True, fun x => (ruleC x.1 x.2.2.1 x.2.1, ()), false⟩
def weakRule : Con := ⟨14, [(false, .int .i64), (true, tSeq)], [(true, tSeq), (false, .int .i64)], fun _ => True, fun x => (ruleV x.1 x.2.1, ruleE x.1 x.2.1, ()), false⟩

theorem weakRule_ok : weakRule.Ok Try.prog := by
  refine ⟨weakRule0_ok.enters, fun S w vs x hS hr hwf _ i => ?_⟩
  by_cases h : OkSeq x.2.1 ∧ 1 ≤ (x.1 : Int) ∧ (x.1 : Int) ≤ 7
  · obtain ⟨hok, h1, h7⟩ := h
    have hc : (x.1 : Int) = 1 ∨ (x.1 : Int) = 2 ∨ (x.1 : Int) = 3 ∨ (x.1 : Int) = 4 ∨ (x.1 : Int) = 5 ∨ (x.1 : Int) = 6 ∨ (x.1 : Int) = 7 := by
      have key : ∀ n : Int, 1 ≤ n → n ≤ 7 → n = 1 ∨ n = 2 ∨ n = 3 ∨ n = 4 ∨ n = 5 ∨ n = 6 ∨ n = 7 := fun n a b => by omega
      exact key _ h1 h7
    rcases hc with e | e | e | e | e | e | e
    · exact weakRule1_ok.calls S w vs x hS hr hwf ⟨hok, e⟩ i
    · exact weakRule2_ok.calls S w vs x hS hr hwf ⟨hok, e⟩ i
    · exact weakRule3_ok.calls S w vs x hS hr hwf ⟨hok, e⟩ i
    · exact weakRule4_ok.calls S w vs x hS hr hwf ⟨hok, e⟩ i
    · exact weakRule5_ok.calls S w vs x hS hr hwf ⟨hok, e⟩ i
    · exact weakRule6_ok.calls S w vs x hS hr hwf ⟨hok, e⟩ i
    · exact weakRule7_ok.calls S w vs x hS hr hwf ⟨hok, e⟩ i
  · exact weakRule0_ok.calls S w vs x hS hr hwf h i

theorem ref18Rule_ok : ref18Rule.Ok Try.prog := by
  refine con_q Try.func19 rfl (by decide) (fun x hx hp => run_ok (Cs := [ref18Place]) (stp := []) (inl := []) (unr := false) (cons_ok ref18Place_ok nil_ok) 400 _ _ _ _ ?_) (by decide)
  obtain ⟨(n : Int), (l : List Int), (sos : Int), ⟨⟩⟩ := x
  have hz : l.length * 1 ≤ 140737488355328 := hx.2.1.1
  clear hx hp
  have hlen : ∀ i, (ruleTo n sos l i).length = l.length := fun i => ruleTo_len
  have htk : ∀ i, (ruleTo n sos l i).take l.length = ruleTo n sos l i := fun i => List.take_of_length_le (by rw [hlen]; exact Nat.le_refl _)
  simp (maxSteps := 4000000) only [go_sem, reduceIte, reduceCtorEq, Int.reduceEq, Nat.reduceEqDiff, Nat.reduceBEq, Int.reduceLE, Int.reduceLT, Int.reduceNeg, Nat.reduceAdd, Nat.reduceSub, Nat.reduceMul, Nat.reduceLeDiff, Int.reduceToNat, Int.reduceAdd, Int.reduceSub, Int.reduceMul, Try.f19, ref18Rule, ref18Place]
  (repeat' (first | (apply And.intro) | (intro _) | (show staB _ _ = true; kernel_rfl) | (show dynB _ _ = true; kernel_rfl) | (show dynP _ _ _ = true; kernel_rfl)))
  all_goals try omega
  refine OkQ.loop (α := Nat) [1, 3, 4, 5, 6, 8, 9, 10, 11, 12, 13, 14, 15, 16, 17, 18, 19, 20, 21, 22, 23, 24, 25, 26] (fun i => [(8, .s (.int .i64 (i : Int)))]) (fun i => [(0, .arr false 1 (.int .u8) (ruleTo n sos l i))]) (fun i => i ≤ l.length) (fun i => l.length - i) 0 (Nat.zero_le _) ?_ fun i hi => ?_
  · simp (maxSteps := 4000000) only [go_sem, reduceIte, reduceCtorEq, Int.reduceEq, Nat.reduceEqDiff, Nat.reduceBEq, Int.reduceLE, Int.reduceLT, Int.reduceNeg, Nat.reduceAdd, Nat.reduceSub, Nat.reduceMul, Nat.reduceLeDiff, Int.reduceToNat, Int.reduceAdd, Int.reduceSub, Int.reduceMul, ref18Place]
    simp [ruleTo]
  · refine run_ok (Cs := [ref18Place]) (stp := []) (inl := []) (unr := false) (cons_ok ref18Place_ok nil_ok) 400 _ _ _ _ ?_
    simp (maxSteps := 4000000) only [go_sem, reduceIte, reduceCtorEq, Int.reduceEq, Nat.reduceEqDiff, Nat.reduceBEq, Int.reduceLE, Int.reduceLT, Int.reduceNeg, Nat.reduceAdd, Nat.reduceSub, Nat.reduceMul, Nat.reduceLeDiff, Int.reduceToNat, Int.reduceAdd, Int.reduceSub, Int.reduceMul, hlen, htk, ref18Place]
    (repeat' (first | (apply And.intro) | (intro _) | (show staB _ _ = true; kernel_rfl) | (show dynB _ _ = true; kernel_rfl) | (show dynP _ _ _ = true; kernel_rfl)))
    all_goals try omega
    all_goals first
      | assumption
      | exact (by omega : (0 : Int) ≤ (i : Int))
      | exact ⟨i + 1, by omega, by omega, wr_succ (by omega), rfl⟩
      | exact ruleTo_end (by omega)

def ref18Resolve : Con := ⟨21, [(false, tClasses), (false, .int .u8)], [(false, tClasses)], fun _ => True, fun x => (weakC x.2.1 x.1, ()), false⟩
theorem ref18Resolve_ok : ref18Resolve.Ok Try.prog := by
  refine con_q Try.func21 rfl (by decide) (fun x hx hp => run_ok (Cs := [ref18Rule]) (stp := []) (inl := []) (unr := true) (cons_ok ref18Rule_ok nil_ok) 400 _ _ _ _ ?_) (by decide)
  obtain ⟨(l : List Int), (sos : Int), ⟨⟩⟩ := x
  clear hx hp
  simp (maxSteps := 4000000) only [go_sem, reduceIte, reduceCtorEq, Int.reduceEq, Nat.reduceEqDiff, Nat.reduceBEq, Int.reduceLE, Int.reduceLT, Int.reduceNeg, Nat.reduceAdd, Nat.reduceSub, Nat.reduceMul, Nat.reduceLeDiff, Int.reduceToNat, Int.reduceAdd, Int.reduceSub, Int.reduceMul, Try.f21, ref18Resolve, wr_lit, Int.cast_ofNat_Int, ref18Rule]
  (repeat' (first | (apply And.intro) | (intro _) | (show staB _ _ = true; kernel_rfl) | (show dynB _ _ = true; kernel_rfl) | (show dynP _ _ _ = true; kernel_rfl)))
  all_goals try omega
  rfl

def resolveE (s : tSeq.den) : Int := if OkSeq s then 0 else 170
def resolveV (s : tSeq.den) : tSeq.den := if OkSeq s then (s.1, weakC s.2.2.2.1 s.2.1, s.2.2.1, s.2.2.2.1, s.2.2.2.2.1, ()) else ([], [], 0, 0, 0, ())
def weakResolve : Con := ⟨20, [(true, tSeq)], [(true, tSeq), (false, .int .i64)], fun _ => True, fun x => (resolveV x.1, resolveE x.1, ()), false⟩
theorem weakResolve_ok : weakResolve.Ok Try.prog := by
  refine con_q Try.func20 rfl (by decide) (fun x hx hp => run_ok (Cs := [weakRule]) (stp := []) (inl := [27]) (unr := true) (cons_ok weakRule_ok nil_ok) 400 _ _ _ _ ?_) (by decide)
  obtain ⟨⟨(ps : List Int), (cs : List Int), (l : Int), (so : Int), (eo : Int), ⟨⟩⟩, ⟨⟩⟩ := x
  have hz1 : ps.length * 8 ≤ 140737488355328 := hx.1.1.1
  have hz2 : cs.length * 1 ≤ 140737488355328 := hx.1.2.1.1
  clear hx hp
  by_cases hok : OkS ps cs l so eo
  · have hE : ∀ k : Nat, k < 7 → ruleE ((k + 1 : Nat) : Int) (ps, ruleN so cs k, l, so, eo, ()) = 0 := fun k hk => ruleE_ok (okS_ruleN hok k) (by omega) (by omega)
    have hV : ∀ k : Nat, k < 7 → ruleV ((k + 1 : Nat) : Int) (ps, ruleN so cs k, l, so, eo, ()) = (ps, ruleN so cs (k + 1), l, so, eo, ()) := fun k hk => ruleV_ok (okS_ruleN hok k) (by omega) (by omega)
    have hE0 : ruleE 1 (ps, cs, l, so, eo, ()) = 0 := hE 0 (by omega)
    have hV0 : ruleV 1 (ps, cs, l, so, eo, ()) = (ps, ruleN so cs 1, l, so, eo, ()) := hV 0 (by omega)
    have hE1 : ruleE 2 (ps, ruleN so cs 1, l, so, eo, ()) = 0 := hE 1 (by omega)
    have hV1 : ruleV 2 (ps, ruleN so cs 1, l, so, eo, ()) = (ps, ruleN so cs 2, l, so, eo, ()) := hV 1 (by omega)
    have hE2 : ruleE 3 (ps, ruleN so cs 2, l, so, eo, ()) = 0 := hE 2 (by omega)
    have hV2 : ruleV 3 (ps, ruleN so cs 2, l, so, eo, ()) = (ps, ruleN so cs 3, l, so, eo, ()) := hV 2 (by omega)
    have hE3 : ruleE 4 (ps, ruleN so cs 3, l, so, eo, ()) = 0 := hE 3 (by omega)
    have hV3 : ruleV 4 (ps, ruleN so cs 3, l, so, eo, ()) = (ps, ruleN so cs 4, l, so, eo, ()) := hV 3 (by omega)
    have hE4 : ruleE 5 (ps, ruleN so cs 4, l, so, eo, ()) = 0 := hE 4 (by omega)
    have hV4 : ruleV 5 (ps, ruleN so cs 4, l, so, eo, ()) = (ps, ruleN so cs 5, l, so, eo, ()) := hV 4 (by omega)
    have hE5 : ruleE 6 (ps, ruleN so cs 5, l, so, eo, ()) = 0 := hE 5 (by omega)
    have hV5 : ruleV 6 (ps, ruleN so cs 5, l, so, eo, ()) = (ps, ruleN so cs 6, l, so, eo, ()) := hV 5 (by omega)
    have hE6 : ruleE 7 (ps, ruleN so cs 6, l, so, eo, ()) = 0 := hE 6 (by omega)
    have hV6 : ruleV 7 (ps, ruleN so cs 6, l, so, eo, ()) = (ps, weakC so cs, l, so, eo, ()) := hV 6 (by omega)
    have hR : resolveV (ps, cs, l, so, eo, ()) = (ps, weakC so cs, l, so, eo, ()) := if_pos hok
    have hR2 : resolveE (ps, cs, l, so, eo, ()) = 0 := if_pos hok
    clear hE hV
    simp (maxSteps := 4000000) only [go_sem, reduceIte, reduceCtorEq, Int.reduceEq, Nat.reduceEqDiff, Nat.reduceBEq, Int.reduceLE, Int.reduceLT, Int.reduceNeg, Nat.reduceAdd, Nat.reduceSub, Nat.reduceMul, Nat.reduceLeDiff, Int.reduceToNat, Int.reduceAdd, Int.reduceSub, Int.reduceMul, Try.f20, weakResolve, bIWe27, Try.f27, wr_lit, Int.cast_ofNat_Int, hE0, hV0, hE1, hV1, hE2, hV2, hE3, hV3, hE4, hV4, hE5, hV5, hE6, hV6, hR, hR2, weakRule]
    (repeat' (first | (apply And.intro) | (intro _) | (show staB _ _ = true; kernel_rfl) | (show dynB _ _ = true; kernel_rfl) | (show dynP _ _ _ = true; kernel_rfl)))
    all_goals try omega
    all_goals trace_state
    all_goals fail
  · have h0 : ruleE 1 (ps, cs, l, so, eo, ()) = 170 := if_neg hok
    have hR : resolveV (ps, cs, l, so, eo, ()) = ([], [], 0, 0, 0, ()) := if_neg hok
    have hR2 : resolveE (ps, cs, l, so, eo, ()) = 170 := if_neg hok
    simp (maxSteps := 4000000) only [go_sem, reduceIte, reduceCtorEq, Int.reduceEq, Nat.reduceEqDiff, Nat.reduceBEq, Int.reduceLE, Int.reduceLT, Int.reduceNeg, Nat.reduceAdd, Nat.reduceSub, Nat.reduceMul, Nat.reduceLeDiff, Int.reduceToNat, Int.reduceAdd, Int.reduceSub, Int.reduceMul, Try.f20, weakResolve, bIWe27, Try.f27, wr_lit, Int.cast_ofNat_Int, h0, hR, hR2, weakRule]
    (repeat' (first | (apply And.intro) | (intro _) | (show staB _ _ = true; kernel_rfl) | (show dynB _ _ = true; kernel_rfl) | (show dynP _ _ _ = true; kernel_rfl)))
    all_goals try omega
    all_goals trace_state
    all_goals fail

end Go.Proofs.Yteompacffdeekaa.Sx
