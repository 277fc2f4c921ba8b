/- Contracts: the document's small functions of the weak rules. -/
import Derived.Test.YteompacffdeekaaLw
namespace Go.Proofs.Yteompacffdeekaa.Sx
attribute [local irreducible] OkQ Ok OkP
set_option linter.unusedSimpArgs false
set_option linter.unusedVariables false
set_option maxRecDepth 8000

def ref18Edge : Con := ⟨29, [(false, .int .u8)], [(false, .bool)], fun _ => True, fun x => (edgeB x.1, ()), false⟩
def ref18Removed : Con := ⟨30, [(false, .int .u8)], [(false, .bool)], fun _ => True, fun x => (remB x.1, ()), false⟩
def ref18Isolates : Con := ⟨47, [(false, .int .u8)], [(false, .bool)], fun _ => True, fun x => (isoB x.1, ()), false⟩
def atV (l : List Int) (i : Int) : Int := if i < 0 ∨ (l.length : Int) ≤ i then 0 else l.getD i.toNat 0
def ref18At : Con := ⟨49, [(false, tClasses), (false, .int .i64)], [(false, .int .u8)], fun _ => True, fun x => (atV x.1 x.2.1, ()), false⟩
def inB' (some : List Int) (c : Int) : Bool := decide (c ∈ some)
def aheadS (l : List Int) (sos i : Int) (some : List Int) : Int := lookV (inB' some) l sos i.toNat
def ref18Ahead : Con := ⟨48, [(false, tClasses), (false, .int .u8), (false, .int .i64), (false, tClasses)], [(false, .int .u8)], fun x => 0 ≤ (x.2.2.1 : Int) ∧ (x.2.2.1 : Int) ≤ (x.1 : List Int).length, fun x => (aheadS x.1 x.2.1 x.2.2.1 x.2.2.2.1, ()), false⟩
def sameSeq (a b : tSeq.den) : Bool := decide (a.1 = b.1) && (decide (a.2.1 = b.2.1) && (decide (a.2.2.1 = b.2.2.1) && (decide (a.2.2.2.1 = b.2.2.2.1) && decide (a.2.2.2.2.1 = b.2.2.2.2.1))))
def ref18Same : Con := ⟨17, [(true, tSeq), (true, tSeq)], [(false, .bool)], fun _ => True, fun x => (sameSeq x.1 x.2.1, ()), false⟩
def okB (s : tSeq.den) : Bool := decide (OkSeq s)
def ref18May : Con := ⟨16, [(true, tSeq)], [(false, .bool)], fun _ => True, fun x => (okB x.1, ()), false⟩
def sameList (a b : List Int) : Bool := decide (a = b)
def sameClasses : Con := ⟨23, [(false, tClasses), (false, tClasses)], [(false, .bool)], fun _ => True, fun x => (sameList x.1 x.2.1, ()), false⟩
theorem isoBt {c : Int} : (isoB c = true) = (20 ≤ c ∧ c ≤ 23) := by simp [isoB]
theorem isoBf {c : Int} : (isoB c = false) = ¬ (20 ≤ c ∧ c ≤ 23) := by simp only [isoB, decide_eq_false_iff_not]

theorem ref18Edge_ok : ref18Edge.Ok Try.prog := by
  refine con_q Try.func29 rfl (by decide) (fun x hx hp => run_ok (Cs := []) (stp := []) (inl := []) (unr := false) nil_ok 400 _ _ _ _ ?_) (by decide)
  obtain ⟨c, ⟨⟩⟩ := x
  simp (maxSteps := 4000000) only [go_sem, reduceIte, reduceCtorEq, Int.reduceEq, Nat.reduceEqDiff, Nat.reduceBEq, Int.reduceLE, Int.reduceLT, Int.reduceNeg, Nat.reduceAdd, Nat.reduceSub, Nat.reduceMul, Nat.reduceLeDiff, Int.reduceToNat, Int.reduceAdd, Int.reduceSub, Int.reduceMul, Try.f29, ref18Edge]
  simp [edgeB, Bool.decide_or]

theorem ref18Removed_ok : ref18Removed.Ok Try.prog := by
  refine con_q Try.func30 rfl (by decide) (fun x hx hp => run_ok (Cs := []) (stp := []) (inl := []) (unr := false) nil_ok 400 _ _ _ _ ?_) (by decide)
  obtain ⟨c, ⟨⟩⟩ := x
  simp (maxSteps := 4000000) only [go_sem, reduceIte, reduceCtorEq, Int.reduceEq, Nat.reduceEqDiff, Nat.reduceBEq, Int.reduceLE, Int.reduceLT, Int.reduceNeg, Nat.reduceAdd, Nat.reduceSub, Nat.reduceMul, Nat.reduceLeDiff, Int.reduceToNat, Int.reduceAdd, Int.reduceSub, Int.reduceMul, Try.f30, ref18Removed]
  (repeat' (first | (apply And.intro) | (intro _) | (show staB _ _ = true; kernel_rfl) | (show dynB _ _ = true; kernel_rfl) | (show dynP _ _ _ = true; kernel_rfl)))
  all_goals clear hp hx
  all_goals first | ((try simp only [bt, bf, decide_eq_true_eq, decide_eq_false_iff_not, Bool.and_eq_true, Bool.or_eq_true, Bool.and_eq_false_iff, Bool.or_eq_false_iff, Bool.not_eq_true', Bool.not_eq_false', remBt, remBf] at *); omega) | (rw [Bool.eq_iff_iff]; (try simp only [bt, bf, decide_eq_true_eq, decide_eq_false_iff_not, Bool.and_eq_true, Bool.or_eq_true, Bool.and_eq_false_iff, Bool.or_eq_false_iff, Bool.not_eq_true', Bool.not_eq_false', remBt, remBf] at *); omega)

theorem ref18Isolates_ok : ref18Isolates.Ok Try.prog := by
  refine con_q Try.func47 rfl (by decide) (fun x hx hp => run_ok (Cs := []) (stp := []) (inl := []) (unr := false) nil_ok 400 _ _ _ _ ?_) (by decide)
  obtain ⟨c, ⟨⟩⟩ := x
  simp (maxSteps := 4000000) only [go_sem, reduceIte, reduceCtorEq, Int.reduceEq, Nat.reduceEqDiff, Nat.reduceBEq, Int.reduceLE, Int.reduceLT, Int.reduceNeg, Nat.reduceAdd, Nat.reduceSub, Nat.reduceMul, Nat.reduceLeDiff, Int.reduceToNat, Int.reduceAdd, Int.reduceSub, Int.reduceMul, Try.f47, ref18Isolates]
  (repeat' (first | (apply And.intro) | (intro _) | (show staB _ _ = true; kernel_rfl) | (show dynB _ _ = true; kernel_rfl) | (show dynP _ _ _ = true; kernel_rfl)))
  all_goals clear hp hx
  all_goals first | ((try simp only [bt, bf, decide_eq_true_eq, decide_eq_false_iff_not, Bool.and_eq_true, Bool.or_eq_true, Bool.and_eq_false_iff, Bool.or_eq_false_iff, Bool.not_eq_true', Bool.not_eq_false', isoBt, isoBf] at *); omega) | (rw [Bool.eq_iff_iff]; (try simp only [bt, bf, decide_eq_true_eq, decide_eq_false_iff_not, Bool.and_eq_true, Bool.or_eq_true, Bool.and_eq_false_iff, Bool.or_eq_false_iff, Bool.not_eq_true', Bool.not_eq_false', isoBt, isoBf] at *); omega)

theorem ref18At_ok : ref18At.Ok Try.prog := by
  refine con_q Try.func49 rfl (by decide) (fun x hx hp => run_ok (Cs := []) (stp := []) (inl := []) (unr := false) nil_ok 400 _ _ _ _ ?_) (by decide)
  obtain ⟨(l : List Int), (i : Int), ⟨⟩⟩ := x
  have hz : l.length * 1 ≤ 140737488355328 := hx.1.1
  clear hp hx
  simp (maxSteps := 4000000) only [go_sem, reduceIte, reduceCtorEq, Int.reduceEq, Nat.reduceEqDiff, Nat.reduceBEq, Int.reduceLE, Int.reduceLT, Int.reduceNeg, Nat.reduceAdd, Nat.reduceSub, Nat.reduceMul, Nat.reduceLeDiff, Int.reduceToNat, Int.reduceAdd, Int.reduceSub, Int.reduceMul, Try.f49, ref18At]
  (repeat' (first | (apply And.intro) | (intro _) | (show staB _ _ = true; kernel_rfl) | (show dynB _ _ = true; kernel_rfl) | (show dynP _ _ _ = true; kernel_rfl)))
  all_goals try omega
  · rename_i h; rw [atV, if_pos (by omega)]
  · rename_i h; rw [atV, if_neg (by omega)]

theorem ref18Ahead_ok : ref18Ahead.Ok Try.prog := by
  refine con_q Try.func48 rfl (by decide) (fun x hx hp => run_ok (Cs := []) (stp := []) (inl := []) (unr := false) nil_ok 400 _ _ _ _ ?_) (by decide)
  obtain ⟨(l : List Int), (sos : Int), (n : Int), (some : List Int), ⟨⟩⟩ := x
  have hz : l.length * 1 ≤ 140737488355328 := hx.1.1
  have hz2 : some.length * 1 ≤ 140737488355328 := hx.2.2.2.1.1
  have h0 : 0 ≤ n := hp.1
  have h1 : n ≤ l.length := hp.2
  clear hp hx
  obtain ⟨i, rfl⟩ : ∃ i : Nat, n = i := ⟨n.toNat, by omega⟩
  have hF : aheadS l sos (i : Int) some = lookV (inB' some) l sos i := rfl
  simp (maxSteps := 4000000) only [go_sem, reduceIte, reduceCtorEq, Int.reduceEq, Nat.reduceEqDiff, Nat.reduceBEq, Int.reduceLE, Int.reduceLT, Int.reduceNeg, Nat.reduceAdd, Nat.reduceSub, Nat.reduceMul, Nat.reduceLeDiff, Int.reduceToNat, Int.reduceAdd, Int.reduceSub, Int.reduceMul, Try.f48, ref18Ahead, hF]
  refine OkQ.loop (α := Nat) [2, 4, 5, 6, 7, 8, 9, 10, 11, 12, 13, 14, 15, 16, 17, 18, 19, 20, 21, 22, 23, 24, 25, 26, 27, 28, 29, 30, 31, 32, 33, 34, 35, 36] (fun m => [(9, .s (.int .i64 ((m : Int) - 1)))]) (fun _ => []) (fun m => m ≤ l.length ∧ lookV (inB' some) l sos m = lookV (inB' some) l sos i) (fun m => m) i ⟨by omega, rfl⟩ ?_ fun m hm => ?_
  · simp (maxSteps := 4000000) only [go_sem, reduceIte, reduceCtorEq, Int.reduceEq, Nat.reduceEqDiff, Nat.reduceBEq, Int.reduceLE, Int.reduceLT, Int.reduceNeg, Nat.reduceAdd, Nat.reduceSub, Nat.reduceMul, Nat.reduceLeDiff, Int.reduceToNat, Int.reduceAdd, Int.reduceSub, Int.reduceMul]
    rw [wr_i64 (by omega) (by omega)]
  · obtain ⟨hm1, hm2⟩ := hm
    rw [← hm2]
    cases m with
    | zero =>
      refine run_ok (Cs := []) (stp := []) (inl := []) (unr := false) nil_ok 400 _ _ _ _ ?_
      simp (maxSteps := 4000000) only [go_sem, reduceIte, reduceCtorEq, Int.reduceEq, Nat.reduceEqDiff, Nat.reduceBEq, Int.reduceLE, Int.reduceLT, Int.reduceNeg, Nat.reduceAdd, Nat.reduceSub, Nat.reduceMul, Nat.reduceLeDiff, Int.reduceToNat, Int.reduceAdd, Int.reduceSub, Int.reduceMul, Int.natCast_zero, lookV]
      (repeat' (first | (apply And.intro) | (intro _) | (show staB _ _ = true; kernel_rfl) | (show dynB _ _ = true; kernel_rfl) | (show dynP _ _ _ = true; kernel_rfl)))
      all_goals try omega
    | succ m =>
      have e1 : ((m + 1 : Nat) : Int) - 1 = m := by omega
      rw [lookV]
      refine run_ok (Cs := []) (stp := []) (inl := []) (unr := false) nil_ok 400 _ _ _ _ ?_
      simp (maxSteps := 4000000) only [go_sem, reduceIte, reduceCtorEq, Int.reduceEq, Nat.reduceEqDiff, Nat.reduceBEq, Int.reduceLE, Int.reduceLT, Int.reduceNeg, Nat.reduceAdd, Nat.reduceSub, Nat.reduceMul, Nat.reduceLeDiff, Int.reduceToNat, Int.reduceAdd, Int.reduceSub, Int.reduceMul, e1]
      (repeat' (first | (apply And.intro) | (intro _) | (show staB _ _ = true; kernel_rfl) | (show dynB _ _ = true; kernel_rfl) | (show dynP _ _ _ = true; kernel_rfl)))
      all_goals try omega
      refine OkQ.loop (α := Nat) [2, 4, 5, 6, 7, 8, 10, 11, 12, 13, 14, 15, 16, 17, 18, 19, 20, 21, 22, 23, 24, 25, 26, 27, 28, 29, 30, 31, 32, 33, 34, 35, 36] (fun j => [(10, .s (.int .i64 (j : Int)))]) (fun _ => []) (fun j => j ≤ some.length ∧ ∀ q, q < j → some.getD q 0 ≠ l.getD m 0) (fun j => some.length - j) 0 ⟨by omega, by omega⟩ ?_ fun j hj => ?_
      · simp (maxSteps := 4000000) only [go_sem, reduceIte, reduceCtorEq, Int.reduceEq, Nat.reduceEqDiff, Nat.reduceBEq, Int.reduceLE, Int.reduceLT, Int.reduceNeg, Nat.reduceAdd, Nat.reduceSub, Nat.reduceMul, Nat.reduceLeDiff, Int.reduceToNat, Int.reduceAdd, Int.reduceSub, Int.reduceMul]
        simp
      · obtain ⟨hj1, hj2⟩ := hj
        refine run_ok (Cs := []) (stp := []) (inl := []) (unr := false) nil_ok 400 _ _ _ _ ?_
        simp (maxSteps := 4000000) only [go_sem, reduceIte, reduceCtorEq, Int.reduceEq, Nat.reduceEqDiff, Nat.reduceBEq, Int.reduceLE, Int.reduceLT, Int.reduceNeg, Nat.reduceAdd, Nat.reduceSub, Nat.reduceMul, Nat.reduceLeDiff, Int.reduceToNat, Int.reduceAdd, Int.reduceSub, Int.reduceMul]
        (repeat' (first | (apply And.intro) | (intro _) | (show staB _ _ = true; kernel_rfl) | (show dynB _ _ = true; kernel_rfl) | (show dynP _ _ _ = true; kernel_rfl)))
        all_goals try omega
        · rename_i he
          have : inB' some (l.getD m 0) = true := decide_eq_true (by rw [he]; exact getD_mem 0 (by omega))
          rw [if_pos this]
        · rename_i hne
          refine ⟨j + 1, ⟨by omega, fun q hq => ?_⟩, by omega, wr_succ (by omega)⟩
          by_cases e : q < j
          · exact hj2 q e
          · rw [show q = j by omega]; exact fun g => hne g.symm
        · have : ¬ inB' some (l.getD m 0) = true := fun g => by
            obtain ⟨q, hq, e⟩ := List.mem_iff_getElem.1 (of_decide_eq_true g)
            exact hj2 q (by omega) (by rw [getD_at 0 hq]; exact e)
          exact ⟨m, ⟨by omega, by rw [if_neg this]⟩, by omega, by rw [wr_i64 (by omega) (by omega)]⟩

end Go.Proofs.Yteompacffdeekaa.Sx
