/- Contracts: the check sum, step by step. -/
import Derived.Test.YtdepbfgnmliggaaGreatDoorFf
namespace Go.Proofs.YtdepbfgnmliggaaGreatDoor.Sx
attribute [local irreducible] OkQ Ok
set_option linter.unusedSimpArgs false
set_option linter.unusedVariables false
set_option maxRecDepth 8000

theorem oc_ptr (p : Option Addr) : (Value.pointer p).oneCell' = true := rfl
theorem oc_nilf : Value.nilFunc.oneCell' = true := rfl
theorem oc_nili : Value.nilIface.oneCell' = true := rfl
attribute [go_sem] oc_ptr oc_nilf oc_nili Option.isNone_none Option.isNone_some

@[reducible] def tStrs : Ty := .slice 16 .str
@[reducible] def tBytes : Ty := .slice 1 (.int .u8)
@[reducible] def tU32s : Ty := .slice 4 (.int .u32)

theorem wr_succ {n : Nat} (h : n ≤ 140737488355328) : wr .i64 ((n : Int) + 1) = ((n + 1 : Nat) : Int) := by rw [wr_i64 (by omega) (by omega)]; simp

def stepV (r : Int) : Int := wr .u32 ((ub .u32 (r.fdiv ((2 ^ (min (1 : Int).toNat IntKind.u32.bits) : Nat) : Int)) ^^^ ub .u32 (wr .u32 ((ub .u32 3988292384 &&& ub .u32 (wr .u32 (-(wr .u32 ((ub .u32 r &&& ub .u32 1 : Nat) : Int)))) : Nat) : Int)) : Nat) : Int)
def stepK : Nat → Int → Int
  | 0, r => r
  | k + 1, r => stepV (stepK k r)
def notU (r : Int) : Int := wr .u32 ((ub .u32 (allI .u32) ^^^ ub .u32 r : Nat) : Int)
def mixV (r : Int) (b : UInt8) : Int := wr .u32 ((ub .u32 r ^^^ ub .u32 (wr .u32 (b.toNat : Int)) : Nat) : Int)
def moreTo (s : List UInt8) (r : Int) : Nat → Int
  | 0 => r
  | i + 1 => stepK 8 (mixV (moreTo s r i) (s.getD i 0))
def moreV (crc : Int) (s : List UInt8) : Int := notU (moreTo s (notU crc) s.length)
def crcTo (l : List (List UInt8)) : Nat → Int
  | 0 => 0
  | i + 1 => moreV (crcTo l i) (l.getD i [])
def crcV (l : List (List UInt8)) : Int := crcTo l l.length

def sumsStep : Con := ⟨124, [(false, .int .u32)], [(false, .int .u32)], fun _ => True, fun x => (stepV x.1, ()), false⟩
theorem sumsStep_ok : sumsStep.Ok Tryz.prog := by
  refine con_q Tryz.func124 rfl (by decide) (fun x hx hp => run_ok (Cs := []) (stp := []) (inl := []) (unr := false) nil_ok 400 _ _ _ _ ?_) (by decide)
  obtain ⟨(r : Int), ⟨⟩⟩ := x
  simp (maxSteps := 4000000) only [go_sem, reduceIte, reduceCtorEq, Int.reduceEq, Nat.reduceEqDiff, Nat.reduceBEq, Int.reduceLE, Int.reduceLT, Int.reduceNeg, Nat.reduceAdd, Nat.reduceSub, Nat.reduceMul, Nat.reduceLeDiff, Int.reduceToNat, Int.reduceAdd, Int.reduceSub, Int.reduceMul, Tryz.f124, sumsStep]
  (repeat' (first | (apply And.intro) | (intro _) | (show staB _ _ = true; kernel_rfl) | (show dynB _ _ = true; kernel_rfl) | (show dynP _ _ _ = true; kernel_rfl)))
  all_goals first | omega | rfl | fail

def sumsMore : Con := ⟨95, [(false, .int .u32), (false, .str)], [(false, .int .u32)], fun _ => True, fun x => (moreV x.1 x.2.1, ()), false⟩
theorem sumsMore_ok : sumsMore.Ok Tryz.prog := by
  refine con_q Tryz.func95 rfl (by decide) (fun x hx hp => run_ok (Cs := [sumsStep]) (stp := []) (inl := []) (unr := false) (cons_ok sumsStep_ok nil_ok) 400 _ _ _ _ ?_) (by decide)
  obtain ⟨(r : Int), (s : List UInt8), ⟨⟩⟩ := x
  have hz : s.length ≤ 140737488355328 := hx.2.1
  simp (maxSteps := 4000000) only [go_sem, reduceIte, reduceCtorEq, Int.reduceEq, Nat.reduceEqDiff, Nat.reduceBEq, Int.reduceLE, Int.reduceLT, Int.reduceNeg, Nat.reduceAdd, Nat.reduceSub, Nat.reduceMul, Nat.reduceLeDiff, Int.reduceToNat, Int.reduceAdd, Int.reduceSub, Int.reduceMul, Tryz.f95, sumsMore, sumsStep]
  (repeat' (first | (apply And.intro) | (intro _) | (show staB _ _ = true; kernel_rfl) | (show dynB _ _ = true; kernel_rfl) | (show dynP _ _ _ = true; kernel_rfl)))
  refine OkQ.loop (α := Nat) [0, 2, 3, 4, 5, 6, 7, 8, 9, 11, 12, 13, 14, 15, 16, 17, 18, 19, 20, 21, 22, 23, 24, 25, 26, 27] (fun i => [(5, .s (.int .u32 (moreTo s (notU r) i))), (11, .s (.int .i64 (i : Int)))]) (fun _ => []) (fun i => i ≤ s.length) (fun i => s.length - i) 0 (Nat.zero_le _) ?_ fun i hi => ?_
  · simp (maxSteps := 4000000) only [go_sem, reduceIte, reduceCtorEq, Int.reduceEq, Nat.reduceEqDiff, Nat.reduceBEq, Int.reduceLE, Int.reduceLT, Int.reduceNeg, Nat.reduceAdd, Nat.reduceSub, Nat.reduceMul, Nat.reduceLeDiff, Int.reduceToNat, Int.reduceAdd, Int.reduceSub, Int.reduceMul, sumsStep]
    exact ⟨rfl, rfl⟩
  refine run_ok (Cs := [sumsStep]) (stp := []) (inl := []) (unr := false) (cons_ok sumsStep_ok nil_ok) 400 _ _ _ _ ?_
  simp (maxSteps := 4000000) only [go_sem, reduceIte, reduceCtorEq, Int.reduceEq, Nat.reduceEqDiff, Nat.reduceBEq, Int.reduceLE, Int.reduceLT, Int.reduceNeg, Nat.reduceAdd, Nat.reduceSub, Nat.reduceMul, Nat.reduceLeDiff, Int.reduceToNat, Int.reduceAdd, Int.reduceSub, Int.reduceMul, sumsStep]
  (repeat' (first | (apply And.intro) | (intro _) | (show staB _ _ = true; kernel_rfl) | (show dynB _ _ = true; kernel_rfl) | (show dynP _ _ _ = true; kernel_rfl)))
  all_goals try omega
  · refine OkQ.loop (α := Nat) [0, 2, 3, 4, 5, 6, 7, 8, 9, 12, 13, 14, 15, 16, 17, 18, 19, 20, 21, 22, 23, 24, 25, 26, 27] (fun k => [(5, .s (.int .u32 (stepK k (mixV (moreTo s (notU r) i) (s.getD i 0))))), (20, .s (.int .i64 (k : Int)))]) (fun _ => []) (fun k => k ≤ 8) (fun k => 8 - k) 0 (Nat.zero_le _) ?_ fun k hk => ?_
    · simp (maxSteps := 4000000) only [go_sem, reduceIte, reduceCtorEq, Int.reduceEq, Nat.reduceEqDiff, Nat.reduceBEq, Int.reduceLE, Int.reduceLT, Int.reduceNeg, Nat.reduceAdd, Nat.reduceSub, Nat.reduceMul, Nat.reduceLeDiff, Int.reduceToNat, Int.reduceAdd, Int.reduceSub, Int.reduceMul, sumsStep]
      all_goals first | exact ⟨rfl, rfl⟩ | fail
    refine run_ok (Cs := [sumsStep]) (stp := []) (inl := []) (unr := false) (cons_ok sumsStep_ok nil_ok) 400 _ _ _ _ ?_
    simp (maxSteps := 4000000) only [go_sem, reduceIte, reduceCtorEq, Int.reduceEq, Nat.reduceEqDiff, Nat.reduceBEq, Int.reduceLE, Int.reduceLT, Int.reduceNeg, Nat.reduceAdd, Nat.reduceSub, Nat.reduceMul, Nat.reduceLeDiff, Int.reduceToNat, Int.reduceAdd, Int.reduceSub, Int.reduceMul, sumsStep]
    (repeat' (first | (apply And.intro) | (intro _) | (show staB _ _ = true; kernel_rfl) | (show dynB _ _ = true; kernel_rfl) | (show dynP _ _ _ = true; kernel_rfl)))
    · exact ⟨k + 1, by omega, by omega, rfl, wr_succ (by omega)⟩
    · have e : k = 8 := by omega
      subst e
      exact ⟨i + 1, by omega, by omega, rfl, wr_succ (by omega)⟩
  · have e : i = s.length := by omega
    subst e
    rfl

def sumsCRC : Con := ⟨67, [(false, tStrs)], [(false, .int .u32)], fun _ => True, fun x => (crcV x.1, ()), false⟩
theorem sumsCRC_ok : sumsCRC.Ok Tryz.prog := by
  refine con_q Tryz.func67 rfl (by decide) (fun x hx hp => run_ok (Cs := [sumsMore]) (stp := []) (inl := []) (unr := false) (cons_ok sumsMore_ok nil_ok) 400 _ _ _ _ ?_) (by decide)
  obtain ⟨(l : List (List UInt8)), ⟨⟩⟩ := x
  have hz : l.length * 16 ≤ 140737488355328 := hx.1.1
  simp (maxSteps := 4000000) only [go_sem, reduceIte, reduceCtorEq, Int.reduceEq, Nat.reduceEqDiff, Nat.reduceBEq, Int.reduceLE, Int.reduceLT, Int.reduceNeg, Nat.reduceAdd, Nat.reduceSub, Nat.reduceMul, Nat.reduceLeDiff, Int.reduceToNat, Int.reduceAdd, Int.reduceSub, Int.reduceMul, Tryz.f67, sumsCRC, sumsMore]
  (repeat' (first | (apply And.intro) | (intro _) | (show staB _ _ = true; kernel_rfl) | (show dynB _ _ = true; kernel_rfl) | (show dynP _ _ _ = true; kernel_rfl)))
  refine OkQ.loop (α := Nat) [0, 1, 2, 3, 4, 5, 8, 9, 10, 11, 12, 13, 14, 15, 16] (fun i => [(3, .s (.int .u32 (crcTo l i))), (8, .s (.int .i64 (i : Int)))]) (fun _ => []) (fun i => i ≤ l.length) (fun i => l.length - i) 0 (Nat.zero_le _) ?_ fun i hi => ?_
  · simp (maxSteps := 4000000) only [go_sem, reduceIte, reduceCtorEq, Int.reduceEq, Nat.reduceEqDiff, Nat.reduceBEq, Int.reduceLE, Int.reduceLT, Int.reduceNeg, Nat.reduceAdd, Nat.reduceSub, Nat.reduceMul, Nat.reduceLeDiff, Int.reduceToNat, Int.reduceAdd, Int.reduceSub, Int.reduceMul, sumsMore]
    exact ⟨rfl, rfl⟩
  refine run_ok (Cs := [sumsMore]) (stp := []) (inl := []) (unr := false) (cons_ok sumsMore_ok nil_ok) 400 _ _ _ _ ?_
  simp (maxSteps := 4000000) only [go_sem, reduceIte, reduceCtorEq, Int.reduceEq, Nat.reduceEqDiff, Nat.reduceBEq, Int.reduceLE, Int.reduceLT, Int.reduceNeg, Nat.reduceAdd, Nat.reduceSub, Nat.reduceMul, Nat.reduceLeDiff, Int.reduceToNat, Int.reduceAdd, Int.reduceSub, Int.reduceMul, sumsMore]
  (repeat' (first | (apply And.intro) | (intro _) | (show staB _ _ = true; kernel_rfl) | (show dynB _ _ = true; kernel_rfl) | (show dynP _ _ _ = true; kernel_rfl)))
  all_goals try omega
  · exact ⟨i + 1, by omega, by omega, rfl, wr_succ (by omega)⟩
  · have e : i = l.length := by omega
    subst e
    rfl

end Go.Proofs.YtdepbfgnmliggaaGreatDoor.Sx
