/- Contracts: numbers laid as bytes, the seal. -/
import Derived.Test.YtdepbfgnmliggaaGreatDoorIa
namespace Go.Proofs.YtdepbfgnmliggaaGreatDoor.Sx
attribute [local irreducible] OkQ Ok
set_option linter.unusedSimpArgs false
set_option linter.unusedVariables false
set_option maxRecDepth 8000

/-- A number, a byte on. -/
def shr8 (x : Int) : Int := (x.fdiv ((2 ^ (min (4 : Int).toNat IntKind.u32.bits) : Nat) : Int)).fdiv ((2 ^ (min (4 : Int).toNat IntKind.u32.bits) : Nat) : Int)
def shrK : Nat → Int → Int
  | 0, x => x
  | k + 1, x => shr8 (shrK k x)
def putK : Nat → Int → List Int
  | 0, _ => []
  | k + 1, x => putK k x ++ [wr .u8 (shrK k x)]
def putTo (l : List Int) : Nat → List Int
  | 0 => []
  | i + 1 => putTo l i ++ putK 4 (l.getD i 0)
def putV (l : List Int) : List Int := putTo l l.length
theorem putK_len : ∀ {k : Nat} {x : Int}, (putK k x).length = k
  | 0, _ => rfl
  | k + 1, x => by rw [putK, List.length_append, putK_len]; rfl
theorem putTo_len {l : List Int} : ∀ {i : Nat}, (putTo l i).length = 4 * i
  | 0 => rfl
  | i + 1 => by rw [putTo, List.length_append, putTo_len, putK_len]; omega

def width32 : Con := ⟨66, [], [(false, .int .i64)], fun _ => True, fun _ => (4, ()), false⟩
theorem width32_ok : width32.Ok Tryz.prog := by
  refine con_q Tryz.func66 rfl (by decide) (fun x hx hp => run_ok (Cs := []) (stp := []) (inl := []) (unr := false) nil_ok 400 _ _ _ _ ?_) (by decide)
  have e0 : wr .u32 ((ub .u32 (allI .u32) ^^^ ub .u32 (wr .u32 0) : Nat) : Int) = shrK 0 4294967295 := by decide +kernel
  simp (maxSteps := 4000000) only [go_sem, reduceIte, reduceCtorEq, Int.reduceEq, Nat.reduceEqDiff, Nat.reduceBEq, Int.reduceLE, Int.reduceLT, Int.reduceNeg, Nat.reduceAdd, Nat.reduceSub, Nat.reduceMul, Nat.reduceLeDiff, Int.reduceToNat, Int.reduceAdd, Int.reduceSub, Int.reduceMul, Tryz.f66, width32, e0]
  (repeat' (first | (apply And.intro) | (intro _) | (show staB _ _ = true; kernel_rfl) | (show dynB _ _ = true; kernel_rfl) | (show dynP _ _ _ = true; kernel_rfl)))
  refine OkQ.loop (α := Nat) [0, 1, 2, 3, 4, 5, 6, 7, 8, 9, 10, 11, 12, 13] (fun i => [(1, .s (.int .i64 (i : Int))), (2, .s (.int .u32 (shrK i 4294967295)))]) (fun _ => []) (fun i => i ≤ 4) (fun i => 4 - i) 0 (by omega) ?_ fun i hi => ?_
  · simp (maxSteps := 4000000) only [go_sem, reduceIte, reduceCtorEq, Int.reduceEq, Nat.reduceEqDiff, Nat.reduceBEq, Int.reduceLE, Int.reduceLT, Int.reduceNeg, Nat.reduceAdd, Nat.reduceSub, Nat.reduceMul, Nat.reduceLeDiff, Int.reduceToNat, Int.reduceAdd, Int.reduceSub, Int.reduceMul]
    all_goals first | rfl | exact ⟨rfl, rfl⟩ | fail
  have hs : ∀ x : Int, (x.fdiv ((2 ^ (min (4 : Int).toNat IntKind.u32.bits) : Nat) : Int)).fdiv ((2 ^ (min (4 : Int).toNat IntKind.u32.bits) : Nat) : Int) = shr8 x := fun x => rfl
  refine run_ok (Cs := []) (stp := []) (inl := []) (unr := false) nil_ok 400 _ _ _ _ ?_
  simp (maxSteps := 4000000) only [go_sem, reduceIte, reduceCtorEq, Int.reduceEq, Nat.reduceEqDiff, Nat.reduceBEq, Int.reduceLE, Int.reduceLT, Int.reduceNeg, Nat.reduceAdd, Nat.reduceSub, Nat.reduceMul, Nat.reduceLeDiff, Int.reduceToNat, Int.reduceAdd, Int.reduceSub, Int.reduceMul]
  (repeat' (first | (apply And.intro) | (intro _) | (show staB _ _ = true; kernel_rfl) | (show dynB _ _ = true; kernel_rfl) | (show dynP _ _ _ = true; kernel_rfl)))
  all_goals first
    | omega
    | exact ⟨i + 1, by (have : i ≠ 4 := fun e => by subst e; exact absurd (by decide +kernel : shrK 4 4294967295 = 0) ‹_›); omega, by (have : i ≠ 4 := fun e => by subst e; exact absurd (by decide +kernel : shrK 4 4294967295 = 0) ‹_›); omega, wr_succ (by omega), rfl⟩
    | (rcases (by omega : i = 0 ∨ i = 1 ∨ i = 2 ∨ i = 3 ∨ i = 4) with e | e | e | e | e <;> subst e <;> first | rfl | exact absurd ‹_› (by decide +kernel))
    | fail

def put32 : Con := ⟨34, [(false, tBytes), (false, tU32s)], [(false, tBytes)], fun x => (x.1 : List Int).length + 4 * (x.2.1 : List Int).length ≤ 140737488355328, fun x => ((x.1 : List Int) ++ putV x.2.1, ()), false⟩
theorem put32_ok : put32.Ok Tryz.prog := by
  refine con_q Tryz.func34 rfl (by decide) (fun x hx hp => run_ok (Cs := [width32]) (stp := []) (inl := []) (unr := false) (cons_ok width32_ok nil_ok) 400 _ _ _ _ ?_) (by decide)
  obtain ⟨(b : List Int), (l : List Int), ⟨⟩⟩ := x
  have hz : b.length + 4 * l.length ≤ 140737488355328 := hp
  clear hx hp
  simp (maxSteps := 4000000) only [go_sem, reduceIte, reduceCtorEq, Int.reduceEq, Nat.reduceEqDiff, Nat.reduceBEq, Int.reduceLE, Int.reduceLT, Int.reduceNeg, Nat.reduceAdd, Nat.reduceSub, Nat.reduceMul, Nat.reduceLeDiff, Int.reduceToNat, Int.reduceAdd, Int.reduceSub, Int.reduceMul, Tryz.f34, put32, width32]
  (repeat' (first | (apply And.intro) | (intro _) | (show staB _ _ = true; kernel_rfl) | (show dynB _ _ = true; kernel_rfl) | (show dynP _ _ _ = true; kernel_rfl)))
  all_goals try omega
  refine OkQ.loop (α := Nat) [0, 1, 2, 3, 4, 5, 7, 8, 9, 10, 11, 14, 15, 16, 17, 18, 19, 20, 21, 22, 23, 24, 25, 26, 27, 28, 29, 30, 31, 32] (fun i => [(5, .s (.sub 0 0 (b.length + 4 * i))), (14, .s (.int .i64 (i : Int)))]) (fun i => [(0, .arr false 1 (.int .u8) (b ++ putTo l i))]) (fun i => i ≤ l.length) (fun i => l.length - i) 0 (Nat.zero_le _) ?_ fun i hi => ?_
  · simp (maxSteps := 4000000) only [go_sem, reduceIte, reduceCtorEq, Int.reduceEq, Nat.reduceEqDiff, Nat.reduceBEq, Int.reduceLE, Int.reduceLT, Int.reduceNeg, Nat.reduceAdd, Nat.reduceSub, Nat.reduceMul, Nat.reduceLeDiff, Int.reduceToNat, Int.reduceAdd, Int.reduceSub, Int.reduceMul, width32]
    all_goals first | (simp [putTo]; done) | fail
  have hlen : (b ++ putTo l i).length = b.length + 4 * i := by simp [putTo_len]
  refine run_ok (Cs := [width32]) (stp := []) (inl := []) (unr := false) (cons_ok width32_ok nil_ok) 400 _ _ _ _ ?_
  simp (maxSteps := 4000000) only [go_sem, reduceIte, reduceCtorEq, Int.reduceEq, Nat.reduceEqDiff, Nat.reduceBEq, Int.reduceLE, Int.reduceLT, Int.reduceNeg, Nat.reduceAdd, Nat.reduceSub, Nat.reduceMul, Nat.reduceLeDiff, Int.reduceToNat, Int.reduceAdd, Int.reduceSub, Int.reduceMul, hlen, width32]
  (repeat' (first | (apply And.intro) | (intro _) | (show staB _ _ = true; kernel_rfl) | (show dynB _ _ = true; kernel_rfl) | (show dynP _ _ _ = true; kernel_rfl)))
  all_goals try omega
  · refine OkQ.loop (α := Nat) [0, 1, 2, 3, 4, 5, 7, 8, 9, 10, 11, 15, 16, 17, 19, 20, 21, 22, 23, 24, 25, 26, 27, 28, 29, 30, 31, 32] (fun k => [(5, .s (.sub 0 0 (b.length + 4 * i + k))), (8, .s (.int .u32 (shrK k (l.getD i 0)))), (19, .s (.int .i64 (k : Int)))]) (fun k => [(0, .arr false 1 (.int .u8) (b ++ putTo l i ++ putK k (l.getD i 0)))]) (fun k => k ≤ 4) (fun k => 4 - k) 0 (Nat.zero_le _) ?_ fun k hk => ?_
    · simp (maxSteps := 4000000) only [go_sem, reduceIte, reduceCtorEq, Int.reduceEq, Nat.reduceEqDiff, Nat.reduceBEq, Int.reduceLE, Int.reduceLT, Int.reduceNeg, Nat.reduceAdd, Nat.reduceSub, Nat.reduceMul, Nat.reduceLeDiff, Int.reduceToNat, Int.reduceAdd, Int.reduceSub, Int.reduceMul, width32]
      exact ⟨⟨by omega, rfl, rfl⟩, by simp [putK]⟩
    have hlk : (b ++ putTo l i ++ putK k (l.getD i 0)).length = b.length + 4 * i + k := by simp [putTo_len, putK_len]; omega
    have htk : List.take (b.length + 4 * i + k) (b ++ putTo l i ++ putK k (l.getD i 0)) = b ++ putTo l i ++ putK k (l.getD i 0) := List.take_of_length_le (by omega)
    refine run_ok (Cs := [width32]) (stp := []) (inl := []) (unr := false) (cons_ok width32_ok nil_ok) 400 _ _ _ _ ?_
    simp (maxSteps := 4000000) only [go_sem, reduceIte, reduceCtorEq, Int.reduceEq, Nat.reduceEqDiff, Nat.reduceBEq, Int.reduceLE, Int.reduceLT, Int.reduceNeg, Nat.reduceAdd, Nat.reduceSub, Nat.reduceMul, Nat.reduceLeDiff, Int.reduceToNat, Int.reduceAdd, Int.reduceSub, Int.reduceMul, hlk, htk, width32]
    (repeat' (first | (apply And.intro) | (intro _) | (show staB _ _ = true; kernel_rfl) | (show dynB _ _ = true; kernel_rfl) | (show dynP _ _ _ = true; kernel_rfl)))
    all_goals try omega
    · exact ⟨k + 1, by omega, by omega, ⟨by omega, rfl, wr_succ (by omega)⟩, by rw [putK, List.append_assoc]⟩
    · have e : k = 4 := by omega
      subst e
      exact ⟨i + 1, by omega, by omega, ⟨by omega, wr_succ (by omega)⟩, by rw [putTo, List.append_assoc]⟩
  · have e : i = l.length := by omega
    subst e
    exact List.take_of_length_le (by omega)

def sealV (s : List UInt8) : List UInt8 := s ++ bsL (putV [crcV [s]])
def sumsSeal : Con := ⟨35, [(false, .str)], [(false, .str)], fun x => (x.1 : List UInt8).length + 4 ≤ 140737488355328, fun x => (sealV x.1, ()), false⟩
theorem bsL_len {l : List Int} : (bsL l).length = l.length := by simp [bsL]
theorem put1_len {x : Int} : (putV [x]).length = 4 := putTo_len
theorem sumsSeal_ok : sumsSeal.Ok Tryz.prog := by
  refine con_q Tryz.func35 rfl (by decide) (fun x hx hp => run_ok (Cs := [sumsCRC, put32]) (stp := []) (inl := []) (unr := false) (cons_ok sumsCRC_ok (cons_ok put32_ok nil_ok)) 400 _ _ _ _ ?_) (by decide)
  obtain ⟨(s : List UInt8), ⟨⟩⟩ := x
  have hz : s.length + 4 ≤ 140737488355328 := hp
  clear hp
  have hl : (putV [crcV [s]]).length = 4 := put1_len
  have htk : List.take 4 (putV [crcV [s]]) = putV [crcV [s]] := List.take_of_length_le (by omega)
  have hlb : (bsL (putV [crcV [s]])).length = 4 := bsL_len.trans hl
  simp (maxSteps := 4000000) only [go_sem, reduceIte, reduceCtorEq, Int.reduceEq, Nat.reduceEqDiff, Nat.reduceBEq, Int.reduceLE, Int.reduceLT, Int.reduceNeg, Nat.reduceAdd, Nat.reduceSub, Nat.reduceMul, Nat.reduceLeDiff, Int.reduceToNat, Int.reduceAdd, Int.reduceSub, Int.reduceMul, Tryz.f35, sumsSeal, sealV, hl, hlb, htk, sumsCRC, put32]
  (repeat' (first | (apply And.intro) | (intro _) | (show staB _ _ = true; kernel_rfl) | (show dynB _ _ = true; kernel_rfl) | (show dynP _ _ _ = true; kernel_rfl)))
  all_goals first | omega | fail

def openS (s : List UInt8) : List UInt8 := if s.length < 4 then [] else if sealV (s.take (s.length - 4)) = s then s.take (s.length - 4) else []
def openE (s : List UInt8) : Int := if s.length < 4 then 120 else if sealV (s.take (s.length - 4)) = s then 0 else 121
def sumsOpen : Con := ⟨55, [(false, .str)], [(false, .str), (false, .int .i64)], fun _ => True, fun x => (openS x.1, openE x.1, ()), false⟩
theorem sumsOpen_ok : sumsOpen.Ok Tryz.prog := by
  refine con_q Tryz.func55 rfl (by decide) (fun x hx hp => run_ok (Cs := [sumsSeal]) (stp := []) (inl := []) (unr := false) (cons_ok sumsSeal_ok nil_ok) 400 _ _ _ _ ?_) (by decide)
  obtain ⟨(s : List UInt8), ⟨⟩⟩ := x
  have hz : s.length ≤ 140737488355328 := hx.1
  clear hp
  by_cases h4 : s.length < 4
  · have hd : decide ((s.length : Int) < 4) = true := decide_eq_true (by omega)
    simp (maxSteps := 4000000) only [go_sem, reduceIte, reduceCtorEq, Int.reduceEq, Nat.reduceEqDiff, Nat.reduceBEq, Int.reduceLE, Int.reduceLT, Int.reduceNeg, Nat.reduceAdd, Nat.reduceSub, Nat.reduceMul, Nat.reduceLeDiff, Int.reduceToNat, Int.reduceAdd, Int.reduceSub, Int.reduceMul, Tryz.f55, sumsOpen, hd, sumsSeal]
    exact ⟨(if_pos h4).symm, (if_pos h4).symm⟩
  · have hd : decide ((s.length : Int) < 4) = false := decide_eq_false (by omega)
    have hw : wr .i64 ((s.length : Int) - 4) = ((s.length - 4 : Nat) : Int) := by rw [wr_i64 (by omega) (by omega)]; omega
    have ht : ((s.length - 4 : Nat) : Int).toNat = s.length - 4 := by omega
    simp (maxSteps := 4000000) only [go_sem, reduceIte, reduceCtorEq, Int.reduceEq, Nat.reduceEqDiff, Nat.reduceBEq, Int.reduceLE, Int.reduceLT, Int.reduceNeg, Nat.reduceAdd, Nat.reduceSub, Nat.reduceMul, Nat.reduceLeDiff, Int.reduceToNat, Int.reduceAdd, Int.reduceSub, Int.reduceMul, Tryz.f55, sumsOpen, hd, hw, ht, List.length_take, sumsSeal]
    (repeat' (first | (apply And.intro) | (intro _) | (show staB _ _ = true; kernel_rfl) | (show dynB _ _ = true; kernel_rfl) | (show dynP _ _ _ = true; kernel_rfl)))
    all_goals try omega
    all_goals rename_i h
    · rw [openS, if_neg h4, if_neg h]
    · rw [openE, if_neg h4, if_neg h]
    · rw [openS, if_neg h4, if_pos h]
    · rw [openE, if_neg h4, if_pos h]

end Go.Proofs.YtdepbfgnmliggaaGreatDoor.Sx
