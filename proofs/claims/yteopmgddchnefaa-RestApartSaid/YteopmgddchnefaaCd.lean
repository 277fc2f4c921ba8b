/- Contracts: Same. -/
import Derived.Test.YteopmgddchnefaaCc
import Derived.Test.YteopmgddchnefaaLa
namespace Go.Proofs.Yteopmgddchnefaa.Sx
attribute [local irreducible] OkQ Ok
set_option linter.unusedSimpArgs false
set_option linter.unusedVariables false
set_option maxRecDepth 8000

theorem spansSame_ok : spansSame.Ok Try.prog := by
  refine con_q Try.func36 rfl (by decide) (fun x hx hp => run_ok (Cs := [eqInts, eqClasses]) (stp := []) (inl := []) (unr := false) (cons_ok eqInts_ok (cons_ok eqClasses_ok nil_ok)) 400 _ _ _ _ ?_) (by decide)
  obtain ⟨⟨a1, a2, a3, a4, a5, u1⟩, ⟨b1, b2, b3, b4, b5, u2⟩, u3⟩ := x
  simp (maxSteps := 4000000) only [go_sem, reduceIte, reduceCtorEq, Int.reduceEq, Nat.reduceEqDiff, Nat.reduceBEq, Int.reduceLE, Int.reduceLT, Int.reduceNeg, Nat.reduceAdd, Nat.reduceSub, Nat.reduceMul, Nat.reduceLeDiff, Int.reduceToNat, Int.reduceAdd, Int.reduceSub, Int.reduceMul, Try.f36, spansSame, eqInts, eqClasses]
  simp [sameSeq, Bool.and_assoc]

def ref17Same : Con := ⟨28, [(true, tSeq), (true, tSeq)], [(false, .bool)], fun _ => True, fun x => (sameSeq x.1 x.2.1, ()), false⟩

theorem sameSeq_iff {a b : tSeq.den} : sameSeq a b = true ↔ a = b := by
  obtain ⟨a1, a2, a3, a4, a5, ⟨⟩⟩ := a
  obtain ⟨b1, b2, b3, b4, b5, ⟨⟩⟩ := b
  simp [sameSeq]
theorem sameF {a b : tSeq.den} (h : a ≠ b) : false = sameSeq a b := by
  cases e : sameSeq a b
  · rfl
  · exact absurd (sameSeq_iff.1 e) h
theorem sameT {a b : tSeq.den} (h : a = b) : true = sameSeq a b := (sameSeq_iff.2 h).symm

theorem ref17Same_ok : ref17Same.Ok Try.prog := by
  refine con_q Try.func28 rfl (by decide) (fun x hx hp => run_ok (Cs := []) (stp := []) (inl := []) (unr := false) nil_ok 400 _ _ _ _ ?_) (by decide)
  obtain ⟨⟨a1, a2, a3, a4, a5, ⟨⟩⟩, ⟨b1, b2, b3, b4, b5, ⟨⟩⟩, u3⟩ := x
  simp (maxSteps := 4000000) only [go_sem, reduceIte, reduceCtorEq, Int.reduceEq, Nat.reduceEqDiff, Nat.reduceBEq, Int.reduceLE, Int.reduceLT, Int.reduceNeg, Nat.reduceAdd, Nat.reduceSub, Nat.reduceMul, Nat.reduceLeDiff, Int.reduceToNat, Int.reduceAdd, Int.reduceSub, Int.reduceMul, Try.f28, ref17Same]
  (repeat' (first | (apply And.intro) | (intro _) | (show staB _ _ = true; kernel_rfl) | (show dynB _ _ = true; kernel_rfl)))
  · refine sameF fun e => ?_
    simp only [Prod.mk.injEq] at e
    obtain ⟨rfl, rfl, rfl, rfl, rfl, _⟩ := e
    simp_all
  · rename_i hlen
    obtain ⟨⟨⟨⟨h1, h2⟩, rfl⟩, rfl⟩, rfl⟩ := hlen
    have h1 : a1.length = b1.length := by omega
    have h2 : a2.length = b2.length := by omega
    have hz1 : a1.length * 8 ≤ 140737488355328 := hx.1.1.1
    have hz2 : a2.length * 1 ≤ 140737488355328 := hx.1.2.1.1
    clear hp hx
    refine OkQ.loop (α := Nat) [0, 1, 4, 5, 6, 7, 8, 9, 10, 11, 12, 13, 14, 15, 16, 17, 18, 19, 20, 21, 22, 23, 24, 25, 26, 27, 28, 29, 30, 31, 32, 33, 34, 35, 36, 37, 38, 39, 40, 41, 42, 43, 44, 45, 46, 47, 48, 49, 50, 51, 52, 53, 54, 55, 56, 57, 58, 59, 60, 61, 62, 63, 64, 65, 66, 67, 68, 69, 70, 71, 72, 73, 74, 75, 76, 77, 78, 79] (fun i => [(5, .s (.int .i64 (i : Int)))]) (fun _ => []) (fun i => i ≤ a1.length ∧ a1.take i = b1.take i) (fun i => a1.length - i) 0 ⟨by simp, by simp⟩ ?_ fun i hi => ?_
    · simp (maxSteps := 4000000) only [go_sem, reduceIte, reduceCtorEq, Int.reduceEq, Nat.reduceEqDiff, Nat.reduceBEq, Int.reduceLE, Int.reduceLT, Int.reduceNeg, Nat.reduceAdd, Nat.reduceSub, Nat.reduceMul, Nat.reduceLeDiff, Int.reduceToNat, Int.reduceAdd, Int.reduceSub, Int.reduceMul]
      simp
    · refine run_ok (Cs := []) (stp := []) (inl := []) (unr := false) nil_ok 400 _ _ _ _ ?_
      simp (maxSteps := 4000000) only [go_sem, reduceIte, reduceCtorEq, Int.reduceEq, Nat.reduceEqDiff, Nat.reduceBEq, Int.reduceLE, Int.reduceLT, Int.reduceNeg, Nat.reduceAdd, Nat.reduceSub, Nat.reduceMul, Nat.reduceLeDiff, Int.reduceToNat, Int.reduceAdd, Int.reduceSub, Int.reduceMul]
      obtain ⟨hi, ht⟩ := hi
      (repeat' (first | (apply And.intro) | (intro _) | (show staB _ _ = true; kernel_rfl) | (show dynB _ _ = true; kernel_rfl)))
      all_goals try omega
      · rename_i hlt hne
        refine sameF fun e => ne_at 0 hne ?_
        simp only [Prod.mk.injEq] at e
        exact e.1
      · rename_i hlt he
        exact ⟨i + 1, ⟨by omega, eq_next 0 ht (by omega) (by omega) he⟩, by omega, by rw [wr_i64 (by omega) (by omega)]; simp⟩
      · rename_i hge
        obtain rfl := eq_end ht (by omega) (by omega)
        refine OkQ.loop (α := Nat) [0, 1, 4, 5, 6, 7, 8, 9, 10, 11, 12, 13, 14, 15, 16, 17, 18, 19, 20, 21, 22, 23, 24, 25, 26, 27, 28, 29, 30, 31, 32, 33, 34, 35, 36, 37, 38, 39, 40, 41, 42, 43, 44, 45, 46, 47, 48, 49, 50, 51, 52, 53, 54, 55, 56, 57, 58, 59, 60, 61, 62, 63, 64, 65, 66, 67, 68, 69, 70, 71, 72, 73, 74, 75, 76, 77, 78, 79] (fun i => [(6, .s (.int .i64 (i : Int)))]) (fun _ => []) (fun i => i ≤ a2.length ∧ a2.take i = b2.take i) (fun i => a2.length - i) 0 ⟨by simp, by simp⟩ ?_ fun i hi => ?_
        · simp (maxSteps := 4000000) only [go_sem, reduceIte, reduceCtorEq, Int.reduceEq, Nat.reduceEqDiff, Nat.reduceBEq, Int.reduceLE, Int.reduceLT, Int.reduceNeg, Nat.reduceAdd, Nat.reduceSub, Nat.reduceMul, Nat.reduceLeDiff, Int.reduceToNat, Int.reduceAdd, Int.reduceSub, Int.reduceMul]
          simp
        · refine run_ok (Cs := []) (stp := []) (inl := []) (unr := false) nil_ok 400 _ _ _ _ ?_
          simp (maxSteps := 4000000) only [go_sem, reduceIte, reduceCtorEq, Int.reduceEq, Nat.reduceEqDiff, Nat.reduceBEq, Int.reduceLE, Int.reduceLT, Int.reduceNeg, Nat.reduceAdd, Nat.reduceSub, Nat.reduceMul, Nat.reduceLeDiff, Int.reduceToNat, Int.reduceAdd, Int.reduceSub, Int.reduceMul]
          obtain ⟨hi, ht⟩ := hi
          (repeat' (first | (apply And.intro) | (intro _) | (show staB _ _ = true; kernel_rfl) | (show dynB _ _ = true; kernel_rfl)))
          all_goals try omega
          · rename_i hlt hne
            refine sameF fun e => ne_at 0 hne ?_
            simp only [Prod.mk.injEq] at e
            exact e.2.1
          · rename_i hlt he
            exact ⟨i + 1, ⟨by omega, eq_next 0 ht (by omega) (by omega) he⟩, by omega, by rw [wr_i64 (by omega) (by omega)]; simp⟩
          · rename_i hge
            obtain rfl := eq_end ht (by omega) (by omega)
            exact sameT rfl

end Go.Proofs.Yteopmgddchnefaa.Sx
