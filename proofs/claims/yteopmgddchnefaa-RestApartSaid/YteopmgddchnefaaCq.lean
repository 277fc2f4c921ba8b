/- The law RestApart. -/
import Derived.Test.YteopmgddchnefaaLc
namespace Go.Proofs.Yteopmgddchnefaa.Sx
attribute [local irreducible] OkQ Ok
set_option linter.unusedSimpArgs false
set_option linter.unusedVariables false
set_option maxRecDepth 8000

def partL (l : List Int) (a b : Int) : List Int := (l.drop a.toNat).take (b.toNat - a.toNat)
def partV (s : tSeq.den) (a b : Int) : tSeq.den := (partL s.1 a b, partL s.2.1 a b, s.2.2.1, s.2.2.2.1, s.2.2.2.2.1, ())
def lawPart : Con := ⟨33, [(true, tSeq), (false, .int .i64), (false, .int .i64)], [(true, tSeq)],
  fun x => 0 ≤ (x.2.1 : Int) ∧ (x.2.1 : Int) ≤ (x.2.2.1 : Int) ∧ (x.2.2.1 : Int) ≤ ((x.1.1 : List Int).length : Int) ∧ (x.2.2.1 : Int) ≤ ((x.1.2.1 : List Int).length : Int), fun x => (partV x.1 x.2.1 x.2.2.1, ()), true⟩
theorem part_wf {k : IntKind} {z : Nat} {l : List Int} {a b : Int} (h : l.length * z ≤ 140737488355328 ∧ ∀ x ∈ l, k.has x) : (partL l a b).length * z ≤ 140737488355328 ∧ ∀ x ∈ partL l a b, k.has x := by
  refine ⟨Nat.le_trans (Nat.mul_le_mul_right z ?_) h.1, fun x hx => h.2 x (List.mem_of_mem_drop (List.mem_of_mem_take hx))⟩
  unfold partL
  rw [List.length_take, List.length_drop]
  omega

theorem lawPart_ok : lawPart.Ok Try.prog := by
  refine con_q Try.func33 rfl (by decide) (fun x hx hp => run_ok (Cs := []) (stp := []) (inl := []) (unr := false) nil_ok 400 _ _ _ _ ?_) (by decide)
  obtain ⟨⟨(ps : List Int), (cs : List Int), (l : Int), (so : Int), (eo : Int), ⟨⟩⟩, (a : Int), (b : Int), ⟨⟩⟩ := x
  have hp1 : 0 ≤ a := hp.1
  have hp2 : a ≤ b := hp.2.1
  have hp3 : b ≤ ps.length := hp.2.2.1
  have hp4 : b ≤ cs.length := hp.2.2.2
  have hw1 := hx.1
  clear hp hx
  have hw2 := part_wf (a := a) (b := b) hw1.1
  have hw3 := part_wf (a := a) (b := b) hw1.2.1
  simp (maxSteps := 4000000) only [go_sem, reduceIte, reduceCtorEq, Int.reduceEq, Nat.reduceEqDiff, Nat.reduceBEq, Int.reduceLE, Int.reduceLT, Int.reduceNeg, Nat.reduceAdd, Nat.reduceSub, Nat.reduceMul, Nat.reduceLeDiff, Int.reduceToNat, Int.reduceAdd, Int.reduceSub, Int.reduceMul, Try.f33, lawPart, partV]
  (repeat' (first | (apply And.intro) | (intro _) | (show staB _ _ = true; kernel_rfl) | (show dynB _ _ = true; kernel_rfl)))
  all_goals first
    | omega
    | exact hw2.1
    | exact (hw2.2 _ (by assumption)).1
    | exact (hw2.2 _ (by assumption)).2
    | exact hw3.1
    | exact (hw3.2 _ (by assumption)).1
    | exact (hw3.2 _ (by assumption)).2
    | exact hw1.2.2.1.1
    | exact hw1.2.2.1.2
    | exact hw1.2.2.2.1.1
    | exact hw1.2.2.2.1.2
    | exact hw1.2.2.2.2.1.1
    | exact hw1.2.2.2.2.1.2
    | rfl

def apAt (cs : List Int) (n : Int) : Nat := (n.tmod (cs.length : Int)).natAbs
/-- Is there a settled one at the place? -/
def apS (cs : List Int) (n : Int) : Bool := settB (cs.getD (apAt cs n) 0)
def lawRestApart : Con := ⟨6, [(true, tSeq), (false, .int .i64)], [(false, .bool)], (tyL [(true, tSeq), (false, .int .i64)]).small, fun _ => (true, ()), false⟩
def lawApart0 : Con := ⟨6, [(true, tSeq), (false, .int .i64)], [(false, .bool)], fun x => (tyL [(true, tSeq), (false, .int .i64)]).small x ∧ ¬ RsOk x.1.1 x.1.2.1 x.1.2.2.1 x.1.2.2.2.1 x.1.2.2.2.2.1, fun _ => (true, ()), false⟩
def lawApart1 : Con := ⟨6, [(true, tSeq), (false, .int .i64)], [(false, .bool)], fun x => (tyL [(true, tSeq), (false, .int .i64)]).small x ∧ RsOk x.1.1 x.1.2.1 x.1.2.2.1 x.1.2.2.2.1 x.1.2.2.2.2.1 ∧ apS x.1.2.1 x.2.1 = false, fun _ => (true, ()), false⟩
def lawApart2 : Con := ⟨6, [(true, tSeq), (false, .int .i64)], [(false, .bool)], fun x => (tyL [(true, tSeq), (false, .int .i64)]).small x ∧ RsOk x.1.1 x.1.2.1 x.1.2.2.1 x.1.2.2.2.1 x.1.2.2.2.2.1 ∧ apS x.1.2.1 x.2.1 = true ∧ Int.tmod x.2.1 ((x.1.2.1 : List Int).length : Int) < 0, fun _ => (true, ()), false⟩
def lawApart3 : Con := ⟨6, [(true, tSeq), (false, .int .i64)], [(false, .bool)], fun x => (tyL [(true, tSeq), (false, .int .i64)]).small x ∧ RsOk x.1.1 x.1.2.1 x.1.2.2.1 x.1.2.2.2.1 x.1.2.2.2.2.1 ∧ apS x.1.2.1 x.2.1 = true ∧ ¬ Int.tmod x.2.1 ((x.1.2.1 : List Int).length : Int) < 0, fun _ => (true, ()), false⟩

theorem apAt_lt {cs : List Int} {n : Int} (h : cs.length ≠ 0) : apAt cs n < cs.length := by
  have h1 := Int.tmod_lt_of_pos n (show (0 : Int) < cs.length by omega)
  have h2 := Int.lt_tmod_of_pos n (show (0 : Int) < cs.length by omega)
  unfold apAt
  omega

theorem lawApart0_ok : lawApart0.Ok Try.prog := by
  refine con_q Try.func6 rfl (by decide) (fun x hx hp => run_ok (Cs := [restResolve, restSide, awake20, lawPart]) (stp := []) (inl := []) (unr := false) (cons_ok restResolve_ok (cons_ok restSide_ok (cons_ok awake20_ok (cons_ok lawPart_ok nil_ok)))) 400 _ _ _ _ ?_) (by decide)
  obtain ⟨⟨(ps : List Int), (cs : List Int), (l : Int), (so : Int), (eo : Int), ⟨⟩⟩, (n : Int), ⟨⟩⟩ := x
  have hR : ¬ RsOk ps cs l so eo := hp.2
  clear hx hp
  have h2 := rslE_ne hR
  simp (maxSteps := 4000000) only [go_sem, reduceIte, reduceCtorEq, Int.reduceEq, Nat.reduceEqDiff, Nat.reduceBEq, Int.reduceLE, Int.reduceLT, Int.reduceNeg, Nat.reduceAdd, Nat.reduceSub, Nat.reduceMul, Nat.reduceLeDiff, Int.reduceToNat, Int.reduceAdd, Int.reduceSub, Int.reduceMul, Try.f6, lawApart0, h2, restResolve, restSide, awake20, lawPart]
  (repeat' (first | (apply And.intro) | (intro _) | (show staB _ _ = true; kernel_rfl) | (show dynB _ _ = true; kernel_rfl)))
  all_goals try omega

set_option maxHeartbeats 2000000 in
theorem lawApart1_ok : lawApart1.Ok Try.prog := by
  refine con_q Try.func6 rfl (by decide) (fun x hx hp => run_ok (Cs := [restResolve, restSide, awake20, lawPart]) (stp := []) (inl := []) (unr := false) (cons_ok restResolve_ok (cons_ok restSide_ok (cons_ok awake20_ok (cons_ok lawPart_ok nil_ok)))) 400 _ _ _ _ ?_) (by decide)
  obtain ⟨⟨(ps : List Int), (cs : List Int), (l : Int), (so : Int), (eo : Int), ⟨⟩⟩, (n : Int), ⟨⟩⟩ := x
  have hz1 : ps.length * 8 ≤ 140737488351232 := hp.1.1.1.1
  have hz2 : cs.length * 1 ≤ 140737488351232 := hp.1.1.2.1.1
  have hR : RsOk ps cs l so eo := hp.2.1
  have hs2 : settB (cs.getD (apAt cs n) 0) = false := hp.2.2
  clear hx hp
  have h1 := rslV_ok hR
  have h2 := rslE_ok hR
  have hps : ps.length = cs.length := hR.1.2.1
  have hne : ps.length ≠ 0 := hR.1.1
  have hat := apAt_lt (cs := cs) (n := n) (by omega)
  have hnz : ((cs.length : Int) = 0) = False := eq_false (by omega)
  have hun : (n.tmod (cs.length : Int)).natAbs = apAt cs n := rfl
  generalize hA : apAt cs n = at_ at *
  have q4 : (0 : Int) ≤ (at_ : Int) := by omega
  have q7 : (at_ : Int) < (cs.length : Int) := by omega
  by_cases hc : n.tmod (cs.length : Int) < 0
  · have hw3 : wr .i64 (-(n.tmod (cs.length : Int))) = (at_ : Int) := by rw [wr_i64 (by omega) (by omega)]; omega
    clear hun hR
    simp (maxSteps := 4000000) only [go_sem, reduceIte, reduceCtorEq, Int.reduceEq, Nat.reduceEqDiff, Nat.reduceBEq, Int.reduceLE, Int.reduceLT, Int.reduceNeg, Nat.reduceAdd, Nat.reduceSub, Nat.reduceMul, Nat.reduceLeDiff, Int.reduceToNat, Int.reduceAdd, Int.reduceSub, Int.reduceMul, Try.f6, lawApart1, h1, h2, hnz, hc, hw3, hs2, q4, q7, restResolve, restSide, awake20, lawPart]
    (repeat' (first | (apply And.intro) | (intro _) | (show staB _ _ = true; kernel_rfl) | (show dynB _ _ = true; kernel_rfl)))
    all_goals first | omega | contradiction | (trace_state; sorry)
  · have hc2 : n.tmod (cs.length : Int) = (at_ : Int) := by omega
    clear hun hR
    simp (maxSteps := 4000000) only [go_sem, reduceIte, reduceCtorEq, Int.reduceEq, Nat.reduceEqDiff, Nat.reduceBEq, Int.reduceLE, Int.reduceLT, Int.reduceNeg, Nat.reduceAdd, Nat.reduceSub, Nat.reduceMul, Nat.reduceLeDiff, Int.reduceToNat, Int.reduceAdd, Int.reduceSub, Int.reduceMul, Try.f6, lawApart1, h1, h2, hnz, hc, hc2, hs2, q4, q7, restResolve, restSide, awake20, lawPart]
    (repeat' (first | (apply And.intro) | (intro _) | (show staB _ _ = true; kernel_rfl) | (show dynB _ _ = true; kernel_rfl)))
    all_goals first | omega | contradiction | (trace_state; sorry)

end Go.Proofs.Yteopmgddchnefaa.Sx
