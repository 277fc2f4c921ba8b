/- 'furrowlaw06.RowsRunes': the law returns true, and the input reads as it did. Where the listed package-level variables hold what the program's text lays (the card ties them). -/
import Derived.Test.YtpebiahdaghdlaaGreatDoorU4
import Derived.Test.YtpebiahdaghdlaaGreatDoorU3
import Derived.Lay
import Derived.Test.YtpebiahdaghdlaaGreatDoorRows
import Derived.Test.YtpebiahdaghdlaaGreatDoorTie
import Derived.Test.YtpebiahdaghdlaaGreatDoorCards
import Derived.Test.YtpebiahdaghdlaaGreatDoorU0
import Derived.Test.YtpebiahdaghdlaaGreatDoorU1
import Derived.Test.YtpebiahdaghdlaaGreatDoorU2

/-! The law RowsRunes, as a contract. -/
namespace Go.Proofs.YtpebiahdaghdlaaGreatDoor.Sx
attribute [local irreducible] OkQ Ok
set_option linter.unusedSimpArgs false
set_option linter.unusedVariables false
theorem bIUc8 : bodyI Tryz.prog 8 = bodyF Tryz.f8 := by kernel_rfl
theorem nEUc8 : isEsc Tryz.prog 8 = false := by kernel_rfl
theorem bIUc6 : bodyI Tryz.prog 6 = bodyF Tryz.f6 := by kernel_rfl
theorem nEUc6 : isEsc Tryz.prog 6 = false := by kernel_rfl
theorem bIUc7 : bodyI Tryz.prog 7 = bodyF Tryz.f7 := by kernel_rfl
theorem nEUc7 : isEsc Tryz.prog 7 = false := by kernel_rfl
theorem bIUc12 : bodyI Tryz.prog 12 = bodyF Tryz.f12 := by kernel_rfl
theorem nEUc12 : isEsc Tryz.prog 12 = false := by kernel_rfl
set_option maxRecDepth 40000

theorem getD_app_lt {l m : List RowD} {i : Nat} {d : RowD} (h : i < l.length) : (l ++ m).getD i d = l.getD i rowZ := by
  rw [List.getD_eq_getElem?_getD, List.getD_eq_getElem?_getD, List.getElem?_append_left h, List.getElem?_eq_getElem h]
  rfl
/-- How many are told. -/
def numV (few : Int) (t : Nat) : Int := if few < 1 then t else if few < (t : Int) then few else t

/-- The row and the number that the law's own walk stands at, ahead of number j of row i. -/
def PreW (xs : List RowD) (i j k : Nat) (nx : Int) : Prop :=
  (j = 0 ∧ nx = -1 ∧ k = 0 ∧ ∀ m, m < i → cntV6 (xs.getD m rowZ) = 0) ∨
  (j = 0 ∧ 0 ≤ nx ∧ nx ≤ 1114112 ∧ k < i ∧ toV (xs.getD k rowZ) < nx ∧ ∀ m, k < m → m < i → cntV6 (xs.getD m rowZ) = 0) ∨
  (k = i ∧ nx = fromV (xs.getD i rowZ) + (j : Int) ∧ 1 ≤ j)

/-- Within the law's own walk. -/
def WalkW (xs : List RowD) (i j k : Nat) (nx : Int) : Prop :=
  (j = 0 ∧ nx = -1 ∧ k = 0 ∧ ∀ m, m < i → cntV6 (xs.getD m rowZ) = 0) ∨
  (j = 0 ∧ 0 ≤ nx ∧ nx ≤ 1114112 ∧ k < i ∧ toV (xs.getD k rowZ) < nx ∧ ∀ m, k < m → m < i → cntV6 (xs.getD m rowZ) = 0) ∨
  (k = i ∧ nx = fromV (xs.getD i rowZ) + (j : Int))
theorem pre_loop {xs : List RowD} {i j k : Nat} {nx : Int} (h : PreW xs i j k nx) : WalkW xs i j k nx := by
  rcases h with h | h | ⟨h1, h2, _⟩
  · exact .inl h
  · exact .inr (.inl h)
  · exact .inr (.inr ⟨h1, h2⟩)
/-- Where the walk goes to in a row. -/
def nextV (x : RowD) : Int := if toV x < fromV x then 1114112 else fromV x
theorem cnt_zero {x : RowD} : cntV6 x = 0 ↔ toV x < fromV x := by
  unfold cntV6
  omega
theorem loop_first {xs : List RowD} {i : Nat} (hne : fromV (xs.getD i rowZ) ≤ toV (xs.getD i rowZ)) (h : ∀ m, m < i → cntV6 (xs.getD m rowZ) = 0) : WalkW xs i 0 0 (nextV (xs.getD 0 rowZ)) := by
  rcases Nat.eq_zero_or_pos i with rfl | hi
  · exact .inr (.inr ⟨rfl, by unfold nextV; rw [if_neg (by omega)]; simp⟩)
  · have h0 := cnt_zero.1 (h 0 hi)
    have := to_in (xs.getD 0 rowZ)
    refine .inr (.inl ⟨rfl, ?_, ?_, hi, ?_, fun m _ hm => h m hm⟩)
    all_goals (unfold nextV; rw [if_pos h0]; omega)
theorem loop_next {xs : List RowD} {i k : Nat} (hne : fromV (xs.getD i rowZ) ≤ toV (xs.getD i rowZ)) (hk : k < i) (h : ∀ m, k < m → m < i → cntV6 (xs.getD m rowZ) = 0) : WalkW xs i 0 (k + 1) (nextV (xs.getD (k + 1) rowZ)) := by
  rcases Nat.lt_or_ge (k + 1) i with hi | hi
  · have h0 := cnt_zero.1 (h (k + 1) (by omega) hi)
    have := to_in (xs.getD (k + 1) rowZ)
    refine .inr (.inl ⟨rfl, ?_, ?_, hi, ?_, fun m hm => h m (by omega)⟩)
    all_goals (unfold nextV; rw [if_pos h0]; omega)
  · have e : k + 1 = i := by omega
    subst e
    exact .inr (.inr ⟨rfl, by unfold nextV; rw [if_neg (by omega)]; simp⟩)
theorem pre_next {xs : List RowD} {i j k : Nat} {nx : Int} (h : PreW xs i j k nx) (hc : j = cntV6 (xs.getD i rowZ)) : PreW xs (i + 1) 0 k nx := by
  have c1 := from_in (xs.getD i rowZ)
  have c2 := to_in (xs.getD i rowZ)
  rcases h with ⟨h0, h1, h2, h3⟩ | ⟨h0, h1, h2, h3, h4, h5⟩ | ⟨h1, h2, h3⟩
  · refine .inl ⟨rfl, h1, h2, fun m hm => ?_⟩
    rcases Nat.lt_succ_iff_lt_or_eq.1 hm with hm | rfl
    · exact h3 m hm
    · omega
  · refine .inr (.inl ⟨rfl, h1, h2, by omega, h4, fun m hk hm => ?_⟩)
    rcases Nat.lt_succ_iff_lt_or_eq.1 hm with hm | rfl
    · exact h5 m hk hm
    · omega
  · subst h1
    have : toV (xs.getD k rowZ) + 1 - fromV (xs.getD k rowZ) = (j : Int) := by unfold cntV6 at hc; omega
    exact .inr (.inl ⟨rfl, by omega, by omega, by omega, by omega, fun m _ _ => by omega⟩)

def lawRowsRunes : Con := ⟨3, [(false, tRows), (false, .int .i64)], [(false, .bool)], (tyL [(false, tRows), (false, .int .i64)]).small, fun _ => (true, ()), false⟩
set_option maxHeartbeats 4000000 in
theorem lawRowsRunes_ok : lawRowsRunes.Ok Tryz.prog := by
  refine con_q Tryz.func3 rfl (by decide) (fun x hx hp => run_ok (Cs := [awake06, pts06]) (stp := []) (inl := []) (unr := false) (cons_ok awake06_ok (cons_ok pts06_ok nil_ok)) 0 _ _ _ _ ?_) (by decide)
  obtain ⟨(xs : List RowD), (few : Int), ⟨⟩⟩ := x
  have hsz : xs.length * 64 ≤ 140737488351232 := hp.1.1
  have hwf : ∀ v ∈ xs, tRow.wf v := hx.1.2
  have hw : wr .i64 ((xs.length : Int) + 1) = ((xs.length + 1 : Nat) : Int) := by rw [wr_i64 (by omega) (by omega)]; simp
  clear hx hp
  by_cases hbig : 4194304 < ptsV xs
  · have hd : decide (4194304 < (ptsV xs : Int)) = true := decide_eq_true (by omega)
    refine run_ok (Cs := [awake06, pts06]) (stp := []) (inl := []) (unr := false) (cons_ok awake06_ok (cons_ok pts06_ok nil_ok)) 400 _ _ _ _ ?_
    simp (maxSteps := 4000000) only [go_sem, reduceIte, reduceCtorEq, Int.reduceEq, Nat.reduceEqDiff, Nat.reduceBEq, Int.reduceLE, Int.reduceLT, Int.reduceNeg, Nat.reduceAdd, Nat.reduceSub, Nat.reduceMul, Nat.reduceLeDiff, Int.reduceToNat, Int.reduceAdd, Int.reduceSub, Int.reduceMul, Tryz.f3, lawRowsRunes, closed, hd, awake06, pts06]
    all_goals fail

  have hd : decide (4194304 < (ptsV xs : Int)) = false := decide_eq_false (by omega)
  refine run_ok (Cs := [awake06, pts06]) (stp := []) (inl := [6, 7]) (unr := false) (cons_ok awake06_ok (cons_ok pts06_ok nil_ok)) 400 _ _ _ _ ?_
  simp (maxSteps := 4000000) only [go_sem, reduceIte, reduceCtorEq, Int.reduceEq, Nat.reduceEqDiff, Nat.reduceBEq, Int.reduceLE, Int.reduceLT, Int.reduceNeg, Nat.reduceAdd, Nat.reduceSub, Nat.reduceMul, Nat.reduceLeDiff, Int.reduceToNat, Int.reduceAdd, Int.reduceSub, Int.reduceMul, Tryz.f3, lawRowsRunes, closed, hd, hw, bIUc6, nEUc6, Tryz.f6, bIUc7, nEUc7, Tryz.f7, awake06, pts06]
  (repeat' (first | (apply And.intro) | (intro _) | (show staB _ _ = true; kernel_rfl) | (show dynB _ _ = true; kernel_rfl) | (show dynP _ _ _ = true; kernel_rfl)))
  all_goals try omega
  have htot : ptsV xs = totV xs := by unfold ptsV; rw [pts_tot xs 0 (by unfold ptsV at hbig; omega)]; omega
  refine OkQ.cut (α := Int) 2 [] (fun _ => []) (fun y => [(7, .box 3 [.int .i64 y])]) 8 (fun y => y = numV few (totV xs)) (by rfl) ?_ fun y hy => ?_
  · simp (maxSteps := 4000000) only [go_sem, reduceIte, reduceCtorEq, Int.reduceEq, Nat.reduceEqDiff, Nat.reduceBEq, Int.reduceLE, Int.reduceLT, Int.reduceNeg, Nat.reduceAdd, Nat.reduceSub, Nat.reduceMul, Nat.reduceLeDiff, Int.reduceToNat, Int.reduceAdd, Int.reduceSub, Int.reduceMul, awake06, pts06]
    refine run_ok (Cs := []) (stp := []) (inl := [12]) (unr := false) nil_ok 400 _ _ _ _ ?_
    simp (maxSteps := 4000000) only [go_sem, reduceIte, reduceCtorEq, Int.reduceEq, Nat.reduceEqDiff, Nat.reduceBEq, Int.reduceLE, Int.reduceLT, Int.reduceNeg, Nat.reduceAdd, Nat.reduceSub, Nat.reduceMul, Nat.reduceLeDiff, Int.reduceToNat, Int.reduceAdd, Int.reduceSub, Int.reduceMul, bIUc12, nEUc12, Tryz.f12]
    (repeat' (first | (apply And.intro) | (intro _) | (show staB _ _ = true; kernel_rfl) | (show dynB _ _ = true; kernel_rfl) | (show dynP _ _ _ = true; kernel_rfl)))
    refine OkQ.loop (α := Nat) [1, 2, 3, 4, 5, 8, 9, 10, 11, 12, 13, 14, 15, 16, 17, 18, 19, 20, 21, 22, 23, 24, 25, 26, 27] (fun i => [(8, .s (.int .i64 (i : Int)))]) (fun i => [(7, .box 3 [.int .i64 (totV (xs.take i) : Int)])]) (fun i => i ≤ xs.length ∧ (few < 1 ∨ (totV (xs.take i) : Int) < few)) (fun i => xs.length - i) 0 ⟨by omega, by simp [totV]; omega⟩ ?_ fun i hi => ?_
    · simp (maxSteps := 4000000) only [go_sem, reduceIte, reduceCtorEq, Int.reduceEq, Nat.reduceEqDiff, Nat.reduceBEq, Int.reduceLE, Int.reduceLT, Int.reduceNeg, Nat.reduceAdd, Nat.reduceSub, Nat.reduceMul, Nat.reduceLeDiff, Int.reduceToNat, Int.reduceAdd, Int.reduceSub, Int.reduceMul]
      all_goals first | rfl | exact ⟨rfl, rfl⟩ | fail
    obtain ⟨hi, hf⟩ := hi
    rcases Nat.lt_or_ge i xs.length with hlt | hge
    · have hd2 : decide ((i : Int) < (xs.length : Int)) = true := decide_eq_true (by omega)
      obtain ⟨x, hx⟩ : ∃ x, x = xs.getD i rowZ := ⟨_, rfl⟩
      have hg : (xs ++ [(-77, 0, 0, [], [], 0, 0, 0, false, ())]).getD i (0, 0, 0, [], [], 0, 0, 0, false, ()) = x := by rw [hx]; exact getD_app_lt hlt
      have hnx : totV (xs.take (i + 1)) = totV (xs.take i) + cntV6 x := by rw [hx]; exact tot_next hlt
      have hle : totV (xs.take (i + 1)) ≤ totV xs := tot_le (i + 1)
      obtain ⟨⟨a1, a2⟩, ⟨b1, b2⟩⟩ := row_at hwf i
      rw [← hx] at a1 a2 b1 b2
      have c1 := from_in x
      have c2 := to_in x
      have c3 := from_le a2
      have c4 := to_ge b1
      have c5 := cnt_le x
      have hcnt : (cntV6 x : Int) = if fromV x ≤ toV x then toV x - fromV x + 1 else 0 := by unfold cntV6; split <;> omega
      refine run_ok (Cs := []) (stp := []) (inl := []) (unr := false) nil_ok 400 _ _ _ _ ?_
      simp (maxSteps := 4000000) only [go_sem, reduceIte, reduceCtorEq, Int.reduceEq, Nat.reduceEqDiff, Nat.reduceBEq, Int.reduceLE, Int.reduceLT, Int.reduceNeg, Nat.reduceAdd, Nat.reduceSub, Nat.reduceMul, Nat.reduceLeDiff, Int.reduceToNat, Int.reduceAdd, Int.reduceSub, Int.reduceMul, hd2, hg, fromE, toE, fromE', toE']
      (repeat' (first | (apply And.intro) | (intro _) | (show staB _ _ = true; kernel_rfl) | (show dynB _ _ = true; kernel_rfl) | (show dynP _ _ _ = true; kernel_rfl)))
      all_goals try omega
      refine OkQ.loop (α := Nat) [1, 2, 3, 5, 9, 10, 11, 12, 13, 14, 15, 16, 17, 18, 19, 20, 21, 22, 23, 24, 25, 26, 27] (fun j => [(5, .s (.int .i32 (fromV x + (j : Int))))]) (fun j => [(7, .box 3 [.int .i64 ((totV (xs.take i) + j : Nat) : Int)])]) (fun j => j ≤ cntV6 x ∧ (few < 1 ∨ ((totV (xs.take i) + j : Nat) : Int) < few)) (fun j => cntV6 x - j) 0 ⟨by omega, by simpa using hf⟩ ?_ fun j hj => ?_
      · simp (maxSteps := 4000000) only [go_sem, reduceIte, reduceCtorEq, Int.reduceEq, Nat.reduceEqDiff, Nat.reduceBEq, Int.reduceLE, Int.reduceLT, Int.reduceNeg, Nat.reduceAdd, Nat.reduceSub, Nat.reduceMul, Nat.reduceLeDiff, Int.reduceToNat, Int.reduceAdd, Int.reduceSub, Int.reduceMul]
        all_goals first | rfl | exact ⟨rfl, rfl⟩ | exact ⟨(Int.add_zero _).symm, rfl⟩ | fail
      obtain ⟨hj, hf2⟩ := hj
      refine run_ok (Cs := []) (stp := []) (inl := []) (unr := false) nil_ok 400 _ _ _ _ ?_
      simp (maxSteps := 4000000) only [go_sem, reduceIte, reduceCtorEq, Int.reduceEq, Nat.reduceEqDiff, Nat.reduceBEq, Int.reduceLE, Int.reduceLT, Int.reduceNeg, Nat.reduceAdd, Nat.reduceSub, Nat.reduceMul, Nat.reduceLeDiff, Int.reduceToNat, Int.reduceAdd, Int.reduceSub, Int.reduceMul, fromE, toE, fromE', toE']
      (repeat' (first | (apply And.intro) | (intro _) | (show staB _ _ = true; kernel_rfl) | (show dynB _ _ = true; kernel_rfl) | (show dynP _ _ _ = true; kernel_rfl)))
      all_goals try omega
      · rename_i h1 h2
        rw [if_pos (by omega)] at hcnt
        rw [wr_i64 (by omega) (by omega)] at h2 ⊢
        refine ⟨_, ?_, rfl⟩
        unfold numV
        split
        · omega
        · split <;> omega
      · rename_i h1 h2
        rw [if_pos (by omega)] at hcnt
        rw [wr_i64 (by omega) (by omega)] at h2 ⊢
        rw [wr_i32 (by omega) (by omega)]
        exact ⟨j + 1, ⟨by omega, by omega⟩, by omega, by omega, by omega⟩
      · rename_i h1
        refine ⟨i + 1, ⟨by omega, ?_⟩, by omega, by rw [wr_i64 (by omega) (by omega)]; simp, ?_⟩
        · split at hcnt <;> omega
        · split at hcnt <;> omega
    · have e : i = xs.length := by omega
      subst e
      have hd2 : decide ((xs.length : Int) < (xs.length : Int)) = false := decide_eq_false (by omega)
      refine run_ok (Cs := []) (stp := []) (inl := []) (unr := false) nil_ok 400 _ _ _ _ ?_
      simp (maxSteps := 4000000) only [go_sem, reduceIte, reduceCtorEq, Int.reduceEq, Nat.reduceEqDiff, Nat.reduceBEq, Int.reduceLE, Int.reduceLT, Int.reduceNeg, Nat.reduceAdd, Nat.reduceSub, Nat.reduceMul, Nat.reduceLeDiff, Int.reduceToNat, Int.reduceAdd, Int.reduceSub, Int.reduceMul, hd2]
      (repeat' (first | (apply And.intro) | (intro _) | (show staB _ _ = true; kernel_rfl) | (show dynB _ _ = true; kernel_rfl) | (show dynP _ _ _ = true; kernel_rfl)))
      all_goals try omega
      rw [List.take_length] at hf
      refine ⟨_, ?_, rfl⟩
      unfold numV
      split
      · rfl
      · split <;> omega
  · simp (maxSteps := 4000000) only [go_sem, reduceIte, reduceCtorEq, Int.reduceEq, Nat.reduceEqDiff, Nat.reduceBEq, Int.reduceLE, Int.reduceLT, Int.reduceNeg, Nat.reduceAdd, Nat.reduceSub, Nat.reduceMul, Nat.reduceLeDiff, Int.reduceToNat, Int.reduceAdd, Int.reduceSub, Int.reduceMul]
    refine run_ok (Cs := [pts06]) (stp := [13]) (inl := []) (unr := false) (cons_ok pts06_ok nil_ok) 400 _ _ _ _ ?_
    simp (maxSteps := 4000000) only [go_sem, reduceIte, reduceCtorEq, Int.reduceEq, Nat.reduceEqDiff, Nat.reduceBEq, Int.reduceLE, Int.reduceLT, Int.reduceNeg, Nat.reduceAdd, Nat.reduceSub, Nat.reduceMul, Nat.reduceLeDiff, Int.reduceToNat, Int.reduceAdd, Int.reduceSub, Int.reduceMul, pts06]
    refine OkQ.cut (α := Unit) 2 [8, 33, 34, 35, 36, 37, 38, 39, 40, 41, 42, 43, 44, 45, 46, 47, 48, 49, 50, 51, 52] (fun _ => []) (fun _ => []) 8 (fun _ => True) (by rfl) ?_ fun _ _ => ?_
    · simp (maxSteps := 4000000) only [go_sem, reduceIte, reduceCtorEq, Int.reduceEq, Nat.reduceEqDiff, Nat.reduceBEq, Int.reduceLE, Int.reduceLT, Int.reduceNeg, Nat.reduceAdd, Nat.reduceSub, Nat.reduceMul, Nat.reduceLeDiff, Int.reduceToNat, Int.reduceAdd, Int.reduceSub, Int.reduceMul, pts06]
      rcases Decidable.em (few < 1) with hf1 | hf1
      · have d1 : decide (few < 1) = true := decide_eq_true hf1
        have d2 : decide (1 ≤ few) = false := decide_eq_false (by omega)
        have hy : y = (totV xs : Int) := by rw [hy]; exact if_pos hf1
        subst hy
        refine run_ok (Cs := [pts06]) (stp := []) (inl := []) (unr := false) (cons_ok pts06_ok nil_ok) 400 _ _ _ _ ?_
        simp (maxSteps := 4000000) only [go_sem, reduceIte, reduceCtorEq, Int.reduceEq, Nat.reduceEqDiff, Nat.reduceBEq, Int.reduceLE, Int.reduceLT, Int.reduceNeg, Nat.reduceAdd, Nat.reduceSub, Nat.reduceMul, Nat.reduceLeDiff, Int.reduceToNat, Int.reduceAdd, Int.reduceSub, Int.reduceMul, d1, d2, htot, pts06]
        exact fun _ => ⟨(), trivial⟩
      · have d1 : decide (few < 1) = false := decide_eq_false hf1
        have d2 : decide (1 ≤ few) = true := decide_eq_true (by omega)
        have hy : y = if few < (totV xs : Int) then few else totV xs := by rw [hy]; exact if_neg hf1
        have d3 : decide (y = if (totV xs : Int) < few then (totV xs : Int) else few) = true := decide_eq_true (by rw [hy]; split <;> split <;> omega)
        refine run_ok (Cs := [pts06]) (stp := []) (inl := []) (unr := false) (cons_ok pts06_ok nil_ok) 400 _ _ _ _ ?_
        simp (maxSteps := 4000000) only [go_sem, reduceIte, reduceCtorEq, Int.reduceEq, Nat.reduceEqDiff, Nat.reduceBEq, Int.reduceLE, Int.reduceLT, Int.reduceNeg, Nat.reduceAdd, Nat.reduceSub, Nat.reduceMul, Nat.reduceLeDiff, Int.reduceToNat, Int.reduceAdd, Int.reduceSub, Int.reduceMul, d1, d2, d3, htot, pts06]
        exact fun _ => ⟨(), trivial⟩
    simp (maxSteps := 4000000) only [go_sem, reduceIte, reduceCtorEq, Int.reduceEq, Nat.reduceEqDiff, Nat.reduceBEq, Int.reduceLE, Int.reduceLT, Int.reduceNeg, Nat.reduceAdd, Nat.reduceSub, Nat.reduceMul, Nat.reduceLeDiff, Int.reduceToNat, Int.reduceAdd, Int.reduceSub, Int.reduceMul, pts06]
    refine run_ok (Cs := []) (stp := [18]) (inl := []) (unr := false) nil_ok 400 _ _ _ _ ?_
    simp (maxSteps := 4000000) only [go_sem, reduceIte, reduceCtorEq, Int.reduceEq, Nat.reduceEqDiff, Nat.reduceBEq, Int.reduceLE, Int.reduceLT, Int.reduceNeg, Nat.reduceAdd, Nat.reduceSub, Nat.reduceMul, Nat.reduceLeDiff, Int.reduceToNat, Int.reduceAdd, Int.reduceSub, Int.reduceMul]
    refine OkQ.cut (α := Nat × Int) 2 [53] (fun _ => []) (fun z => [(8, .box 3 [.int .i64 (z.1 : Int)]), (9, .box 21 [.int .i32 z.2])]) 10 (fun _ => True) (by rfl) ?_ fun z _ => ?_
    · simp (maxSteps := 4000000) only [go_sem, reduceIte, reduceCtorEq, Int.reduceEq, Nat.reduceEqDiff, Nat.reduceBEq, Int.reduceLE, Int.reduceLT, Int.reduceNeg, Nat.reduceAdd, Nat.reduceSub, Nat.reduceMul, Nat.reduceLeDiff, Int.reduceToNat, Int.reduceAdd, Int.reduceSub, Int.reduceMul]
      refine run_ok (Cs := []) (stp := []) (inl := [12]) (unr := false) nil_ok 400 _ _ _ _ ?_
      simp (maxSteps := 4000000) only [go_sem, reduceIte, reduceCtorEq, Int.reduceEq, Nat.reduceEqDiff, Nat.reduceBEq, Int.reduceLE, Int.reduceLT, Int.reduceNeg, Nat.reduceAdd, Nat.reduceSub, Nat.reduceMul, Nat.reduceLeDiff, Int.reduceToNat, Int.reduceAdd, Int.reduceSub, Int.reduceMul, bIUc12, nEUc12, Tryz.f12]
      (repeat' (first | (apply And.intro) | (intro _) | (show staB _ _ = true; kernel_rfl) | (show dynB _ _ = true; kernel_rfl) | (show dynP _ _ _ = true; kernel_rfl)))
      refine OkQ.loop (α := Nat × Nat × Int) [1, 2, 3, 4, 5, 8, 9, 10, 11, 12, 13, 14, 15, 16, 17, 18, 19, 20, 21, 22, 23, 24, 25, 26, 27] (fun a => [(8, .s (.int .i64 (a.1 : Int)))]) (fun a => [(8, .box 3 [.int .i64 (a.2.1 : Int)]), (9, .box 21 [.int .i32 a.2.2])]) (fun a => a.1 ≤ xs.length ∧ PreW xs a.1 0 a.2.1 a.2.2) (fun a => xs.length - a.1) (0, 0, -1) ⟨by dsimp only; omega, .inl ⟨rfl, rfl, rfl, fun m hm => by dsimp only at hm; omega⟩⟩ ?_ fun a hi => ?_
      · simp (maxSteps := 4000000) only [go_sem, reduceIte, reduceCtorEq, Int.reduceEq, Nat.reduceEqDiff, Nat.reduceBEq, Int.reduceLE, Int.reduceLT, Int.reduceNeg, Nat.reduceAdd, Nat.reduceSub, Nat.reduceMul, Nat.reduceLeDiff, Int.reduceToNat, Int.reduceAdd, Int.reduceSub, Int.reduceMul]
        all_goals first | rfl | exact ⟨rfl, rfl⟩ | exact ⟨rfl, rfl, rfl⟩ | fail
      obtain ⟨i, k, nx⟩ := a
      obtain ⟨(hi : i ≤ xs.length), (hpre : PreW xs i 0 k nx)⟩ := hi
      rcases Nat.lt_or_ge i xs.length with hlt | hge
      · have hd2 : decide ((i : Int) < (xs.length : Int)) = true := decide_eq_true (by omega)
        obtain ⟨x, hx⟩ : ∃ x, x = xs.getD i rowZ := ⟨_, rfl⟩
        have hg : (xs ++ [(-77, 0, 0, [], [], 0, 0, 0, false, ())]).getD i (0, 0, 0, [], [], 0, 0, 0, false, ()) = x := by rw [hx]; exact getD_app_lt hlt
        obtain ⟨⟨a1, a2⟩, ⟨b1, b2⟩⟩ := row_at hwf i
        rw [← hx] at a1 a2 b1 b2
        have c1 := from_in x
        have c2 := to_in x
        have c3 := from_le a2
        have c4 := to_ge b1
        have c5 := cnt_le x
        have hcnt : (cntV6 x : Int) = if fromV x ≤ toV x then toV x - fromV x + 1 else 0 := by unfold cntV6; split <;> omega
        refine run_ok (Cs := []) (stp := []) (inl := []) (unr := false) nil_ok 400 _ _ _ _ ?_
        simp (maxSteps := 4000000) only [go_sem, reduceIte, reduceCtorEq, Int.reduceEq, Nat.reduceEqDiff, Nat.reduceBEq, Int.reduceLE, Int.reduceLT, Int.reduceNeg, Nat.reduceAdd, Nat.reduceSub, Nat.reduceMul, Nat.reduceLeDiff, Int.reduceToNat, Int.reduceAdd, Int.reduceSub, Int.reduceMul, hd2, hg, fromE, toE, fromE', toE']
        (repeat' (first | (apply And.intro) | (intro _) | (show staB _ _ = true; kernel_rfl) | (show dynB _ _ = true; kernel_rfl) | (show dynP _ _ _ = true; kernel_rfl)))
        all_goals try omega
        refine OkQ.loop (α := Nat × Nat × Int) [1, 2, 3, 5, 9, 10, 11, 12, 13, 14, 15, 16, 17, 18, 19, 20, 21, 22, 23, 24, 25, 26, 27] (fun a => [(5, .s (.int .i32 (fromV x + (a.1 : Int))))]) (fun a => [(8, .box 3 [.int .i64 (a.2.1 : Int)]), (9, .box 21 [.int .i32 a.2.2])]) (fun a => a.1 ≤ cntV6 x ∧ PreW xs i a.1 a.2.1 a.2.2) (fun a => cntV6 x - a.1) (0, k, nx) ⟨by dsimp only; omega, hpre⟩ ?_ fun a hj => ?_
        · simp (maxSteps := 4000000) only [go_sem, reduceIte, reduceCtorEq, Int.reduceEq, Nat.reduceEqDiff, Nat.reduceBEq, Int.reduceLE, Int.reduceLT, Int.reduceNeg, Nat.reduceAdd, Nat.reduceSub, Nat.reduceMul, Nat.reduceLeDiff, Int.reduceToNat, Int.reduceAdd, Int.reduceSub, Int.reduceMul]
          all_goals first | rfl | exact ⟨rfl, rfl⟩ | exact ⟨(Int.add_zero _).symm, rfl⟩ | exact (Int.add_zero _).symm | fail
        obtain ⟨j, k, nx⟩ := a
        obtain ⟨(hj : j ≤ cntV6 x), (hpre : PreW xs i j k nx)⟩ := hj
        refine run_ok (Cs := []) (stp := []) (inl := []) (unr := false) nil_ok 400 _ _ _ _ ?_
        simp (maxSteps := 4000000) only [go_sem, reduceIte, reduceCtorEq, Int.reduceEq, Nat.reduceEqDiff, Nat.reduceBEq, Int.reduceLE, Int.reduceLT, Int.reduceNeg, Nat.reduceAdd, Nat.reduceSub, Nat.reduceMul, Nat.reduceLeDiff, Int.reduceToNat, Int.reduceAdd, Int.reduceSub, Int.reduceMul, fromE, toE, fromE', toE']
        (repeat' (first | (apply And.intro) | (intro _) | (show staB _ _ = true; kernel_rfl) | (show dynB _ _ = true; kernel_rfl) | (show dynP _ _ _ = true; kernel_rfl)))
        all_goals try omega
        · rename_i hle
          have hx : xs.getD i rowZ = x := hx.symm
          have hne : fromV x ≤ toV x := by omega
          refine OkQ.loop (α := Nat × Int) [56, 57, 58, 59, 60, 61, 62, 63, 64, 65, 66, 67, 68, 69, 70, 71, 72, 73, 74, 75, 76, 77, 78, 79, 80, 81, 82, 83, 84, 85, 86, 87, 88, 89] (fun _ => []) (fun a => [(8, .box 3 [.int .i64 (a.1 : Int)]), (9, .box 21 [.int .i32 a.2])]) (fun a => WalkW xs i j a.1 a.2) (fun a => (i - a.1) + if a.2 = -1 then 1 else 0) (k, nx) (pre_loop hpre) ?_ fun a hl => ?_
          · simp (maxSteps := 4000000) only [go_sem, reduceIte, reduceCtorEq, Int.reduceEq, Nat.reduceEqDiff, Nat.reduceBEq, Int.reduceLE, Int.reduceLT, Int.reduceNeg, Nat.reduceAdd, Nat.reduceSub, Nat.reduceMul, Nat.reduceLeDiff, Int.reduceToNat, Int.reduceAdd, Int.reduceSub, Int.reduceMul]
            all_goals first | rfl | exact ⟨rfl, rfl⟩ | fail
          obtain ⟨k, nx⟩ := a
          obtain ⟨z, hz⟩ : ∃ z, z = xs.getD k rowZ := ⟨_, rfl⟩
          have hzg : xs.getD k (0, 0, 0, [], [], 0, 0, 0, false, ()) = z := hz.symm
          rcases hl with ⟨h0, (h1 : nx = -1), (h2 : k = 0), h3⟩ | ⟨h0, (h1 : 0 ≤ nx), (h2 : nx ≤ 1114112), (h3 : k < i), h4, h5⟩ | ⟨(h1 : k = i), h2⟩
          · subst h1 h2 h0
            have hc0 : ((0 : Nat) : Int) = 0 := rfl
            have d0 : decide ((0 : Int) ≤ -1) = false := rfl
            have d1 : decide ((-1 : Int) < 0) = true := rfl
            have d2 : decide ((xs.length : Int) ≤ ((0 : Nat) : Int)) = false := decide_eq_false (by omega)
            have dl : decide ((xs.length : Int) ≤ 0) = false := decide_eq_false (by omega)
            have hl := loop_first (xs := xs) (i := i) (by rw [hx]; exact hne) h3
            rw [← hz] at hl
            refine run_ok (Cs := []) (stp := []) (inl := []) (unr := false) nil_ok 13 _ _ _ _ ?_
            simp (maxSteps := 4000000) only [go_sem, reduceIte, reduceCtorEq, Int.reduceEq, Nat.reduceEqDiff, Nat.reduceBEq, Int.reduceLE, Int.reduceLT, Int.reduceNeg, Nat.reduceAdd, Nat.reduceSub, Nat.reduceMul, Nat.reduceLeDiff, Int.reduceToNat, Int.reduceAdd, Int.reduceSub, Int.reduceMul, fromE, toE, fromE', toE', hzg, dl, hc0, d0, d1, d2]
            (repeat' (first | (apply And.intro) | (intro _) | (show staB _ _ = true; kernel_rfl) | (show dynB _ _ = true; kernel_rfl) | (show dynP _ _ _ = true; kernel_rfl)))
            all_goals try omega
            refine run_ok (Cs := []) (stp := []) (inl := []) (unr := false) nil_ok 400 _ _ _ _ ?_
            simp (maxSteps := 4000000) only [go_sem, reduceIte, reduceCtorEq, Int.reduceEq, Nat.reduceEqDiff, Nat.reduceBEq, Int.reduceLE, Int.reduceLT, Int.reduceNeg, Nat.reduceAdd, Nat.reduceSub, Nat.reduceMul, Nat.reduceLeDiff, Int.reduceToNat, Int.reduceAdd, Int.reduceSub, Int.reduceMul, fromE, toE, fromE', toE', hzg, dl, hc0, d0, d1, d2]
            (repeat' (first | (apply And.intro) | (intro _) | (show staB _ _ = true; kernel_rfl) | (show dynB _ _ = true; kernel_rfl) | (show dynP _ _ _ = true; kernel_rfl)))
            all_goals try omega
            · rename_i h
              have e : nextV z = 1114112 := if_pos h
              exact ⟨(0, nextV z), hl, by dsimp only; rw [e]; simp, rfl, e.symm⟩
            · rename_i h
              have e : nextV z = fromV z := if_neg h
              have := from_in z
              exact ⟨(0, nextV z), hl, by dsimp only; rw [e, if_neg (by omega)]; omega, rfl, e.symm⟩
          · subst h0
            obtain ⟨z', hz'⟩ : ∃ z', z' = xs.getD (k + 1) rowZ := ⟨_, rfl⟩
            have hzg' : xs.getD (k + 1) (0, 0, 0, [], [], 0, 0, 0, false, ()) = z' := hz'.symm
            have hwk : wr .i64 ((k : Int) + 1) = ((k + 1 : Nat) : Int) := by rw [wr_i64 (by omega) (by omega)]; simp
            have hl := loop_next (xs := xs) (i := i) (by rw [hx]; exact hne) h3 h5
            rw [← hz'] at hl
            rw [← hz] at h4
            have dA : decide (nx < 0) = false := decide_eq_false (by omega)
            have dA' : decide (0 ≤ nx) = true := decide_eq_true (by omega)
            have dB : decide (toV z < nx) = true := decide_eq_true h4
            have dl : decide ((xs.length : Int) ≤ ((k + 1 : Nat) : Int)) = false := decide_eq_false (by omega)
            refine run_ok (Cs := []) (stp := []) (inl := []) (unr := false) nil_ok 13 _ _ _ _ ?_
            simp (maxSteps := 4000000) only [go_sem, reduceIte, reduceCtorEq, Int.reduceEq, Nat.reduceEqDiff, Nat.reduceBEq, Int.reduceLE, Int.reduceLT, Int.reduceNeg, Nat.reduceAdd, Nat.reduceSub, Nat.reduceMul, Nat.reduceLeDiff, Int.reduceToNat, Int.reduceAdd, Int.reduceSub, Int.reduceMul, fromE, toE, fromE', toE', hzg, hwk, dA, dA', dB]
            (repeat' (first | (apply And.intro) | (intro _) | (show staB _ _ = true; kernel_rfl) | (show dynB _ _ = true; kernel_rfl) | (show dynP _ _ _ = true; kernel_rfl)))
            all_goals try omega
            refine run_ok (Cs := []) (stp := []) (inl := []) (unr := false) nil_ok 400 _ _ _ _ ?_
            simp (maxSteps := 4000000) only [go_sem, reduceIte, reduceCtorEq, Int.reduceEq, Nat.reduceEqDiff, Nat.reduceBEq, Int.reduceLE, Int.reduceLT, Int.reduceNeg, Nat.reduceAdd, Nat.reduceSub, Nat.reduceMul, Nat.reduceLeDiff, Int.reduceToNat, Int.reduceAdd, Int.reduceSub, Int.reduceMul, fromE, toE, fromE', toE', hzg, hzg', hwk, dl, dA']
            (repeat' (first | (apply And.intro) | (intro _) | (show staB _ _ = true; kernel_rfl) | (show dynB _ _ = true; kernel_rfl) | (show dynP _ _ _ = true; kernel_rfl)))
            all_goals try omega
            · rename_i h
              have e : nextV z' = 1114112 := if_pos h
              exact ⟨(k + 1, nextV z'), hl, by dsimp only; rw [e, if_neg (by omega), if_neg (by omega)]; omega, rfl, e.symm⟩
            · rename_i h
              have e : nextV z' = fromV z' := if_neg h
              have := from_in z'
              exact ⟨(k + 1, nextV z'), hl, by dsimp only; rw [e, if_neg (by omega), if_neg (by omega)]; omega, rfl, e.symm⟩
          · subst h1
            rw [hx] at hz h2
            subst hz
            have dA : decide (nx < 0) = false := decide_eq_false (by omega)
            have dB : decide (toV z < nx) = false := decide_eq_false (by omega)
            have dC : decide (fromV z + (j : Int) = nx) = true := decide_eq_true (by omega)
            have hwn : wr .i32 (nx + 1) = nx + 1 := wr_i32 (by omega) (by omega)
            have hwj : wr .i32 (fromV z + (j : Int) + 1) = fromV z + (j : Int) + 1 := wr_i32 (by omega) (by omega)
            refine run_ok (Cs := []) (stp := []) (inl := []) (unr := false) nil_ok 6 _ _ _ _ ?_
            simp (maxSteps := 4000000) only [go_sem, reduceIte, reduceCtorEq, Int.reduceEq, Nat.reduceEqDiff, Nat.reduceBEq, Int.reduceLE, Int.reduceLT, Int.reduceNeg, Nat.reduceAdd, Nat.reduceSub, Nat.reduceMul, Nat.reduceLeDiff, Int.reduceToNat, Int.reduceAdd, Int.reduceSub, Int.reduceMul, fromE, toE, fromE', toE', hzg, dA, dB]
            (repeat' (first | (apply And.intro) | (intro _) | (show staB _ _ = true; kernel_rfl) | (show dynB _ _ = true; kernel_rfl) | (show dynP _ _ _ = true; kernel_rfl)))
            all_goals try omega
            refine run_ok (Cs := []) (stp := []) (inl := []) (unr := false) nil_ok 400 _ _ _ _ ?_
            simp (maxSteps := 4000000) only [go_sem, reduceIte, reduceCtorEq, Int.reduceEq, Nat.reduceEqDiff, Nat.reduceBEq, Int.reduceLE, Int.reduceLT, Int.reduceNeg, Nat.reduceAdd, Nat.reduceSub, Nat.reduceMul, Nat.reduceLeDiff, Int.reduceToNat, Int.reduceAdd, Int.reduceSub, Int.reduceMul, fromE, toE, fromE', toE', hzg, hwn, hwj, dC, closed, rowI, eqC, eqC1, eqRow]
            (repeat' (first | (apply And.intro) | (intro _) | (show staB _ _ = true; kernel_rfl) | (show dynB _ _ = true; kernel_rfl) | (show dynP _ _ _ = true; kernel_rfl)))
            all_goals try omega
            subst h2
            exact ⟨(j + 1, k, fromV z + (j : Int) + 1), ⟨by dsimp only; rw [if_pos hne] at hcnt; omega, .inr (.inr ⟨rfl, by rw [hx]; push_cast; omega, by omega⟩)⟩, by dsimp only; rw [if_pos hne] at hcnt; omega, by push_cast; omega, rfl, rfl⟩
        · rename_i hle
          have hc : j = cntV6 (xs.getD i rowZ) := by rw [← hx]; split at hcnt <;> omega
          exact ⟨(i + 1, k, nx), ⟨by dsimp only; omega, pre_next hpre hc⟩, by dsimp only; omega, by rw [wr_i64 (by omega) (by omega)]; simp, rfl, rfl⟩
      · have e : i = xs.length := by omega
        subst e
        have hd2 : decide ((xs.length : Int) < (xs.length : Int)) = false := decide_eq_false (by omega)
        refine run_ok (Cs := []) (stp := []) (inl := []) (unr := false) nil_ok 400 _ _ _ _ ?_
        simp (maxSteps := 4000000) only [go_sem, reduceIte, reduceCtorEq, Int.reduceEq, Nat.reduceEqDiff, Nat.reduceBEq, Int.reduceLE, Int.reduceLT, Int.reduceNeg, Nat.reduceAdd, Nat.reduceSub, Nat.reduceMul, Nat.reduceLeDiff, Int.reduceToNat, Int.reduceAdd, Int.reduceSub, Int.reduceMul, hd2]
        (repeat' (first | (apply And.intro) | (intro _) | (show staB _ _ = true; kernel_rfl) | (show dynB _ _ = true; kernel_rfl) | (show dynP _ _ _ = true; kernel_rfl)))
        all_goals try omega
        exact ⟨(k, nx), rfl, rfl⟩

    · simp (maxSteps := 4000000) only [go_sem, reduceIte, reduceCtorEq, Int.reduceEq, Nat.reduceEqDiff, Nat.reduceBEq, Int.reduceLE, Int.reduceLT, Int.reduceNeg, Nat.reduceAdd, Nat.reduceSub, Nat.reduceMul, Nat.reduceLeDiff, Int.reduceToNat, Int.reduceAdd, Int.reduceSub, Int.reduceMul]
      refine run_ok (Cs := [sameRows, awake06]) (stp := []) (inl := [8]) (unr := false) (cons_ok sameRows_ok (cons_ok awake06_ok nil_ok)) 400 _ _ _ _ ?_
      simp (maxSteps := 4000000) only [go_sem, reduceIte, reduceCtorEq, Int.reduceEq, Nat.reduceEqDiff, Nat.reduceBEq, Int.reduceLE, Int.reduceLT, Int.reduceNeg, Nat.reduceAdd, Nat.reduceSub, Nat.reduceMul, Nat.reduceLeDiff, Int.reduceToNat, Int.reduceAdd, Int.reduceSub, Int.reduceMul, closed, rowI, eqC, eqC1, eqRow, hw, bIUc8, nEUc8, Tryz.f8, sameRows, awake06]
      (repeat' (first | (apply And.intro) | (intro _) | (show staB _ _ = true; kernel_rfl) | (show dynB _ _ = true; kernel_rfl) | (show dynP _ _ _ = true; kernel_rfl)))
      all_goals first
        | omega
        | (simp [List.getD_eq_getElem?_getD]; done)
        | fail

end Go.Proofs.YtpebiahdaghdlaaGreatDoor.Sx

/-! The world in which a row's listed variables are laid. -/
namespace Go.Proofs.YtpebiahdaghdlaaGreatDoor.Sx
set_option linter.unusedSimpArgs false
set_option linter.unusedVariables false

theorem laidMet_layOver {P : Program} {w0 : World} {laid : List (String × DataW Unit)} (args : Array Value) (hf : w0.layFits P laid [] = true) (hi : w0.layIfaces P laid (w0.layVars P laid) = true) :
    laidMet P laid ((w0.layVars P laid).forCall (fun _ _ => 0) ⟨#[], args, []⟩).memory := by
  have e1 : (laid.filter fun x => (laid.map (·.1)).contains x.1) = laid := List.filter_eq_self.2 fun x hx => List.contains_iff_mem.2 (List.mem_map.2 ⟨x, hx, rfl⟩)
  have e2 : (laid.filter fun x => !(laid.map (·.1)).contains x.1) = [] := List.filter_eq_nil_iff.2 fun x hx => by rw [List.contains_iff_mem.2 (List.mem_map.2 ⟨x, hx, rfl⟩)]; simp
  have h : laidMet P laid (w0.layVars P laid) := laidMet_layVars (w0 := w0) (laid.map (·.1)) [] (by rw [e1]) (by rw [e1]; exact hf) (by rw [e1]; exact hi) (by rw [e2]; exact LaidIn.none)
  exact h.of_heap (by simp [World.memory, World.forCall, Input.heap])

end Go.Proofs.YtpebiahdaghdlaaGreatDoor.Sx

/-! The listed variables of the seat's rows: what they say of errors.errorType, and a world in which they are laid. -/
namespace Go.Proofs.YtpebiahdaghdlaaGreatDoor.Sx
attribute [local irreducible] OkQ Ok
set_option linter.unusedSimpArgs false
set_option linter.unusedVariables false
open Go.RowKit

def laidL : List (String × DataW Unit) := [("math/bits.deBruijn32tab", Rows.laid_math_bits_deBruijn32tab), ("math/bits.deBruijn64tab", Rows.laid_math_bits_deBruijn64tab), ("internal/strconv.uint64pow10", Rows.laid_internal_strconv_uint64pow10), ("unicode/utf8.acceptRanges", Rows.laid_unicode_utf8_acceptRanges), ("errors.errorType", Rows.laid_errors_errorType), ("strconv.ErrRange", Rows.laid_strconv_ErrRange), ("strconv.ErrSyntax", Rows.laid_strconv_ErrSyntax), ("unicode/utf8.first", Rows.laid_unicode_utf8_first)]
def laidP : List (String × DataW Unit) := [("math/bits.deBruijn32tab", Rows.laid_math_bits_deBruijn32tab), ("math/bits.deBruijn64tab", Rows.laid_math_bits_deBruijn64tab), ("internal/strconv.uint64pow10", Rows.laid_internal_strconv_uint64pow10), ("unicode/utf8.acceptRanges", Rows.laid_unicode_utf8_acceptRanges), ("strconv.ErrRange", Rows.laid_strconv_ErrRange), ("strconv.ErrSyntax", Rows.laid_strconv_ErrSyntax), ("unicode/utf8.first", Rows.laid_unicode_utf8_first)]
theorem laid_et : Tryz.prog.globalNamed "errors.errorType" = some 0 := by kernel_rfl
theorem laid_rt : (Tryz.prog.cutTypes.find? (·.1 == "internal/reflectlite.rtype")).map (·.2) = some 89 := by kernel_rfl
theorem laid_size : ∃ n, Tryz.prog.types.size = n ∧ ((List.range n).filter fun t => Tryz.prog.rowNamed t [101, 114, 114, 111, 114]) = [35] := ⟨_, rfl, by kernel_rfl⟩
/-- What the condition gives a walk: the variable's one cell. -/
theorem laid_GW {W : World} (h : laidMetH Tryz.prog laidL W) : GW W := by
  have h' : laidMet Tryz.prog laidP W ∧ handlesMet Tryz.prog [("errors.errorType", Rows.laid_errors_errorType)] W := h
  obtain ⟨name, u, ty, e1, e2, e3, e4, e5⟩ := h'.2 _ (List.mem_singleton.2 rfl)
  have en : name = [101, 114, 114, 111, 114] := (Option.some.inj e1).symm
  subst en
  obtain rfl := Option.some.inj (laid_rt.symm.trans e2)
  obtain ⟨n, hn, hone⟩ := laid_size
  have hm : ty ∈ (List.range n).filter fun t => Tryz.prog.rowNamed t [101, 114, 114, 111, 114] := List.mem_filter.2 ⟨List.mem_range.2 (by rw [← hn]; exact e3), e4⟩
  rw [hone] at hm
  obtain rfl := List.mem_singleton.1 hm
  have hh : typeHandle Tryz.prog 35 = .pointer (some ⟨9, 35, none⟩) := by kernel_rfl
  rw [hh] at e5
  unfold GW
  simpa using World.var?_cell laid_et e5 0

/-- A world that meets the condition: the settled one, the variables laid. -/
noncomputable def laidW0 (os : Os) : World :=
  let w0 := World.holding Tryz.prog os ⟨#[], #[], []⟩
  { w0 with heap := w0.heap.modify 0 fun
      | .cells _ t frozen => .cells #[.iface 89 (.agg #[.pointer (some ⟨9, 35, none⟩)])] t frozen
      | o => o }
noncomputable def laidWorld (os : Os) : World := (laidW0 os).layVars Tryz.prog laidP
theorem laidWorld_os (os : Os) : (laidWorld os).os = os := World.layVars_os _ _ _
set_option maxRecDepth 100000 in
theorem laidWorld_met (os : Os) (args : Array Value) : laidMetH Tryz.prog laidL ((laidWorld os).forCall (fun _ _ => 0) ⟨#[], args, []⟩).memory :=
  laidMetH_of_parts (show laidMet Tryz.prog laidP _ from laidMet_layOver args (by kernel_rfl) (by kernel_rfl)) (by kernel_rfl)

end Go.Proofs.YtpebiahdaghdlaaGreatDoor.Sx

/-! 'furrowlaw06.RowsRunes': the law returns true, and the input reads as it did. Where the listed package-level variables hold what the program's text lays (the card ties them). -/
namespace Go.Proofs.YtpebiahdaghdlaaGreatDoor.RowsRunes
set_option linter.unusedSimpArgs false
set_option linter.unusedVariables false
open Go.ChangeShapes Go.WideShapes Go.ChangeAt Go.RowKit Go.Proofs.YtpebiahdaghdlaaGreatDoor.Sx

theorem own : ownKnob Tryz.prog.godebug = none := by kernel_rfl
theorem laidOut : laidOutB Tryz.prog = true := by kernel_rfl

set_option maxRecDepth 100000 in
theorem lifted (os : Os) (started : os.Started) (H : Type) (enc : TypeId × Value → H) :
    ReturnsInHanded {} Tryz.checked os 3 .any (fun w args => (Rows.rowsRunesSpec.pre enc Tryz.prog Tryz.f3 [] false w args ∧ laidMetH Tryz.prog laidL w) ∧ sizedMet enc Tryz.prog Tryz.f3 (OpenSpec.ofChange Rows.rowsRunesSpec) false w args)
      (Rows.rowsRunesSpec.post enc Tryz.prog Tryz.f3 false true false false) :=
  law_liftedX (C := Tryz.checked) (pl := [(false, tRows), (false, .int .i64)]) (tb := 4) (X := fun w _ => laidMetH Tryz.prog laidL w) (fun _ _ _ hh h => h.of_heap hh) (fun _ _ h => laid_GW h) lawRowsRunes_ok laidOut rfl (fun ds h => match ds, h with | [_, _], _ => rfl)
    ⟨⟨by kernel_rfl, by kernel_rfl, by kernel_rfl, by kernel_rfl, by kernel_rfl⟩, ⟨by kernel_rfl, by kernel_rfl, by kernel_rfl, by kernel_rfl, by kernel_rfl⟩, trivial⟩ (by kernel_rfl) (by kernel_rfl) own started (by kernel_rfl) Tryz.func3
    (ChangeSpec.witness_at (enc := enc) (C := Tryz.checked) (os := os) (X := fun w _ => laidMetH Tryz.prog laidL w) false (laidWorld os) #[.slice none 0 0, .int .i64 0] 8 (laidWorld_os os) (by kernel_rfl) (by kernel_rfl) (by kernel_rfl) (by kernel_rfl) (by kernel_rfl) (laidWorld_met os _))

theorem rowHolds : Rows.RowsRunesSaid :=
  OpenClaim.holds_of_wide 3 Tryz.f3 rfl rfl rfl rfl rfl rfl rfl ⟨rfl, rfl, rfl, rfl, rfl⟩ rfl rfl rfl rfl rfl (by kernel_rfl) Tryz.func3 (by kernel_rfl)
    (of_decide_eq_true (by kernel_rfl)) (by unfold Func.isWrapper; first | (rw [if_pos (by decide +kernel)]; kernel_rfl) | (rw [if_neg (by decide +kernel)]; exact ⟨rfl, rfl⟩))
    (fun os started H enc _ => lifted os started H enc)

theorem proved : Rows.RowsRunesCardSaid :=
  Claim7.holds_tied_plain_at .later [] [.data, .data, .data, .data, .handle, .sentinel, .sentinel, .pinned] true (true, Rows.rowsRunesCard.stood.harness.2) true
    rowHolds (fun _ h => by cases h) (by kernel_rfl) (fun _ h => by cases h) rowsRunes_row_tie rfl ⟨rfl, rfl⟩ (by kernel_rfl) rfl
    (fun f fn hf hfn => by
      obtain rfl : f = 3 := Option.some.inj ((show Tryz.prog.funcNamed "furrow/furrowlaw06.RowsRunes" = some 3 by kernel_rfl).symm.trans hf) |>.symm
      obtain rfl : fn = Tryz.f3 := (Option.some.inj (Tryz.func3.symm.trans hfn)).symm
      exact ⟨by kernel_rfl, fun j t ht => by
        have key : ∀ t ∈ Tryz.f3.params.toList, Tryz.prog.wantsStandIn t = false := by decide +kernel
        exact key t (List.mem_of_getElem? (by simpa using ht))⟩)
    (by kernel_rfl)

#print axioms proved
end Go.Proofs.YtpebiahdaghdlaaGreatDoor.RowsRunes
