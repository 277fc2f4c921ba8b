/- The law RestSettled. -/
import Derived.Test.YteopmgddchnefaaLc
namespace Go.Proofs.Yteopmgddchnefaa.Sx
attribute [local irreducible] OkQ Ok
set_option linter.unusedSimpArgs false
set_option linter.unusedVariables false
set_option maxRecDepth 8000

def lawRestSettled : Con := ⟨8, [(true, tSeq)], [(false, .bool)], (tyL [(true, tSeq)]).small, fun _ => (true, ()), false⟩
def lawSettled0 : Con := ⟨8, [(true, tSeq)], [(false, .bool)], fun x => (tyL [(true, tSeq)]).small x ∧ ¬ RsOk x.1.1 x.1.2.1 x.1.2.2.1 x.1.2.2.2.1 x.1.2.2.2.2.1, fun _ => (true, ()), false⟩
def lawSettled1 : Con := ⟨8, [(true, tSeq)], [(false, .bool)], fun x => (tyL [(true, tSeq)]).small x ∧ RsOk x.1.1 x.1.2.1 x.1.2.2.1 x.1.2.2.2.1 x.1.2.2.2.2.1 ∧ ¬ (x.1.2.2.1 : Int) ≤ 125, fun _ => (true, ()), false⟩
def lawSettled2 : Con := ⟨8, [(true, tSeq)], [(false, .bool)], fun x => (tyL [(true, tSeq)]).small x ∧ RsOk x.1.1 x.1.2.1 x.1.2.2.1 x.1.2.2.2.1 x.1.2.2.2.2.1 ∧ (x.1.2.2.1 : Int) ≤ 125, fun _ => (true, ()), false⟩

theorem lvV_ok {ps cs : List Int} {l so eo : Int} (h : OkS ps cs l so eo ∧ l ≤ 125 ∧ ∀ c ∈ cs, settB c = true) : levelsV (ps, cs, l, so, eo, ()) = cs.map (levelV l) := by
  show lvsV ps cs l so eo = _
  rw [lvsV, if_pos h]
theorem lvE_ok {ps cs : List Int} {l so eo : Int} (h : OkS ps cs l so eo ∧ l ≤ 125 ∧ ∀ c ∈ cs, settB c = true) : levelsE (ps, cs, l, so, eo, ()) = 0 := by
  show lvsE ps cs l so eo = _
  rw [lvsE, if_pos ⟨h.1, h.2.1⟩, if_pos h.2.2]
theorem lvE_no {ps cs : List Int} {l so eo : Int} (h : ¬ l ≤ 125) : levelsE (ps, cs, l, so, eo, ()) = 170 := by
  show lvsE ps cs l so eo = _
  rw [lvsE, if_neg fun g => h g.2]

theorem lvl_way {l c : Int} (h0 : 0 ≤ l) (h1 : l ≤ 125) (hs : settB c = true) : 0 ≤ levelV l c - l ∧ levelV l c - l ≤ 2 ∧ wayV (levelV l c) = if c = 2 then 2 else 1 := by
  have e : levelV l c = if l % 2 = 1 then (if c = 2 then l else l + 1) else if c = 1 then l else if c = 2 then l + 1 else l + 2 := by
    rw [levelV, if_neg (by rw [hs]; simp; omega)]
  rw [settBt] at hs
  have hw : ∀ n : Int, 0 ≤ n → n ≤ 126 → wayV n = if n % 2 = 0 then 1 else 2 := fun n g1 g2 => by rw [wayV, if_neg (by omega)]
  rw [e]
  rcases (by omega : l % 2 = 0 ∨ l % 2 = 1) with h | h
  · rw [if_neg (by omega)]
    by_cases c1 : c = 1
    · rw [if_pos c1, hw l h0 (by omega), if_pos h, if_neg (by omega)]; omega
    · rw [if_neg c1]
      by_cases c2 : c = 2
      · rw [if_pos c2, hw (l + 1) (by omega) (by omega), if_neg (by omega), if_pos c2]; omega
      · rw [if_neg c2, if_neg c2]
        by_cases hl : l + 2 ≤ 126
        · rw [hw (l + 2) (by omega) hl, if_pos (by omega)]; omega
        · omega
  · rw [if_pos h]
    by_cases c2 : c = 2
    · rw [if_pos c2, hw l h0 (by omega), if_neg (by omega), if_pos c2]; omega
    · rw [if_neg c2, hw (l + 1) (by omega) (by omega), if_pos (by omega), if_neg c2]; omega

set_option maxHeartbeats 2000000 in
theorem lawSettled0_ok : lawSettled0.Ok Try.prog := by
  refine con_q Try.func8 rfl (by decide) (fun x hx hp => run_ok (Cs := [restResolve, restLevels, awake20, spansSame, spansCheck, spansWay, restNeutral]) (stp := []) (inl := []) (unr := false) (cons_ok restResolve_ok (cons_ok restLevels_ok (cons_ok awake20_ok (cons_ok spansSame_ok (cons_ok spansCheck_ok (cons_ok spansWay_ok (cons_ok restNeutral_ok nil_ok))))))) 400 _ _ _ _ ?_) (by decide)
  obtain ⟨⟨(ps : List Int), (cs : List Int), (l : Int), (so : Int), (eo : Int), ⟨⟩⟩, ⟨⟩⟩ := x
  have hR : ¬ RsOk ps cs l so eo := hp.2
  clear hx hp
  have h1 := rslV_no hR
  have h2 := rslE_no hR
  have h5 : checkV (ps, cs, l, so, eo, ()) = if OkS ps cs l so eo then 0 else 170 := rfl
  by_cases hok : OkS ps cs l so eo
  · rw [if_pos hok] at h2 h5
    simp (maxSteps := 4000000) only [go_sem, reduceIte, reduceCtorEq, Int.reduceEq, Nat.reduceEqDiff, Nat.reduceBEq, Int.reduceLE, Int.reduceLT, Int.reduceNeg, Nat.reduceAdd, Nat.reduceSub, Nat.reduceMul, Nat.reduceLeDiff, Int.reduceToNat, Int.reduceAdd, Int.reduceSub, Int.reduceMul, Try.f8, lawSettled0, h1, h2, h5, restResolve, restLevels, awake20, spansSame, spansCheck, spansWay, restNeutral]
    (repeat' (first | (apply And.intro) | (intro _) | (show staB _ _ = true; kernel_rfl) | (show dynB _ _ = true; kernel_rfl)))
    all_goals try omega
    all_goals first | contradiction | (trace_state; sorry)
  · rw [if_neg hok] at h2 h5
    simp (maxSteps := 4000000) only [go_sem, reduceIte, reduceCtorEq, Int.reduceEq, Nat.reduceEqDiff, Nat.reduceBEq, Int.reduceLE, Int.reduceLT, Int.reduceNeg, Nat.reduceAdd, Nat.reduceSub, Nat.reduceMul, Nat.reduceLeDiff, Int.reduceToNat, Int.reduceAdd, Int.reduceSub, Int.reduceMul, Try.f8, lawSettled0, h1, h2, h5, restResolve, restLevels, awake20, spansSame, spansCheck, spansWay, restNeutral]
    (repeat' (first | (apply And.intro) | (intro _) | (show staB _ _ = true; kernel_rfl) | (show dynB _ _ = true; kernel_rfl)))
    all_goals try omega
    all_goals first | contradiction | (trace_state; sorry)

set_option maxHeartbeats 2000000 in
theorem lawSettled1_ok : lawSettled1.Ok Try.prog := by
  refine con_q Try.func8 rfl (by decide) (fun x hx hp => run_ok (Cs := [restResolve, restLevels, awake20, spansSame, spansCheck, spansWay, restNeutral]) (stp := []) (inl := []) (unr := false) (cons_ok restResolve_ok (cons_ok restLevels_ok (cons_ok awake20_ok (cons_ok spansSame_ok (cons_ok spansCheck_ok (cons_ok spansWay_ok (cons_ok restNeutral_ok nil_ok))))))) 400 _ _ _ _ ?_) (by decide)
  obtain ⟨⟨(ps : List Int), (cs : List Int), (l : Int), (so : Int), (eo : Int), ⟨⟩⟩, ⟨⟩⟩ := x
  have hR : RsOk ps cs l so eo := hp.2.1
  have hl : ¬ l ≤ 125 := hp.2.2
  clear hx hp
  have h1 := rslV_ok hR
  have h2 := rslE_ok hR
  have hR2 := rsOk_res hR
  have h3 := rslV_ok hR2
  rw [resC_res hR] at h3
  have h4 := rslE_ok hR2
  have hs : sameSeq (ps, resC cs l so eo, l, so, eo, ()) (ps, resC cs l so eo, l, so, eo, ()) = true := sameSeq_iff.2 rfl
  have hlen : (resC cs l so eo).length = cs.length := resC_len
  have h6 := lvE_no (ps := ps) (cs := resC cs l so eo) (so := so) (eo := eo) hl
  clear hR hR2
  generalize resC cs l so eo = rk at *
  have htk : rk.take cs.length = rk := List.take_of_length_le (by omega)
  have hl2 : 125 < l := by omega
  simp (maxSteps := 4000000) only [go_sem, reduceIte, reduceCtorEq, Int.reduceEq, Nat.reduceEqDiff, Nat.reduceBEq, Int.reduceLE, Int.reduceLT, Int.reduceNeg, Nat.reduceAdd, Nat.reduceSub, Nat.reduceMul, Nat.reduceLeDiff, Int.reduceToNat, Int.reduceAdd, Int.reduceSub, Int.reduceMul, Try.f8, lawSettled1, h1, h2, h3, h4, h6, hs, hlen, htk, hl2, restResolve, restLevels, awake20, spansSame, spansCheck, spansWay, restNeutral]
  (repeat' (first | (apply And.intro) | (intro _) | (show staB _ _ = true; kernel_rfl) | (show dynB _ _ = true; kernel_rfl)))
  all_goals try omega
  all_goals first | contradiction | (trace_state; sorry)

set_option maxHeartbeats 8000000 in
theorem lawSettled2_ok : lawSettled2.Ok Try.prog := by
  refine con_q Try.func8 rfl (by decide) (fun x hx hp => run_ok (Cs := [restResolve, restLevels, awake20, spansSame, spansCheck, spansWay, restNeutral]) (stp := []) (inl := []) (unr := false) (cons_ok restResolve_ok (cons_ok restLevels_ok (cons_ok awake20_ok (cons_ok spansSame_ok (cons_ok spansCheck_ok (cons_ok spansWay_ok (cons_ok restNeutral_ok nil_ok))))))) 400 _ _ _ _ ?_) (by decide)
  obtain ⟨⟨(ps : List Int), (cs : List Int), (l : Int), (so : Int), (eo : Int), ⟨⟩⟩, ⟨⟩⟩ := x
  have hz1 : ps.length * 8 ≤ 140737488351232 := hp.1.1.1.1
  have hz2 : cs.length * 1 ≤ 140737488351232 := hp.1.1.2.1.1
  have hR : RsOk ps cs l so eo := hp.2.1
  have hl : l ≤ 125 := hp.2.2
  clear hx hp
  have h1 := rslV_ok hR
  have h2 := rslE_ok hR
  have hR2 := rsOk_res hR
  have h3 := rslV_ok hR2
  rw [resC_res hR] at h3
  have h4 := rslE_ok hR2
  have hps : ps.length = cs.length := hR.1.2.1
  have hs : sameSeq (ps, resC cs l so eo, l, so, eo, ()) (ps, resC cs l so eo, l, so, eo, ()) = true := sameSeq_iff.2 rfl
  have hlen : (resC cs l so eo).length = cs.length := resC_len
  have hl0 : 0 ≤ l := hR.1.2.2.1
  have hval : ∀ i, i < cs.length → (neutB (cs.getD i 0) = true ∧ ((resC cs l so eo).getD i 0 = 1 ∨ (resC cs l so eo).getD i 0 = 2)) ∨ (neutB (cs.getD i 0) = false ∧ settB (cs.getD i 0) = true ∧ (resC cs l so eo).getD i 0 = cs.getD i 0) := fun i hi => by
    rw [resC_at hi]; exact resAt_val hR hi
  have hset := resC_sett hR
  have hok := hR2.1
  have hlf : (125 < l) = False := eq_false (by omega)
  clear hR hR2
  generalize resC cs l so eo = rk at *
  have htk : rk.take cs.length = rk := List.take_of_length_le (by omega)
  have h5 := lvV_ok ⟨hok, hl, hset⟩
  have h6 := lvE_ok ⟨hok, hl, hset⟩
  have hml : (rk.map (levelV l)).length = cs.length := by rw [List.length_map, hlen]
  have hmk : (rk.map (levelV l)).take cs.length = rk.map (levelV l) := List.take_of_length_le (by omega)
  simp (maxSteps := 4000000) only [go_sem, reduceIte, reduceCtorEq, Int.reduceEq, Nat.reduceEqDiff, Nat.reduceBEq, Int.reduceLE, Int.reduceLT, Int.reduceNeg, Nat.reduceAdd, Nat.reduceSub, Nat.reduceMul, Nat.reduceLeDiff, Int.reduceToNat, Int.reduceAdd, Int.reduceSub, Int.reduceMul, Try.f8, lawSettled2, h1, h2, h3, h4, h5, h6, hs, hlen, hml, htk, hmk, hlf, restResolve, restLevels, awake20, spansSame, spansCheck, spansWay, restNeutral]
  (repeat' (first | (apply And.intro) | (intro _) | (show staB _ _ = true; kernel_rfl) | (show dynB _ _ = true; kernel_rfl)))
  all_goals try omega
  refine OkQ.loop (α := Nat) [0, 2, 4, 5, 7, 8, 9, 10, 11, 12, 13, 14, 15, 16, 17, 18, 19, 20, 21, 22, 23, 24, 25, 26, 27, 28, 29, 30, 31, 32, 33, 34, 35, 36, 37, 38, 39, 40, 41, 42, 43, 44, 45, 46, 47, 48, 49, 50, 51, 52, 53, 54, 55, 56, 57, 58, 59, 60, 61, 62, 63, 64, 65, 66, 67, 68, 69, 70, 71, 72, 73, 74, 75, 76, 77, 78, 79, 80, 81, 82, 83, 84, 85, 86, 87, 88, 89, 90, 91, 92, 93, 94, 95, 96, 97, 98, 99, 100, 101, 102, 103, 104, 105, 106, 107, 108, 109, 110, 111, 112, 113, 114, 115, 116, 117, 118, 119, 120, 121, 122, 123, 124, 125, 126, 127, 128, 129, 130, 131, 132, 133, 134, 135, 136, 137, 138, 139, 140, 141, 142, 143, 144, 145, 146, 147, 148, 149, 150, 151, 152, 153, 154, 155, 156, 157, 158, 159, 160, 161, 162, 163, 164, 165, 166, 167, 168, 169, 170, 171, 172, 173, 174, 175, 176, 177, 178, 179, 180, 181, 182, 183, 184, 185, 186, 187, 188, 189, 190, 191, 192, 193, 194, 195, 196, 197, 198, 199, 200] (fun i => [(7, .s (.int .i64 (i : Int)))]) (fun _ => []) (fun i => i ≤ cs.length) (fun i => cs.length - i) 0 (Nat.zero_le _) ?_ fun i hi => ?_
  · simp (maxSteps := 4000000) only [go_sem, reduceIte, reduceCtorEq, Int.reduceEq, Nat.reduceEqDiff, Nat.reduceBEq, Int.reduceLE, Int.reduceLT, Int.reduceNeg, Nat.reduceAdd, Nat.reduceSub, Nat.reduceMul, Nat.reduceLeDiff, Int.reduceToNat, Int.reduceAdd, Int.reduceSub, Int.reduceMul, restResolve, restLevels, awake20, spansSame, spansCheck, spansWay, restNeutral]
    simp
  · rcases Nat.lt_or_ge i cs.length with hlt | hge
    · have hlv : (rk.map (levelV l)).getD i 0 = levelV l (rk.getD i 0) := by
        rw [getD_at 0 (by simpa [hlen] using hlt), getD_at 0 (by simpa [hlen] using hlt)]; simp
      have hvi := hval i hlt
      have hse := hset _ (getD_mem 0 (by omega : i < rk.length))
      have hll := lvl_way hl0 hl hse
      have hlm : (i : Int) < cs.length := by omega
      have hi0 : (0 : Int) ≤ (i : Int) := by omega
      clear hval hset h1 h2 h3 h4 h5 h6 hs hok
      generalize levelV l (rk.getD i 0) = v at *
      obtain ⟨hv1, hv2, hv3⟩ := hll
      have hd : wr .i8 (v - l) = v - l := wr_i8 (by omega) (by omega)
      have hd1 : (v - l < 0) = False := eq_false (by omega)
      have hd2 : (2 < v - l) = False := eq_false (by omega)
      have hnext : wr .i64 ((i : Int) + 1) = ((i + 1 : Nat) : Int) := wr_succ (by omega)
      have hcase : (neutB (cs.getD i 0) = true ∧ rk.getD i 0 = 1) ∨ (neutB (cs.getD i 0) = true ∧ rk.getD i 0 = 2) ∨ (cs.getD i 0 = 1 ∧ rk.getD i 0 = 1) ∨ (cs.getD i 0 = 2 ∧ rk.getD i 0 = 2) ∨ (cs.getD i 0 = 4 ∧ rk.getD i 0 = 4) ∨ (cs.getD i 0 = 7 ∧ rk.getD i 0 = 7) := by
        rcases hvi with ⟨a, b | b⟩ | ⟨a, b, c⟩
        · exact .inl ⟨a, b⟩
        · exact .inr (.inl ⟨a, b⟩)
        · rw [settBt] at b
          rw [c]
          rcases b with b | b | b | b
          · exact .inr (.inr (.inl ⟨b, b⟩))
          · exact .inr (.inr (.inr (.inl ⟨b, b⟩)))
          · exact .inr (.inr (.inr (.inr (.inl ⟨b, b⟩))))
          · exact .inr (.inr (.inr (.inr (.inr ⟨b, b⟩))))
      have n1 : neutB 1 = false := rfl
      have n2 : neutB 2 = false := rfl
      have n4 : neutB 4 = false := rfl
      have n7 : neutB 7 = false := rfl
      clear hvi hse
      rcases hcase with ⟨a, b⟩ | ⟨a, b⟩ | ⟨a, b⟩ | ⟨a, b⟩ | ⟨a, b⟩ | ⟨a, b⟩
      all_goals
        simp only [b, Int.reduceEq, if_true, if_false] at hv3
        refine run_ok (Cs := [restResolve, restLevels, awake20, spansSame, spansCheck, spansWay, restNeutral]) (stp := []) (inl := []) (unr := false) (cons_ok restResolve_ok (cons_ok restLevels_ok (cons_ok awake20_ok (cons_ok spansSame_ok (cons_ok spansCheck_ok (cons_ok spansWay_ok (cons_ok restNeutral_ok nil_ok))))))) 400 _ _ _ _ ?_
        simp (maxSteps := 4000000) only [go_sem, reduceIte, reduceCtorEq, Int.reduceEq, Nat.reduceEqDiff, Nat.reduceBEq, Int.reduceLE, Int.reduceLT, Int.reduceNeg, Nat.reduceAdd, Nat.reduceSub, Nat.reduceMul, Nat.reduceLeDiff, Int.reduceToNat, Int.reduceAdd, Int.reduceSub, Int.reduceMul, hlv, hlen, hml, htk, hmk, hlm, hi0, a, b, hd, hd1, hd2, hv3, hnext, n1, n2, n4, n7, restResolve, restLevels, awake20, spansSame, spansCheck, spansWay, restNeutral]
        (repeat' (first | (apply And.intro) | (intro _) | (show staB _ _ = true; kernel_rfl) | (show dynB _ _ = true; kernel_rfl)))
        all_goals try omega
        all_goals first
          | contradiction
          | exact ⟨i + 1, by omega, by omega, rfl⟩
          | (trace_state; sorry)
    · refine run_ok (Cs := [restResolve, restLevels, awake20, spansSame, spansCheck, spansWay, restNeutral]) (stp := []) (inl := []) (unr := false) (cons_ok restResolve_ok (cons_ok restLevels_ok (cons_ok awake20_ok (cons_ok spansSame_ok (cons_ok spansCheck_ok (cons_ok spansWay_ok (cons_ok restNeutral_ok nil_ok))))))) 400 _ _ _ _ ?_
      simp (maxSteps := 4000000) only [go_sem, reduceIte, reduceCtorEq, Int.reduceEq, Nat.reduceEqDiff, Nat.reduceBEq, Int.reduceLE, Int.reduceLT, Int.reduceNeg, Nat.reduceAdd, Nat.reduceSub, Nat.reduceMul, Nat.reduceLeDiff, Int.reduceToNat, Int.reduceAdd, Int.reduceSub, Int.reduceMul, hml, hlen, htk, hmk, show ((i : Int) < cs.length) = False by simp; omega, restResolve, restLevels, awake20, spansSame, spansCheck, spansWay, restNeutral]

theorem lawRestSettled_ok : lawRestSettled.Ok Try.prog := by
  refine ⟨lawSettled0_ok.enters, fun S w vs x hS hr hwf hp i => ?_⟩
  by_cases hR : RsOk x.1.1 x.1.2.1 x.1.2.2.1 x.1.2.2.2.1 x.1.2.2.2.2.1
  · by_cases hl : (x.1.2.2.1 : Int) ≤ 125
    · exact lawSettled2_ok.calls S w vs x hS hr hwf ⟨hp, hR, hl⟩ i
    · exact lawSettled1_ok.calls S w vs x hS hr hwf ⟨hp, hR, hl⟩ i
  · exact lawSettled0_ok.calls S w vs x hS hr hwf ⟨hp, hR⟩ i

end Go.Proofs.Yteopmgddchnefaa.Sx
