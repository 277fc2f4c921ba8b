/- Contracts: Resolve. -/
import Derived.Test.YteopmgddchnefaaLb
namespace Go.Proofs.Yteopmgddchnefaa.Sx
attribute [local irreducible] OkQ Ok
set_option linter.unusedSimpArgs false
set_option linter.unusedVariables false
set_option maxRecDepth 8000

def NoEarly (cs : List Int) : Prop := ∀ c ∈ cs, earlyB c = false
instance (cs : List Int) : Decidable (NoEarly cs) := by unfold NoEarly; infer_instance
def RsOk (ps cs : List Int) (l so eo : Int) : Prop := OkS ps cs l so eo ∧ NoEarly cs
instance (ps cs : List Int) (l so eo : Int) : Decidable (RsOk ps cs l so eo) := by unfold RsOk; infer_instance
def rsE (ps cs : List Int) (l so eo : Int) : Int := if OkS ps cs l so eo then (if NoEarly cs then 0 else 200) else 170
def rsP (ps cs : List Int) (l so eo : Int) : List Int := if RsOk ps cs l so eo then ps else []
def rsK (ps cs : List Int) (l so eo : Int) : List Int := if RsOk ps cs l so eo then resC cs l so eo else []
def rsN (ps cs : List Int) (l so eo n : Int) : Int := if RsOk ps cs l so eo then n else 0
def resolveV (s : tSeq.den) : tSeq.den := (rsP s.1 s.2.1 s.2.2.1 s.2.2.2.1 s.2.2.2.2.1, rsK s.1 s.2.1 s.2.2.1 s.2.2.2.1 s.2.2.2.2.1,
  rsN s.1 s.2.1 s.2.2.1 s.2.2.2.1 s.2.2.2.2.1 s.2.2.1, rsN s.1 s.2.1 s.2.2.1 s.2.2.2.1 s.2.2.2.2.1 s.2.2.2.1, rsN s.1 s.2.1 s.2.2.1 s.2.2.2.1 s.2.2.2.2.1 s.2.2.2.2.1, ())
def resolveE (s : tSeq.den) : Int := rsE s.1 s.2.1 s.2.2.1 s.2.2.2.1 s.2.2.2.2.1

def restResolve : Con := ⟨26, [(true, tSeq)], [(true, tSeq), (false, .int .i64)], fun _ => True, fun x => (resolveV x.1, resolveE x.1, ()), false⟩
def refResolve : Con := ⟨27, [(true, tSeq)], [(true, tSeq), (false, .int .i64)], fun _ => True, fun x => (resolveV x.1, resolveE x.1, ()), false⟩

theorem restResolve_ok : restResolve.Ok Try.prog := by
  refine con_q Try.func26 rfl (by decide) (fun x hx hp => run_ok (Cs := [spansCheck, restSide, restNeutral, spansCopy, spansWay]) (stp := []) (inl := []) (unr := false) (cons_ok spansCheck_ok (cons_ok restSide_ok (cons_ok restNeutral_ok (cons_ok spansCopy_ok (cons_ok spansWay_ok nil_ok))))) 400 _ _ _ _ ?_) (by decide)
  obtain ⟨⟨(ps : List Int), (cs : List Int), (l : Int), (so : Int), (eo : Int), ⟨⟩⟩, ⟨⟩⟩ := x
  have hz1 : ps.length * 8 ≤ 140737488355328 := hx.1.1.1
  have hz2 : cs.length * 1 ≤ 140737488355328 := hx.1.2.1.1
  clear hp hx
  simp (maxSteps := 4000000) only [go_sem, reduceIte, reduceCtorEq, Int.reduceEq, Nat.reduceEqDiff, Nat.reduceBEq, Int.reduceLE, Int.reduceLT, Int.reduceNeg, Nat.reduceAdd, Nat.reduceSub, Nat.reduceMul, Nat.reduceLeDiff, Int.reduceToNat, Int.reduceAdd, Int.reduceSub, Int.reduceMul, Try.f26, restResolve, checkV, resolveV, resolveE, chkV_eq, spansCheck, restSide, restNeutral, spansCopy, spansWay]
  refine fun _ => ⟨fun h => ?_, fun hok => ?_⟩
  · have g : ¬ RsOk ps cs l so eo := fun g => h g.1
    exact ⟨⟨if_neg g, if_neg g, (if_neg g).symm, (if_neg g).symm, (if_neg g).symm⟩, by rw [chkV, rsE, if_neg h, if_neg h]⟩
  · have hlen : ps.length = cs.length := hok.2.1
    have hcl : ∀ i, i < cs.length → (earlyB (cs.getD i 0) = true ↔ (settB (cs.getD i 0) = false ∧ neutB (cs.getD i 0) = false)) := fun i hi => by
      obtain ⟨_, h1, h2, h3⟩ := hok.2.2.2.2.2.2 i (by omega)
      exact neut_sett h1 h2 h3
    refine OkQ.loop (α := Nat) [0, 3, 4, 5, 6, 7, 8, 9, 10, 11, 12, 13, 14, 15, 16, 17, 18, 19, 20, 21, 22, 25, 26, 27, 28, 29, 30, 31, 32, 33, 34, 35, 36, 37, 38, 39, 40, 41, 42, 43, 44, 45, 46, 47, 48, 49, 50, 51, 52, 53, 54, 55, 56, 57, 58, 59, 60, 61, 62, 63, 64, 65, 66, 67, 68, 69, 70, 71, 72, 73, 74, 75, 76, 77, 78, 79, 80, 81, 82, 83, 84, 85, 86, 87, 88, 89, 90, 91, 92, 93, 94, 95, 96, 97, 98, 99, 100, 101, 102, 103, 104, 105, 106, 107, 108, 109, 110, 111, 112, 113] (fun i => [(25, .s (.int .i64 (i : Int)))]) (fun _ => []) (fun i => i ≤ cs.length ∧ ∀ j, j < i → settB (cs.getD j 0) = true ∨ neutB (cs.getD j 0) = true) (fun i => cs.length - i) 0 ⟨by simp, by simp⟩ ?_ fun i hi => ?_
    · simp (maxSteps := 4000000) only [go_sem, reduceIte, reduceCtorEq, Int.reduceEq, Nat.reduceEqDiff, Nat.reduceBEq, Int.reduceLE, Int.reduceLT, Int.reduceNeg, Nat.reduceAdd, Nat.reduceSub, Nat.reduceMul, Nat.reduceLeDiff, Int.reduceToNat, Int.reduceAdd, Int.reduceSub, Int.reduceMul, spansCheck, restSide, restNeutral, spansCopy, spansWay]
      simp
    · refine run_ok (Cs := [restSide, restNeutral, spansCopy, spansWay]) (stp := [12]) (inl := []) (unr := false) (cons_ok restSide_ok (cons_ok restNeutral_ok (cons_ok spansCopy_ok (cons_ok spansWay_ok nil_ok)))) 400 _ _ _ _ ?_
      simp (maxSteps := 4000000) only [go_sem, reduceIte, reduceCtorEq, Int.reduceEq, Nat.reduceEqDiff, Nat.reduceBEq, Int.reduceLE, Int.reduceLT, Int.reduceNeg, Nat.reduceAdd, Nat.reduceSub, Nat.reduceMul, Nat.reduceLeDiff, Int.reduceToNat, Int.reduceAdd, Int.reduceSub, Int.reduceMul, restSide, restNeutral, spansCopy, spansWay]
      obtain ⟨hi, ht⟩ := hi
      (repeat' (first | (apply And.intro) | (intro _) | (show staB _ _ = true; kernel_rfl) | (show dynB _ _ = true; kernel_rfl)))
      all_goals try omega
      · rename_i hlt _ hg
        have hne : ¬ RsOk ps cs l so eo := fun g => by
          have := g.2 _ (getD_mem 0 (by omega : i < cs.length))
          rw [(hcl i (by omega)).2 hg] at this; cases this
        exact if_neg hne
      · rename_i hlt _ hg
        have hne : ¬ RsOk ps cs l so eo := fun g => by
          have := g.2 _ (getD_mem 0 (by omega : i < cs.length))
          rw [(hcl i (by omega)).2 hg] at this; cases this
        exact if_neg hne
      · rename_i hlt _ hg
        have hne : ¬ RsOk ps cs l so eo := fun g => by
          have := g.2 _ (getD_mem 0 (by omega : i < cs.length))
          rw [(hcl i (by omega)).2 hg] at this; cases this
        exact (if_neg hne).symm
      · rename_i hlt _ hg
        have hne : ¬ RsOk ps cs l so eo := fun g => by
          have := g.2 _ (getD_mem 0 (by omega : i < cs.length))
          rw [(hcl i (by omega)).2 hg] at this; cases this
        exact (if_neg hne).symm
      · rename_i hlt _ hg
        have hne : ¬ RsOk ps cs l so eo := fun g => by
          have := g.2 _ (getD_mem 0 (by omega : i < cs.length))
          rw [(hcl i (by omega)).2 hg] at this; cases this
        exact (if_neg hne).symm
      · rename_i hlt _ hg
        have hne : ¬ NoEarly cs := fun g => by
          have := g _ (getD_mem 0 (by omega : i < cs.length))
          rw [(hcl i (by omega)).2 hg] at this; cases this
        rw [rsE, if_pos hok, if_neg hne]
      · rename_i hlt _ hg
        refine ⟨i + 1, ⟨by omega, fun j hj => ?_⟩, by omega, by rw [wr_i64 (by omega) (by omega)]; simp⟩
        by_cases e : j < i
        · exact ht j e
        · rw [show j = i by omega]; exact hg
      · have hn : ∀ j, j < cs.length → settB (cs.getD j 0) = true ∨ neutB (cs.getD j 0) = true := fun j hj => ht j (by omega)
        have hR : RsOk ps cs l so eo := ⟨hok, fun c hc => by
          obtain ⟨j, hj, rfl⟩ := List.mem_iff_getElem.1 hc
          cases e : earlyB cs[j] with
          | false => rfl
          | true =>
            have h1 := (hcl j hj).1 (by rw [getD_at 0 hj]; exact e)
            have h2 := hn j hj
            rw [h1.1, h1.2] at h2; rcases h2 with h2 | h2 <;> cases h2⟩
        rw [show rsP ps cs l so eo = ps from if_pos hR, show rsK ps cs l so eo = resC cs l so eo from if_pos hR, show rsN ps cs l so eo l = l from if_pos hR, show rsN ps cs l so eo so = so from if_pos hR, show rsN ps cs l so eo eo = eo from if_pos hR,
          show rsE ps cs l so eo = 0 by rw [rsE, if_pos hR.1, if_pos hR.2]]
        clear hi ht hcl
        refine run_ok (Cs := [restSide, restNeutral, spansCopy, spansWay]) (stp := []) (inl := []) (unr := false) (cons_ok restSide_ok (cons_ok restNeutral_ok (cons_ok spansCopy_ok (cons_ok spansWay_ok nil_ok)))) 400 _ _ _ _ ?_
        simp (maxSteps := 4000000) only [go_sem, reduceIte, reduceCtorEq, Int.reduceEq, Nat.reduceEqDiff, Nat.reduceBEq, Int.reduceLE, Int.reduceLT, Int.reduceNeg, Nat.reduceAdd, Nat.reduceSub, Nat.reduceMul, Nat.reduceLeDiff, Int.reduceToNat, Int.reduceAdd, Int.reduceSub, Int.reduceMul, restSide, restNeutral, spansCopy, spansWay]
        refine OkQ.loop (α := Nat) [0, 3, 4, 5, 6, 7, 8, 10, 11, 12, 13, 14, 15, 16, 17, 18, 19, 20, 21, 22, 23, 24, 25, 26, 27, 28, 29, 30, 31, 32, 33, 34, 35, 36, 37, 38, 39, 40, 41, 42, 43, 44, 45, 46, 47, 48, 49, 50, 51, 52, 53, 54, 55, 56, 57, 58, 59, 60, 61, 62, 63, 64, 65, 66, 67, 68, 69, 70, 71, 72, 73, 74, 75, 76, 77, 78, 79, 80, 81, 82, 83, 84, 85, 86, 87, 88, 89, 90, 91, 92, 93, 94, 95, 96, 97, 98, 99, 100, 101, 102, 103, 104, 105, 106, 107, 108, 109, 110, 111, 112, 113] (fun i => [(10, .s (.int .u8 (ahdAt cs so i))), (11, .s (.int .i64 (i : Int)))]) (fun i => [(3, .arr false 1 (.int .u8) (mixC cs l so eo i))]) (fun i => i ≤ cs.length) (fun i => cs.length - i) 0 (Nat.zero_le _) ?_ fun i hi => ?_
        · simp (maxSteps := 4000000) only [go_sem, reduceIte, reduceCtorEq, Int.reduceEq, Nat.reduceEqDiff, Nat.reduceBEq, Int.reduceLE, Int.reduceLT, Int.reduceNeg, Nat.reduceAdd, Nat.reduceSub, Nat.reduceMul, Nat.reduceLeDiff, Int.reduceToNat, Int.reduceAdd, Int.reduceSub, Int.reduceMul, restSide, restNeutral, spansCopy, spansWay]
          simp [mixC_zero, ahdAt]
        · refine run_ok (Cs := [restSide, restNeutral, spansCopy, spansWay]) (stp := []) (inl := []) (unr := false) (cons_ok restSide_ok (cons_ok restNeutral_ok (cons_ok spansCopy_ok (cons_ok spansWay_ok nil_ok)))) 400 _ _ _ _ ?_
          simp (maxSteps := 4000000) only [go_sem, reduceIte, reduceCtorEq, Int.reduceEq, Nat.reduceEqDiff, Nat.reduceBEq, Int.reduceLE, Int.reduceLT, Int.reduceNeg, Nat.reduceAdd, Nat.reduceSub, Nat.reduceMul, Nat.reduceLeDiff, Int.reduceToNat, Int.reduceAdd, Int.reduceSub, Int.reduceMul, restSide, restNeutral, spansCopy, spansWay]
          (repeat' (first | (apply And.intro) | (intro _) | (show staB _ _ = true; kernel_rfl) | (show dynB _ _ = true; kernel_rfl)))
          all_goals try omega
          · rename_i hlt _ hg
            have hlt' : i < cs.length := by omega
            rw [mixC_at hlt', if_neg (Nat.lt_irrefl _)] at hg ⊢
            have hnn := sett_neut hg
            exact ⟨i + 1, by omega, by omega, ⟨by rw [ahdAt, hnn]; rfl, by rw [wr_i64 (by omega) (by omega)]; simp⟩, mixC_skip hlt' hnn⟩
          · rename_i hlt _ hg
            have hlt' : i < cs.length := by omega
            rw [mixC_at hlt', if_neg (Nat.lt_irrefl _)] at hg
            have hni : neutB (cs.getD i 0) = true := (hn i hlt').resolve_left (by rw [hg]; simp)
            clear hlt
            refine OkQ.loop (α := Nat) [0, 3, 4, 5, 6, 7, 8, 12, 13, 14, 15, 16, 17, 18, 19, 20, 21, 22, 23, 24, 25, 26, 27, 28, 29, 30, 31, 32, 33, 34, 35, 36, 37, 38, 39, 40, 41, 42, 43, 44, 45, 46, 47, 48, 49, 50, 51, 52, 53, 54, 55, 56, 57, 58, 59, 60, 61, 62, 63, 64, 65, 66, 67, 68, 69, 70, 71, 72, 73, 74, 75, 76, 77, 78, 79, 80, 81, 82, 83, 84, 85, 86, 87, 88, 89, 90, 91, 92, 93, 94, 95, 96, 97, 98, 99, 100, 101, 102, 103, 104, 105, 106, 107, 108, 109, 110, 111, 112, 113] (fun k => [(14, .s (.int .i64 (k : Int)))]) (fun _ => []) (fun k => i ≤ k ∧ k ≤ cs.length ∧ ∀ j, i ≤ j → j < k → neutB (cs.getD j 0) = true) (fun k => cs.length - k) i ⟨Nat.le_refl _, hi, fun j h1 h2 => by omega⟩ ?_ fun k hk => ?_
            · simp (maxSteps := 4000000) only [go_sem, reduceIte, reduceCtorEq, Int.reduceEq, Nat.reduceEqDiff, Nat.reduceBEq, Int.reduceLE, Int.reduceLT, Int.reduceNeg, Nat.reduceAdd, Nat.reduceSub, Nat.reduceMul, Nat.reduceLeDiff, Int.reduceToNat, Int.reduceAdd, Int.reduceSub, Int.reduceMul, restSide, restNeutral, spansCopy, spansWay]
            · refine run_ok (Cs := [restSide, restNeutral, spansCopy, spansWay]) (stp := []) (inl := []) (unr := false) (cons_ok restSide_ok (cons_ok restNeutral_ok (cons_ok spansCopy_ok (cons_ok spansWay_ok nil_ok)))) 400 _ _ _ _ ?_
              simp (maxSteps := 4000000) only [go_sem, reduceIte, reduceCtorEq, Int.reduceEq, Nat.reduceEqDiff, Nat.reduceBEq, Int.reduceLE, Int.reduceLT, Int.reduceNeg, Nat.reduceAdd, Nat.reduceSub, Nat.reduceMul, Nat.reduceLeDiff, Int.reduceToNat, Int.reduceAdd, Int.reduceSub, Int.reduceMul, restSide, restNeutral, spansCopy, spansWay]
              obtain ⟨hk1, hk2, hk3⟩ := hk
              (repeat' (first | (apply And.intro) | (intro _) | (show staB _ _ = true; kernel_rfl) | (show dynB _ _ = true; kernel_rfl)))
              all_goals try omega
              · rename_i hg2
                rw [mixC_at (by omega), if_neg (by omega)] at hg2
                refine ⟨k + 1, ⟨by omega, by omega, fun j h1 h2 => ?_⟩, by omega, by rw [wr_i64 (by omega) (by omega)]; simp⟩
                by_cases e : j < k
                · exact hk3 j h1 e
                · rw [show j = k by omega]; exact hg2.2
              · rename_i g1 g2 _ g3 _
                rw [mixC_at (by omega), if_neg (by omega)] at g1 g3
                have hb : bhdAt cs eo k = sideV (cs.getD k 0) := by rw [bhdAt_in (by omega), g1.resolve_left (by omega)]; rfl
                have hv : ∀ j, i ≤ j → j < k → wayV l = resAt cs l so eo j := fun j h1 h2 => by rw [resAt_row hk2 hk3 h1 h2, hb, if_neg (Ne.symm g3)]
                have hik : i < k := by
                  rcases Nat.lt_or_ge i k with h | h
                  · exact h
                  · exfalso
                    obtain rfl : k = i := by omega
                    rcases g1 with g1 | g1
                    · omega
                    · rw [hni] at g1; cases g1
                clear g1
                refine OkQ.loop (α := Nat) [0, 3, 4, 5, 6, 7, 8, 11, 12, 13, 16, 17, 18, 19, 20, 21, 22, 23, 24, 25, 26, 27, 28, 29, 30, 31, 32, 33, 34, 35, 36, 37, 38, 39, 40, 41, 42, 43, 44, 45, 46, 47, 48, 49, 50, 51, 52, 53, 54, 55, 56, 57, 58, 59, 60, 61, 62, 63, 64, 65, 66, 67, 68, 69, 70, 71, 72, 73, 74, 75, 76, 77, 78, 79, 80, 81, 82, 83, 84, 85, 86, 87, 88, 89, 90, 91, 92, 93, 94, 95, 96, 97, 98, 99, 100, 101, 102, 103, 104, 105, 106, 107, 108, 109, 110, 111, 112, 113] (fun j => [(11, .s (.int .i64 (j : Int)))]) (fun j => [(3, .arr false 1 (.int .u8) (mixC cs l so eo j))]) (fun j => i ≤ j ∧ j ≤ k) (fun j => k - j) i ⟨Nat.le_refl _, hk1⟩ ?_ fun j hj => ?_
                · simp (maxSteps := 4000000) only [go_sem, reduceIte, reduceCtorEq, Int.reduceEq, Nat.reduceEqDiff, Nat.reduceBEq, Int.reduceLE, Int.reduceLT, Int.reduceNeg, Nat.reduceAdd, Nat.reduceSub, Nat.reduceMul, Nat.reduceLeDiff, Int.reduceToNat, Int.reduceAdd, Int.reduceSub, Int.reduceMul, restSide, restNeutral, spansCopy, spansWay]
                · refine run_ok (Cs := []) (stp := []) (inl := []) (unr := false) nil_ok 400 _ _ _ _ ?_
                  simp (maxSteps := 4000000) only [go_sem, reduceIte, reduceCtorEq, Int.reduceEq, Nat.reduceEqDiff, Nat.reduceBEq, Int.reduceLE, Int.reduceLT, Int.reduceNeg, Nat.reduceAdd, Nat.reduceSub, Nat.reduceMul, Nat.reduceLeDiff, Int.reduceToNat, Int.reduceAdd, Int.reduceSub, Int.reduceMul]
                  obtain ⟨hj1, hj2⟩ := hj
                  (repeat' (first | (apply And.intro) | (intro _) | (show staB _ _ = true; kernel_rfl) | (show dynB _ _ = true; kernel_rfl)))
                  all_goals try omega
                  · exact ⟨j + 1, ⟨by omega, by omega⟩, by omega, by rw [wr_i64 (by omega) (by omega)]; simp, mixC_set (by omega) (hv j hj1 (by omega))⟩
                  · obtain rfl : j = k := by omega
                    exact ⟨j, hk2, by omega, ⟨(ahdAt_row hk1 hk3).symm, rfl⟩, rfl⟩
              · rename_i g1 g2 _ g3
                rw [mixC_at (by omega), if_neg (by omega)] at g1 g3
                have hb : bhdAt cs eo k = sideV (cs.getD k 0) := by rw [bhdAt_in (by omega), g1.resolve_left (by omega)]; rfl
                have hv : ∀ j, i ≤ j → j < k → sideV (cs.getD k 0) = resAt cs l so eo j := fun j h1 h2 => by rw [resAt_row hk2 hk3 h1 h2, hb, g3, if_pos rfl]
                rw [show (mixC cs l so eo i).getD k 0 = cs.getD k 0 by rw [mixC_at (by omega), if_neg (by omega)]]
                have hik : i < k := by
                  rcases Nat.lt_or_ge i k with h | h
                  · exact h
                  · exfalso
                    obtain rfl : k = i := by omega
                    rcases g1 with g1 | g1
                    · omega
                    · rw [hni] at g1; cases g1
                clear g1
                refine OkQ.loop (α := Nat) [0, 3, 4, 5, 6, 7, 8, 11, 12, 13, 16, 17, 18, 19, 20, 21, 22, 23, 24, 25, 26, 27, 28, 29, 30, 31, 32, 33, 34, 35, 36, 37, 38, 39, 40, 41, 42, 43, 44, 45, 46, 47, 48, 49, 50, 51, 52, 53, 54, 55, 56, 57, 58, 59, 60, 61, 62, 63, 64, 65, 66, 67, 68, 69, 70, 71, 72, 73, 74, 75, 76, 77, 78, 79, 80, 81, 82, 83, 84, 85, 86, 87, 88, 89, 90, 91, 92, 93, 94, 95, 96, 97, 98, 99, 100, 101, 102, 103, 104, 105, 106, 107, 108, 109, 110, 111, 112, 113] (fun j => [(11, .s (.int .i64 (j : Int)))]) (fun j => [(3, .arr false 1 (.int .u8) (mixC cs l so eo j))]) (fun j => i ≤ j ∧ j ≤ k) (fun j => k - j) i ⟨Nat.le_refl _, hk1⟩ ?_ fun j hj => ?_
                · simp (maxSteps := 4000000) only [go_sem, reduceIte, reduceCtorEq, Int.reduceEq, Nat.reduceEqDiff, Nat.reduceBEq, Int.reduceLE, Int.reduceLT, Int.reduceNeg, Nat.reduceAdd, Nat.reduceSub, Nat.reduceMul, Nat.reduceLeDiff, Int.reduceToNat, Int.reduceAdd, Int.reduceSub, Int.reduceMul]
                · refine run_ok (Cs := []) (stp := []) (inl := []) (unr := false) nil_ok 400 _ _ _ _ ?_
                  simp (maxSteps := 4000000) only [go_sem, reduceIte, reduceCtorEq, Int.reduceEq, Nat.reduceEqDiff, Nat.reduceBEq, Int.reduceLE, Int.reduceLT, Int.reduceNeg, Nat.reduceAdd, Nat.reduceSub, Nat.reduceMul, Nat.reduceLeDiff, Int.reduceToNat, Int.reduceAdd, Int.reduceSub, Int.reduceMul]
                  obtain ⟨hj1, hj2⟩ := hj
                  (repeat' (first | (apply And.intro) | (intro _) | (show staB _ _ = true; kernel_rfl) | (show dynB _ _ = true; kernel_rfl)))
                  all_goals try omega
                  · exact ⟨j + 1, ⟨by omega, by omega⟩, by omega, by rw [wr_i64 (by omega) (by omega)]; simp, mixC_set (by omega) (hv j hj1 (by omega))⟩
                  · obtain rfl : j = k := by omega
                    exact ⟨j, hk2, by omega, ⟨(ahdAt_row hk1 hk3).symm, rfl⟩, rfl⟩
              · rename_i g1 g2 g3 _
                have hb : bhdAt cs eo k = eo := bhdAt_out (by omega)
                have hv : ∀ j, i ≤ j → j < k → wayV l = resAt cs l so eo j := fun j h1 h2 => by rw [resAt_row hk2 hk3 h1 h2, hb, if_neg (Ne.symm g3)]
                have hik : i < k := by
                  rcases Nat.lt_or_ge i k with h | h
                  · exact h
                  · exfalso
                    obtain rfl : k = i := by omega
                    omega
                clear g1
                refine OkQ.loop (α := Nat) [0, 3, 4, 5, 6, 7, 8, 11, 12, 13, 16, 17, 18, 19, 20, 21, 22, 23, 24, 25, 26, 27, 28, 29, 30, 31, 32, 33, 34, 35, 36, 37, 38, 39, 40, 41, 42, 43, 44, 45, 46, 47, 48, 49, 50, 51, 52, 53, 54, 55, 56, 57, 58, 59, 60, 61, 62, 63, 64, 65, 66, 67, 68, 69, 70, 71, 72, 73, 74, 75, 76, 77, 78, 79, 80, 81, 82, 83, 84, 85, 86, 87, 88, 89, 90, 91, 92, 93, 94, 95, 96, 97, 98, 99, 100, 101, 102, 103, 104, 105, 106, 107, 108, 109, 110, 111, 112, 113] (fun j => [(11, .s (.int .i64 (j : Int)))]) (fun j => [(3, .arr false 1 (.int .u8) (mixC cs l so eo j))]) (fun j => i ≤ j ∧ j ≤ k) (fun j => k - j) i ⟨Nat.le_refl _, hk1⟩ ?_ fun j hj => ?_
                · simp (maxSteps := 4000000) only [go_sem, reduceIte, reduceCtorEq, Int.reduceEq, Nat.reduceEqDiff, Nat.reduceBEq, Int.reduceLE, Int.reduceLT, Int.reduceNeg, Nat.reduceAdd, Nat.reduceSub, Nat.reduceMul, Nat.reduceLeDiff, Int.reduceToNat, Int.reduceAdd, Int.reduceSub, Int.reduceMul]
                · refine run_ok (Cs := []) (stp := []) (inl := []) (unr := false) nil_ok 400 _ _ _ _ ?_
                  simp (maxSteps := 4000000) only [go_sem, reduceIte, reduceCtorEq, Int.reduceEq, Nat.reduceEqDiff, Nat.reduceBEq, Int.reduceLE, Int.reduceLT, Int.reduceNeg, Nat.reduceAdd, Nat.reduceSub, Nat.reduceMul, Nat.reduceLeDiff, Int.reduceToNat, Int.reduceAdd, Int.reduceSub, Int.reduceMul]
                  obtain ⟨hj1, hj2⟩ := hj
                  (repeat' (first | (apply And.intro) | (intro _) | (show staB _ _ = true; kernel_rfl) | (show dynB _ _ = true; kernel_rfl)))
                  all_goals try omega
                  · exact ⟨j + 1, ⟨by omega, by omega⟩, by omega, by rw [wr_i64 (by omega) (by omega)]; simp, mixC_set (by omega) (hv j hj1 (by omega))⟩
                  · obtain rfl : j = k := by omega
                    exact ⟨j, hk2, by omega, ⟨(ahdAt_row hk1 hk3).symm, rfl⟩, rfl⟩
              · rename_i g1 g2 g3
                have hb : bhdAt cs eo k = eo := bhdAt_out (by omega)
                have hv : ∀ j, i ≤ j → j < k → eo = resAt cs l so eo j := fun j h1 h2 => by rw [resAt_row hk2 hk3 h1 h2, hb, g3, if_pos rfl]
                have hik : i < k := by
                  rcases Nat.lt_or_ge i k with h | h
                  · exact h
                  · exfalso
                    obtain rfl : k = i := by omega
                    omega
                clear g1
                refine OkQ.loop (α := Nat) [0, 3, 4, 5, 6, 7, 8, 11, 12, 13, 16, 17, 18, 19, 20, 21, 22, 23, 24, 25, 26, 27, 28, 29, 30, 31, 32, 33, 34, 35, 36, 37, 38, 39, 40, 41, 42, 43, 44, 45, 46, 47, 48, 49, 50, 51, 52, 53, 54, 55, 56, 57, 58, 59, 60, 61, 62, 63, 64, 65, 66, 67, 68, 69, 70, 71, 72, 73, 74, 75, 76, 77, 78, 79, 80, 81, 82, 83, 84, 85, 86, 87, 88, 89, 90, 91, 92, 93, 94, 95, 96, 97, 98, 99, 100, 101, 102, 103, 104, 105, 106, 107, 108, 109, 110, 111, 112, 113] (fun j => [(11, .s (.int .i64 (j : Int)))]) (fun j => [(3, .arr false 1 (.int .u8) (mixC cs l so eo j))]) (fun j => i ≤ j ∧ j ≤ k) (fun j => k - j) i ⟨Nat.le_refl _, hk1⟩ ?_ fun j hj => ?_
                · simp (maxSteps := 4000000) only [go_sem, reduceIte, reduceCtorEq, Int.reduceEq, Nat.reduceEqDiff, Nat.reduceBEq, Int.reduceLE, Int.reduceLT, Int.reduceNeg, Nat.reduceAdd, Nat.reduceSub, Nat.reduceMul, Nat.reduceLeDiff, Int.reduceToNat, Int.reduceAdd, Int.reduceSub, Int.reduceMul]
                · refine run_ok (Cs := []) (stp := []) (inl := []) (unr := false) nil_ok 400 _ _ _ _ ?_
                  simp (maxSteps := 4000000) only [go_sem, reduceIte, reduceCtorEq, Int.reduceEq, Nat.reduceEqDiff, Nat.reduceBEq, Int.reduceLE, Int.reduceLT, Int.reduceNeg, Nat.reduceAdd, Nat.reduceSub, Nat.reduceMul, Nat.reduceLeDiff, Int.reduceToNat, Int.reduceAdd, Int.reduceSub, Int.reduceMul]
                  obtain ⟨hj1, hj2⟩ := hj
                  (repeat' (first | (apply And.intro) | (intro _) | (show staB _ _ = true; kernel_rfl) | (show dynB _ _ = true; kernel_rfl)))
                  all_goals try omega
                  · exact ⟨j + 1, ⟨by omega, by omega⟩, by omega, by rw [wr_i64 (by omega) (by omega)]; simp, mixC_set (by omega) (hv j hj1 (by omega))⟩
                  · obtain rfl : j = k := by omega
                    exact ⟨j, hk2, by omega, ⟨(ahdAt_row hk1 hk3).symm, rfl⟩, rfl⟩
          · rename_i hge
            rw [mixC_full (by omega), List.take_of_length_le (by rw [resC_len]; omega)]

end Go.Proofs.Yteopmgddchnefaa.Sx
