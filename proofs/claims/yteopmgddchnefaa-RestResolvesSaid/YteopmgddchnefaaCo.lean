/- The law RestResolves. -/
import Derived.Test.YteopmgddchnefaaCj
namespace Go.Proofs.Yteopmgddchnefaa.Sx
attribute [local irreducible] OkQ Ok
set_option linter.unusedSimpArgs false
set_option linter.unusedVariables false
theorem bICo29 : bodyI Try.prog 29 = bodyF Try.f29 := by kernel_rfl
theorem bICo25 : bodyI Try.prog 25 = bodyF Try.f25 := by kernel_rfl
set_option maxRecDepth 8000

def lawRestResolves : Con := ⟨4, [(true, tSeq)], [(false, .bool)], (tyL [(true, tSeq)]).small, fun _ => (true, ())⟩

set_option maxHeartbeats 2000000 in
theorem lawRestResolves_ok : lawRestResolves.Ok Try.prog := by
  refine con_q Try.func4 rfl (by decide) (fun x hx hp => run_ok (Cs := [restResolve, refResolve, awake20, ref17Same]) (stp := []) (inl := [25, 29]) (unr := false) (cons_ok restResolve_ok (cons_ok refResolve_ok (cons_ok awake20_ok (cons_ok ref17Same_ok nil_ok)))) 400 _ _ _ _ ?_) (by decide)
  obtain ⟨⟨(ps : List Int), (cs : List Int), (l : Int), (so : Int), (eo : Int), ⟨⟩⟩, ⟨⟩⟩ := x
  have hz1 : ps.length * 8 ≤ 140737488351232 := hp.1.1.1
  have hz2 : cs.length * 1 ≤ 140737488351232 := hp.1.2.1.1
  clear hx hp
  have hw1 := wr_succ (n := ps.length) (by omega)
  have hw2 := wr_succ (n := cs.length) (by omega)
  have hss : sameSeq (ps, cs, l, so, eo, ()) (ps, cs, l, so, eo, ()) = true := sameSeq_iff.2 rfl
  have hrl : ((resolveV (ps, cs, l, so, eo, ())).1 : List Int).length = ((resolveV (ps, cs, l, so, eo, ())).2.1 : List Int).length ∧ ((resolveV (ps, cs, l, so, eo, ())).1 : List Int).length ≤ ps.length := by
    show (rsP ps cs l so eo).length = (rsK ps cs l so eo).length ∧ (rsP ps cs l so eo).length ≤ ps.length
    unfold rsP rsK
    split
    · rename_i h; rw [resC_len]; exact ⟨h.1.2.1, Nat.le_refl _⟩
    · simp
  have hsr : sameSeq (resolveV (ps, cs, l, so, eo, ())) (resolveV (ps, cs, l, so, eo, ())) = true := sameSeq_iff.2 rfl
  simp (maxSteps := 4000000) only [go_sem, reduceIte, reduceCtorEq, Int.reduceEq, Nat.reduceEqDiff, Nat.reduceBEq, Int.reduceLE, Int.reduceLT, Int.reduceNeg, Nat.reduceAdd, Nat.reduceSub, Nat.reduceMul, Nat.reduceLeDiff, Int.reduceToNat, Int.reduceAdd, Int.reduceSub, Int.reduceMul, Try.f4, lawRestResolves, bICo25, Try.f25, bICo29, Try.f29, hw1, hw2, hss, hsr, getD_end, restResolve, refResolve, awake20, ref17Same]
  generalize resolveV (ps, cs, l, so, eo, ()) = rv at *
  obtain ⟨(rp : List Int), (rk : List Int), (rl : Int), (rso : Int), (reo : Int), ⟨⟩⟩ := rv
  obtain ⟨hlen, hle⟩ := hrl
  dsimp only at hlen hle hsr
  have hlen : rk.length = rp.length := hlen.symm
  have hle : rp.length ≤ ps.length := hle
  (repeat' (first | (apply And.intro) | (intro _) | (show staB _ _ = true; kernel_rfl) | (show dynB _ _ = true; kernel_rfl)))
  all_goals try omega
  refine OkQ.loop (α := (List Int × List Int) × Nat) [0, 2, 5, 7, 9, 10, 11, 12, 13, 14, 15, 16, 17, 18, 19, 20, 21, 22, 23, 24, 25, 26, 27, 28, 29, 30, 31, 32, 33, 34, 35, 36, 37, 38, 39, 40, 41, 42, 43, 44, 45, 46, 47, 48, 49, 50, 51, 52, 53, 54, 55, 56, 57, 58, 59, 60, 61, 62, 63, 64, 65, 66, 67, 68, 69, 70, 71, 72, 73, 74, 75, 76, 77, 78, 79, 80, 81, 82, 83, 84, 85, 86, 87, 88, 89, 90, 91, 92, 93, 94, 95, 96, 97, 98, 99, 100, 101, 102, 103, 104] (fun a => [(10, .s (.int .i64 (a.2 : Int)))]) (fun a => [(11, .arr false 8 (.int .i64) a.1.1), (12, .arr false 1 (.int .u8) a.1.2)]) (fun a => a.1.1.length = rp.length ∧ a.1.2.length = rp.length ∧ a.2 ≤ rp.length) (fun a => rp.length - a.2) ((rp, rk), 0) ⟨rfl, hlen, Nat.zero_le _⟩ ?_ fun a ha => ?_
  · simp (maxSteps := 4000000) only [go_sem, reduceIte, reduceCtorEq, Int.reduceEq, Nat.reduceEqDiff, Nat.reduceBEq, Int.reduceLE, Int.reduceLT, Int.reduceNeg, Nat.reduceAdd, Nat.reduceSub, Nat.reduceMul, Nat.reduceLeDiff, Int.reduceToNat, Int.reduceAdd, Int.reduceSub, Int.reduceMul, restResolve, refResolve, awake20, ref17Same]
    simp [hlen]
  · obtain ⟨⟨xs, ys⟩, i⟩ := a
    obtain ⟨hxs, hys, hi⟩ := ha
    dsimp only at hxs hys hi
    refine run_ok (Cs := [restResolve, refResolve, awake20, ref17Same]) (stp := []) (inl := []) (unr := false) (cons_ok restResolve_ok (cons_ok refResolve_ok (cons_ok awake20_ok (cons_ok ref17Same_ok nil_ok)))) 400 _ _ _ _ ?_
    simp (maxSteps := 4000000) only [go_sem, reduceIte, reduceCtorEq, Int.reduceEq, Nat.reduceEqDiff, Nat.reduceBEq, Int.reduceLE, Int.reduceLT, Int.reduceNeg, Nat.reduceAdd, Nat.reduceSub, Nat.reduceMul, Nat.reduceLeDiff, Int.reduceToNat, Int.reduceAdd, Int.reduceSub, Int.reduceMul, hxs, hys, hlen, restResolve, refResolve, awake20, ref17Same]
    (repeat' (first | (apply And.intro) | (intro _) | (show staB _ _ = true; kernel_rfl) | (show dynB _ _ = true; kernel_rfl)))
    all_goals try omega
    · exact ⟨((xs.set i (-5), ys.set i 99), i + 1), ⟨by simpa using hxs, by simpa using hys, by dsimp only; omega⟩, by dsimp only; omega, wr_succ (by omega), rfl, rfl⟩
    · refine OkQ.loop (α := (List Int × List Int) × Nat) [0, 2, 5, 7, 9, 10, 11, 12, 13, 14, 15, 16, 17, 18, 19, 20, 21, 22, 23, 24, 25, 26, 27, 28, 29, 30, 31, 32, 33, 34, 35, 36, 37, 38, 39, 40, 41, 42, 43, 44, 45, 46, 47, 48, 49, 50, 51, 52, 53, 54, 55, 56, 57, 58, 59, 60, 61, 62, 63, 64, 65, 66, 67, 68, 69, 70, 71, 72, 73, 74, 75, 76, 77, 78, 79, 80, 81, 82, 83, 84, 85, 86, 87, 88, 89, 90, 91, 92, 93, 94, 95, 96, 97, 98, 99, 100, 101, 102, 103, 104] (fun a => [(11, .s (.int .i64 (a.2 : Int)))]) (fun a => [(11, .arr false 8 (.int .i64) a.1.1), (12, .arr false 1 (.int .u8) a.1.2), (13, .box [.sub 11 0 a.1.1.length, .sub 12 0 a.1.2.length, .int .i8 rl, .int .u8 rso, .int .u8 reo])]) (fun a => a.1.1.length = rp.length + a.2 ∧ a.1.2.length = rp.length + a.2 ∧ a.2 ≤ 20) (fun a => 20 - a.2) ((xs, ys), 0) ⟨hxs, hys, Nat.zero_le _⟩ ?_ fun a ha => ?_
      · simp (maxSteps := 4000000) only [go_sem, reduceIte, reduceCtorEq, Int.reduceEq, Nat.reduceEqDiff, Nat.reduceBEq, Int.reduceLE, Int.reduceLT, Int.reduceNeg, Nat.reduceAdd, Nat.reduceSub, Nat.reduceMul, Nat.reduceLeDiff, Int.reduceToNat, Int.reduceAdd, Int.reduceSub, Int.reduceMul, restResolve, refResolve, awake20, ref17Same]
        simp [hxs, hys]
      · obtain ⟨⟨xs', ys'⟩, j⟩ := a
        obtain ⟨hxs', hys', hj⟩ := ha
        dsimp only at hxs' hys' hj
        refine run_ok (Cs := [restResolve, refResolve, awake20, ref17Same]) (stp := [15]) (inl := []) (unr := false) (cons_ok restResolve_ok (cons_ok refResolve_ok (cons_ok awake20_ok (cons_ok ref17Same_ok nil_ok)))) 400 _ _ _ _ ?_
        simp (maxSteps := 4000000) only [go_sem, reduceIte, reduceCtorEq, Int.reduceEq, Nat.reduceEqDiff, Nat.reduceBEq, Int.reduceLE, Int.reduceLT, Int.reduceNeg, Nat.reduceAdd, Nat.reduceSub, Nat.reduceMul, Nat.reduceLeDiff, Int.reduceToNat, Int.reduceAdd, Int.reduceSub, Int.reduceMul, hxs', hys', restResolve, refResolve, awake20, ref17Same]
        (repeat' (first | (apply And.intro) | (intro _) | (show staB _ _ = true; kernel_rfl) | (show dynB _ _ = true; kernel_rfl)))
        all_goals try omega
        · simp; omega
        · simp; omega
        · have hl1 : (xs'.take (rp.length + j) ++ [-6]).length = rp.length + (j + 1) := by simp [hxs']; omega
          have hl2 : (ys'.take (rp.length + j) ++ [98]).length = rp.length + (j + 1) := by simp [hys']; omega
          exact ⟨((xs'.take (rp.length + j) ++ [-6], ys'.take (rp.length + j) ++ [98]), j + 1), ⟨hl1, hl2, by dsimp only; omega⟩, by dsimp only; omega, wr_succ (by omega), rfl, rfl, by dsimp only; rw [hl1]; simp [hxs']; omega, by dsimp only; rw [hl2]; simp [hys']; omega⟩
        · obtain rfl : j = 20 := by omega
          have hfin : wr .i64 ((rp.length : Int) + 20) = ((rp.length + 20 : Nat) : Int) := by rw [wr_i64 (by omega) (by omega)]; simp
          clear hw1 hw2
          have htk : List.take rp.length rk = rk := List.take_of_length_le (by omega)
          have hw1 := wr_succ (n := ps.length) (by omega)
          have hw2 := wr_succ (n := cs.length) (by omega)
          refine run_ok (Cs := [restResolve, refResolve, awake20, ref17Same]) (stp := []) (inl := [29]) (unr := false) (cons_ok restResolve_ok (cons_ok refResolve_ok (cons_ok awake20_ok (cons_ok ref17Same_ok nil_ok)))) 400 _ _ _ _ ?_
          simp (maxSteps := 4000000) only [go_sem, reduceIte, reduceCtorEq, Int.reduceEq, Nat.reduceEqDiff, Nat.reduceBEq, Int.reduceLE, Int.reduceLT, Int.reduceNeg, Nat.reduceAdd, Nat.reduceSub, Nat.reduceMul, Nat.reduceLeDiff, Int.reduceToNat, Int.reduceAdd, Int.reduceSub, Int.reduceMul, bICo29, Try.f29, hw1, hw2, hss, hsr, getD_end, hfin, htk, restResolve, refResolve, awake20, ref17Same]
          (repeat' (first | (apply And.intro) | (intro _) | (show staB _ _ = true; kernel_rfl) | (show dynB _ _ = true; kernel_rfl)))
          all_goals try omega

end Go.Proofs.Yteopmgddchnefaa.Sx
