/- Resolving: mirrored, cut, done twice. -/
import Derived.Test.YteopmgddchnefaaCj
namespace Go.Proofs.Yteopmgddchnefaa.Sx
attribute [local irreducible] OkQ Ok
set_option linter.unusedSimpArgs false
set_option linter.unusedVariables false

theorem rslV_ok {ps cs : List Int} {l so eo : Int} (hR : RsOk ps cs l so eo) : resolveV (ps, cs, l, so, eo, ()) = (ps, resC cs l so eo, l, so, eo, ()) := by
  show (rsP ps cs l so eo, rsK ps cs l so eo, rsN ps cs l so eo l, rsN ps cs l so eo so, rsN ps cs l so eo eo, ()) = _
  rw [rsP, rsK, rsN, rsN, rsN, if_pos hR, if_pos hR, if_pos hR, if_pos hR, if_pos hR]
theorem rslE_ok {ps cs : List Int} {l so eo : Int} (hR : RsOk ps cs l so eo) : resolveE (ps, cs, l, so, eo, ()) = 0 := by
  show rsE ps cs l so eo = 0; rw [rsE, if_pos hR.1, if_pos hR.2]
theorem rslE_no {ps cs : List Int} {l so eo : Int} (hR : ¬ RsOk ps cs l so eo) : resolveE (ps, cs, l, so, eo, ()) = if OkS ps cs l so eo then 200 else 170 := by
  show rsE ps cs l so eo = _
  rw [rsE]
  split
  · rename_i h; rw [if_neg fun g => hR ⟨h, g⟩]
  · rfl
theorem rslE_ne {ps cs : List Int} {l so eo : Int} (hR : ¬ RsOk ps cs l so eo) : ¬ resolveE (ps, cs, l, so, eo, ()) = 0 := by
  rw [rslE_no hR]; split <;> simp
theorem rslV_no {ps cs : List Int} {l so eo : Int} (hR : ¬ RsOk ps cs l so eo) : resolveV (ps, cs, l, so, eo, ()) = ([], [], 0, 0, 0, ()) := by
  show (rsP ps cs l so eo, rsK ps cs l so eo, rsN ps cs l so eo l, rsN ps cs l so eo so, rsN ps cs l so eo eo, ()) = _
  rw [rsP, rsK, rsN, rsN, rsN, if_neg hR, if_neg hR, if_neg hR, if_neg hR, if_neg hR]

def turnV (c : Int) : Int := if c = 1 then 2 else if c = 2 then 1 else c
theorem turnV_inj {a b : Int} : (turnV a = turnV b) = (a = b) := by
  refine propext ?_
  unfold turnV
  (repeat' split) <;> omega
theorem neut_turn {c : Int} : neutB (turnV c) = neutB c := by
  rw [Bool.eq_iff_iff, neutBt, neutBt]
  unfold turnV
  (repeat' split) <;> omega
theorem side_turn {c : Int} (h1 : c ≠ 4) (h2 : c ≠ 7) : sideV (turnV c) = turnV (sideV c) := by
  unfold sideV turnV
  (repeat' split) <;> omega
theorem early_turn {c : Int} : earlyB (turnV c) = earlyB c := by
  unfold earlyB turnV
  rw [Bool.eq_iff_iff, decide_eq_true_eq, decide_eq_true_eq]
  (repeat' split) <;> omega
theorem rem_turn {c : Int} : remB (turnV c) = remB c := by
  rw [Bool.eq_iff_iff, remBt, remBt]
  unfold turnV
  (repeat' split) <;> omega
theorem turn_zero : turnV 0 = 0 := rfl
theorem getD_map0 {f : Int → Int} (hf : f 0 = 0) (cs : List Int) (i : Nat) : (cs.map f).getD i 0 = f (cs.getD i 0) := by
  simp only [List.getD_eq_getElem?_getD, List.getElem?_map]
  cases cs[i]? with
  | none => exact hf.symm
  | some v => rfl
def NoNum (cs : List Int) : Prop := ∀ c ∈ cs, c ≠ 4 ∧ c ≠ 7
theorem noNum_at {cs : List Int} (h : NoNum cs) (i : Nat) : cs.getD i 0 ≠ 4 ∧ cs.getD i 0 ≠ 7 := by
  rcases Nat.lt_or_ge i cs.length with hi | hi
  · exact h _ (getD_mem 0 hi)
  · rw [List.getD_eq_getElem?_getD, List.getElem?_eq_none hi]; decide
theorem ahd_turn {cs : List Int} {so : Int} (h : NoNum cs) : ∀ i, ahdAt (cs.map turnV) (turnV so) i = turnV (ahdAt cs so i)
  | 0 => rfl
  | i + 1 => by
    rw [ahdAt, ahdAt, getD_map0 turn_zero, neut_turn, ahd_turn h i, side_turn (noNum_at h i).1 (noNum_at h i).2]
    split <;> rfl
theorem bhdL_turn {eo : Int} : ∀ {cs : List Int}, NoNum cs → bhdL (turnV eo) (cs.map turnV) = turnV (bhdL eo cs)
  | [], _ => rfl
  | c :: r, h => by
    rw [List.map_cons, bhdL, bhdL, neut_turn, bhdL_turn (cs := r) fun x hx => h x (List.mem_cons_of_mem _ hx), side_turn (h c (List.mem_cons_self ..)).1 (h c (List.mem_cons_self ..)).2]
    split <;> rfl
theorem bhd_turn {cs : List Int} {eo : Int} (h : NoNum cs) (i : Nat) : bhdAt (cs.map turnV) (turnV eo) i = turnV (bhdAt cs eo i) := by
  unfold bhdAt
  rw [← List.map_drop]
  exact bhdL_turn fun x hx => h x (List.mem_of_mem_drop hx)
theorem way_turn {l l' : Int} (h1 : 0 ≤ l) (h2 : l ≤ 126) (h3 : l' = l + 1 ∧ l < 126 ∨ l' = l - 1 ∧ l = 126) : wayV l' = turnV (wayV l) := by
  unfold wayV turnV
  (repeat' split) <;> omega
theorem resAt_turn {cs : List Int} {l l' so eo : Int} (h : NoNum cs) (hw : wayV l' = turnV (wayV l)) (i : Nat) :
    resAt (cs.map turnV) l' (turnV so) (turnV eo) i = turnV (resAt cs l so eo i) := by
  rw [resAt, resAt, getD_map0 turn_zero, neut_turn, ahd_turn h, bhd_turn h, hw]
  simp only [turnV_inj]
  (repeat' split) <;> rfl
theorem resC_turn {cs : List Int} {l l' so eo : Int} (h : NoNum cs) (hw : wayV l' = turnV (wayV l)) :
    resC (cs.map turnV) l' (turnV so) (turnV eo) = (resC cs l so eo).map turnV := by
  unfold resC
  rw [List.length_map, List.map_map]
  exact List.map_congr_left fun i _ => resAt_turn h hw i
theorem fine_turn {ps cs : List Int} {i : Nat} (h : Fine ps cs i) : Fine ps (cs.map turnV) i := by
  obtain ⟨h1, h2, h3, h4⟩ := h
  unfold Fine
  rw [getD_map0 turn_zero, rem_turn]
  refine ⟨h1, ?_, ?_, h4⟩ <;> (unfold turnV; (repeat' split) <;> omega)
theorem okS_turn {ps cs : List Int} {l l' so eo : Int} (h : OkS ps cs l so eo) (h3 : l' = l + 1 ∧ l < 126 ∨ l' = l - 1 ∧ l = 126) : OkS ps (cs.map turnV) l' (turnV so) (turnV eo) := by
  obtain ⟨g1, g2, g3, g4, g5, g6, g7⟩ := h
  refine ⟨g1, by rw [List.length_map]; exact g2, by omega, by omega, ?_, ?_, fun i hi => fine_turn (g7 i hi)⟩ <;> (unfold turnV; (repeat' split) <;> omega)
theorem rsOk_turn {ps cs : List Int} {l l' so eo : Int} (h : RsOk ps cs l so eo) (h3 : l' = l + 1 ∧ l < 126 ∨ l' = l - 1 ∧ l = 126) : RsOk ps (cs.map turnV) l' (turnV so) (turnV eo) := by
  refine ⟨okS_turn h.1 h3, fun c hc => ?_⟩
  obtain ⟨d, hd, rfl⟩ := List.mem_map.1 hc
  rw [early_turn]; exact h.2 d hd

/-! Cut. -/
theorem getD_take {cs : List Int} {n i : Nat} (h : i < n) : (cs.take n).getD i 0 = cs.getD i 0 := by
  simp [List.getD_eq_getElem?_getD, List.getElem?_take, h]
theorem getD_drop {cs : List Int} {n i : Nat} : (cs.drop n).getD i 0 = cs.getD (n + i) 0 := by
  simp [List.getD_eq_getElem?_getD, List.getElem?_drop]
theorem ahd_take {cs : List Int} {so : Int} {n : Nat} : ∀ {i : Nat}, i ≤ n → ahdAt (cs.take n) so i = ahdAt cs so i
  | 0, _ => rfl
  | i + 1, h => by rw [ahdAt, ahdAt, getD_take (by omega), ahd_take (i := i) (by omega)]
theorem bhd_take {cs : List Int} {eo eo' : Int} {n : Nat} (hn : n < cs.length) (hs : neutB (cs.getD n 0) = false) : ∀ {d i : Nat}, n - i = d → i ≤ n → bhdAt (cs.take (n + 1)) eo' i = bhdAt cs eo i
  | 0, i, hd, h => by
    obtain rfl : i = n := by omega
    rw [bhdAt_in (by rw [List.length_take]; omega), bhdAt_in hn, getD_take (by omega), hs]
    rfl
  | d + 1, i, hd, h => by
    rw [bhdAt_in (cs := cs.take (n + 1)) (by rw [List.length_take]; omega), bhdAt_in (cs := cs) (by omega), getD_take (by omega), bhd_take (eo := eo) (eo' := eo') (i := i + 1) hn hs (d := d) (by omega) (by omega)]
theorem res_take {cs : List Int} {l so eo eo' : Int} {n i : Nat} (hn : n < cs.length) (hs : neutB (cs.getD n 0) = false) (h : i ≤ n) : resAt (cs.take (n + 1)) l so eo' i = resAt cs l so eo i := by
  rw [resAt, resAt, getD_take (by omega), ahd_take (by omega), bhd_take hn hs rfl h]
theorem ahd_drop {cs : List Int} {so so' : Int} {n : Nat} (hs : neutB (cs.getD n 0) = false) : ∀ {i : Nat}, ahdAt (cs.drop n) so' (i + 1) = ahdAt cs so (n + i + 1)
  | 0 => by rw [ahdAt, getD_drop]; simp only [Nat.add_zero]; rw [show ahdAt cs so (n + 1) = if neutB (cs.getD n 0) = true then ahdAt cs so n else sideV (cs.getD n 0) from rfl, hs, if_neg (by simp), if_neg (by simp)]
  | i + 1 => by
    rw [ahdAt, getD_drop, ahd_drop (i := i) hs]
    rfl
theorem bhd_drop {cs : List Int} {eo : Int} {n i : Nat} : bhdAt (cs.drop n) eo i = bhdAt cs eo (n + i) := by
  unfold bhdAt
  rw [List.drop_drop]
theorem res_drop {cs : List Int} {l so so' eo : Int} {n i : Nat} (hs : neutB (cs.getD n 0) = false) : resAt (cs.drop n) l so' eo i = resAt cs l so eo (n + i) := by
  rw [resAt, resAt, getD_drop, bhd_drop]
  cases i with
  | zero => simp only [Nat.add_zero, hs]; rfl
  | succ i => rw [ahd_drop (so := so) hs]; rfl
theorem okS_take {ps cs : List Int} {l so eo eo' : Int} {n : Nat} (h : OkS ps cs l so eo) (he : eo' = 1 ∨ eo' = 2) (hn : n < cs.length) : OkS (ps.take (n + 1)) (cs.take (n + 1)) l so eo' := by
  obtain ⟨g1, g2, g3, g4, g5, g6, g7⟩ := h
  refine ⟨by rw [List.length_take]; omega, by rw [List.length_take, List.length_take]; omega, g3, g4, g5, he, fun i hi => ?_⟩
  rw [List.length_take] at hi
  obtain ⟨h1, h2, h3, h4⟩ := g7 i (by omega)
  unfold Fine
  rw [getD_take (cs := cs) (by omega), getD_take (cs := ps) (by omega)]
  refine ⟨?_, h2, h3, h4⟩
  cases i with
  | zero => exact h1
  | succ i => rw [show ahd (ps.take (n + 1)) (i + 1) = ahd ps (i + 1) from getD_take (by omega)]; exact h1
theorem okS_drop {ps cs : List Int} {l so so' eo : Int} {n : Nat} (h : OkS ps cs l so eo) (he : so' = 1 ∨ so' = 2) (hn : n < cs.length) : OkS (ps.drop n) (cs.drop n) l so' eo := by
  obtain ⟨g1, g2, g3, g4, g5, g6, g7⟩ := h
  refine ⟨by rw [List.length_drop]; omega, by rw [List.length_drop, List.length_drop]; omega, g3, g4, he, g6, fun i hi => ?_⟩
  rw [List.length_drop] at hi
  obtain ⟨h1, h2, h3, h4⟩ := g7 (n + i) (by omega)
  unfold Fine
  rw [getD_drop, getD_drop]
  refine ⟨?_, h2, h3, h4⟩
  cases i with
  | zero =>
    have := (ahd_lt (i := n) fun j hj => g7 j (by omega)).1
    show -1 < _
    simp only [Nat.add_zero] at h1 ⊢
    omega
  | succ i => rw [show ahd (ps.drop n) (i + 1) = ahd ps (n + (i + 1)) from getD_drop]; exact h1
theorem rsOk_take {ps cs : List Int} {l so eo eo' : Int} {n : Nat} (h : RsOk ps cs l so eo) (he : eo' = 1 ∨ eo' = 2) (hn : n < cs.length) : RsOk (ps.take (n + 1)) (cs.take (n + 1)) l so eo' :=
  ⟨okS_take h.1 he hn, fun c hc => h.2 c (List.mem_of_mem_take hc)⟩
theorem rsOk_drop {ps cs : List Int} {l so so' eo : Int} {n : Nat} (h : RsOk ps cs l so eo) (he : so' = 1 ∨ so' = 2) (hn : n < cs.length) : RsOk (ps.drop n) (cs.drop n) l so' eo :=
  ⟨okS_drop h.1 he hn, fun c hc => h.2 c (List.mem_of_mem_drop hc)⟩

/-! Done twice. -/
theorem sett_early {c : Int} (h1 : 1 ≤ c) (h2 : c ≤ 23) (h3 : remB c = false) (h4 : earlyB c = false) : settB c = true ∨ neutB c = true := by
  rw [settBt, neutBt]
  simp only [earlyB, decide_eq_false_iff_not] at h4
  rw [remBf] at h3
  omega
theorem ahd12 {cs : List Int} {so : Int} (hs : so = 1 ∨ so = 2) (hc : ∀ j, j < cs.length → settB (cs.getD j 0) = true ∨ neutB (cs.getD j 0) = true) : ∀ i, i ≤ cs.length → ahdAt cs so i = 1 ∨ ahdAt cs so i = 2
  | 0, _ => hs
  | i + 1, h => by
    rw [ahdAt]
    split
    · exact ahd12 hs hc i (by omega)
    · rename_i hn
      have := (hc i (by omega)).resolve_right hn
      rw [settBt] at this
      unfold sideV
      (repeat' split) <;> omega
theorem way12 {l : Int} (h1 : 0 ≤ l) (h2 : l ≤ 126) : wayV l = 1 ∨ wayV l = 2 := by
  unfold wayV
  (repeat' split) <;> omega
/-- A resolved place. -/
theorem resAt_val {ps cs : List Int} {l so eo : Int} (h : RsOk ps cs l so eo) {i : Nat} (hi : i < cs.length) :
    (neutB (cs.getD i 0) = true ∧ (resAt cs l so eo i = 1 ∨ resAt cs l so eo i = 2)) ∨ (neutB (cs.getD i 0) = false ∧ settB (cs.getD i 0) = true ∧ resAt cs l so eo i = cs.getD i 0) := by
  obtain ⟨⟨g1, g2, g3, g4, g5, g6, g7⟩, g8⟩ := h
  have hc : ∀ j, j < cs.length → settB (cs.getD j 0) = true ∨ neutB (cs.getD j 0) = true := fun j hj => by
    obtain ⟨_, h2, h3, h4⟩ := g7 j (by omega)
    exact sett_early h2 h3 h4 (g8 _ (getD_mem 0 hj))
  unfold resAt
  cases e : neutB (cs.getD i 0) with
  | true =>
    rw [if_pos rfl]
    refine Or.inl ⟨rfl, ?_⟩
    split
    · exact ahd12 g5 hc i (by omega)
    · exact way12 g3 g4
  | false => exact Or.inr ⟨rfl, (hc i hi).resolve_right (by rw [e]; simp), by rw [if_neg (by simp)]⟩
theorem resAt_sett {ps cs : List Int} {l so eo : Int} (h : RsOk ps cs l so eo) {i : Nat} (hi : i < cs.length) : settB (resAt cs l so eo i) = true := by
  rcases resAt_val h hi with ⟨_, h⟩ | ⟨_, h, e⟩
  · rw [settBt]; omega
  · rw [e]; exact h
theorem resC_at {cs : List Int} {l so eo : Int} {i : Nat} (hi : i < cs.length) : (resC cs l so eo).getD i 0 = resAt cs l so eo i := by
  rw [getD_at 0 (by rw [resC_len]; exact hi)]
  simp [resC]
theorem resC_sett {ps cs : List Int} {l so eo : Int} (h : RsOk ps cs l so eo) : ∀ c ∈ resC cs l so eo, settB c = true := fun c hc => by
  obtain ⟨i, hi, rfl⟩ := List.mem_map.1 hc
  exact resAt_sett h (List.mem_range.1 hi)
theorem okS_res {ps cs : List Int} {l so eo : Int} (h : RsOk ps cs l so eo) : OkS ps (resC cs l so eo) l so eo := by
  obtain ⟨g1, g2, g3, g4, g5, g6, g7⟩ := h.1
  refine ⟨g1, by rw [resC_len]; exact g2, g3, g4, g5, g6, fun i hi => ?_⟩
  have := resAt_sett h (i := i) (by omega)
  unfold Fine
  rw [resC_at (by omega)]
  refine ⟨(g7 i hi).1, ?_⟩
  rw [settBt] at this
  rw [remBf]
  omega
theorem rsOk_res {ps cs : List Int} {l so eo : Int} (h : RsOk ps cs l so eo) : RsOk ps (resC cs l so eo) l so eo := by
  refine ⟨okS_res h, fun c hc => ?_⟩
  have := resC_sett h c hc
  rw [settBt] at this
  simp only [earlyB, decide_eq_false_iff_not]
  omega
theorem resC_res {ps cs : List Int} {l so eo : Int} (h : RsOk ps cs l so eo) : resC (resC cs l so eo) l so eo = resC cs l so eo := by
  refine List.ext_getElem (by simp [resC_len]) fun i h1 h2 => ?_
  have hi : i < cs.length := by simpa [resC] using h2
  have e : ∀ (xs : List Int) (h : i < (resC xs l so eo).length), (resC xs l so eo)[i] = resAt xs l so eo i := fun xs h => by simp [resC]
  rw [e, e]
  have := sett_neut (resAt_sett h hi)
  rw [← resC_at hi] at this
  rw [resAt, this, if_neg (by simp), resC_at hi]

end Go.Proofs.Yteopmgddchnefaa.Sx
