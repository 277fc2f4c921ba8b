/- What the program's rounds make is what the rules say. -/
import Derived.Test.YteompacffdeekaaLw
namespace Go.Proofs.Yteompacffdeekaa.Sx
attribute [local irreducible] OkQ Ok
set_option linter.unusedSimpArgs false
set_option linter.unusedVariables false

theorem st3t {c : Int} : (st3 c = true) = (c = 1 ∨ c = 2 ∨ c = 3) := by simp [st3]
theorem st3f {c : Int} : (st3 c = false) = ¬ (c = 1 ∨ c = 2 ∨ c = 3) := by simp only [st3, decide_eq_false_iff_not]
theorem st2t {c : Int} : (st2 c = true) = (c = 1 ∨ c = 2) := by simp [st2]
theorem st2f {c : Int} : (st2 c = false) = ¬ (c = 1 ∨ c = 2) := by simp only [st2, decide_eq_false_iff_not]
theorem set_at {l : List Int} {i : Nat} {v : Int} (h : i < l.length) : (l.set i v).getD i 0 = v := by rw [getD_set, if_pos ⟨rfl, h⟩]
theorem set_ne {l : List Int} {i j : Nat} {v : Int} (h : i ≠ j) : (l.set i v).getD j 0 = l.getD j 0 := by rw [getD_set, if_neg (by omega)]

section
variable {cs : List Int} {sos : Int} {i : Nat}

/-! W1 -/
theorem w1_skip (h : ¬ (ruleTo 1 sos cs i).getD i 0 = 9) : ruleTo 1 sos cs i = ruleTo 1 sos cs (i + 1) :=
  ruleTo_skip (by show place1 _ _ _ = _; rw [place1, if_neg h])
theorem w1_first (hs : isoB sos = false) (h : (ruleTo 1 sos cs 0).getD 0 0 = 9) : (ruleTo 1 sos cs 0).set 0 sos = ruleTo 1 sos cs 1 :=
  ruleTo_step (by show _ = place1 _ _ _; rw [place1, if_pos h, if_neg (by simp)]; rfl)
theorem w1_iso (h : (ruleTo 1 sos cs i).getD i 0 = 9) (h0 : 0 < i) (hi : isoB ((ruleTo 1 sos cs i).getD (i - 1) 0) = true) : (ruleTo 1 sos cs i).set i 14 = ruleTo 1 sos cs (i + 1) := by
  have hp : prevV (ruleTo 1 sos cs i) sos i = (ruleTo 1 sos cs i).getD (i - 1) 0 := by rw [prevV, if_neg (by omega)]
  exact ruleTo_step (by show _ = place1 _ _ _; rw [place1, if_pos h, hp, if_pos ⟨by omega, hi⟩])
theorem w1_else (h : (ruleTo 1 sos cs i).getD i 0 = 9) (h0 : 0 < i) (hi : isoB ((ruleTo 1 sos cs i).getD (i - 1) 0) = false) : (ruleTo 1 sos cs i).set i ((ruleTo 1 sos cs i).getD (i - 1) 0) = ruleTo 1 sos cs (i + 1) := by
  have hp : prevV (ruleTo 1 sos cs i) sos i = (ruleTo 1 sos cs i).getD (i - 1) 0 := by rw [prevV, if_neg (by omega)]
  exact ruleTo_step (by show _ = place1 _ _ _; rw [place1, if_pos h, hp, if_neg (by rw [hi]; simp)])

/-! W2 -/
theorem w2_strong (hn : i < cs.length) (h : st3 ((ruleTo 2 sos cs i).getD i 0) = true) : ruleTo 2 sos cs i = ruleTo 2 sos cs (i + 1) ∧ (ruleTo 2 sos cs i).getD i 0 = lookV st3 (ruleTo 2 sos cs (i + 1)) sos (i + 1) := by
  have e : ruleTo 2 sos cs i = ruleTo 2 sos cs (i + 1) := ruleTo_skip (by show place2 _ _ _ = _; rw [st3t] at h; rw [place2, if_neg (by omega)])
  exact ⟨e, by rw [← e, lookV_hit h]⟩
theorem w2_number (hn : i < cs.length) (h : (ruleTo 2 sos cs i).getD i 0 = 4) (hs : lookV st3 (ruleTo 2 sos cs i) sos i = 3) : (ruleTo 2 sos cs i).set i 7 = ruleTo 2 sos cs (i + 1) ∧ lookV st3 (ruleTo 2 sos cs i) sos i = lookV st3 (ruleTo 2 sos cs (i + 1)) sos (i + 1) := by
  have e : (ruleTo 2 sos cs i).set i 7 = ruleTo 2 sos cs (i + 1) := ruleTo_step (by show _ = place2 _ _ _; rw [place2, if_pos ⟨h, hs⟩])
  refine ⟨e, ?_⟩
  rw [← e, lookV_skip (by rw [set_at (by rw [ruleTo_len]; exact hn)]; rfl)]
  exact lookV_congr fun j hj => (set_ne (by omega)).symm
theorem w2_else (hn : i < cs.length) (h : st3 ((ruleTo 2 sos cs i).getD i 0) = false) (hs : ¬ ((ruleTo 2 sos cs i).getD i 0 = 4 ∧ lookV st3 (ruleTo 2 sos cs i) sos i = 3)) : ruleTo 2 sos cs i = ruleTo 2 sos cs (i + 1) ∧ lookV st3 (ruleTo 2 sos cs i) sos i = lookV st3 (ruleTo 2 sos cs (i + 1)) sos (i + 1) := by
  have e : ruleTo 2 sos cs i = ruleTo 2 sos cs (i + 1) := ruleTo_skip (by show place2 _ _ _ = _; rw [place2, if_neg hs])
  exact ⟨e, by rw [← e, lookV_skip h]⟩

/-! W3, W6 -/
theorem w3_set (h : (ruleTo 3 sos cs i).getD i 0 = 3) : (ruleTo 3 sos cs i).set i 2 = ruleTo 3 sos cs (i + 1) := ruleTo_step (by show _ = place3 _ _; rw [place3, if_pos h])
theorem w3_skip (h : ¬ (ruleTo 3 sos cs i).getD i 0 = 3) : ruleTo 3 sos cs i = ruleTo 3 sos cs (i + 1) := ruleTo_skip (by show place3 _ _ = _; rw [place3, if_neg h])
theorem w6_set (h : (ruleTo 6 sos cs i).getD i 0 = 5 ∨ (ruleTo 6 sos cs i).getD i 0 = 6 ∨ (ruleTo 6 sos cs i).getD i 0 = 8) : (ruleTo 6 sos cs i).set i 14 = ruleTo 6 sos cs (i + 1) := ruleTo_step (by show _ = place6 _ _; rw [place6, if_pos h])
theorem w6_skip (h : ¬ ((ruleTo 6 sos cs i).getD i 0 = 5 ∨ (ruleTo 6 sos cs i).getD i 0 = 6 ∨ (ruleTo 6 sos cs i).getD i 0 = 8)) : ruleTo 6 sos cs i = ruleTo 6 sos cs (i + 1) := ruleTo_skip (by show place6 _ _ = _; rw [place6, if_neg h])

/-! W4 -/
theorem w4_skip (h : i = 0 ∨ ¬ ((ruleTo 4 sos cs i).getD i 0 = 5 ∨ (ruleTo 4 sos cs i).getD i 0 = 8) ∨ ¬ (ruleTo 4 sos cs i).getD (i - 1) 0 = (ruleTo 4 sos cs i).getD (i + 1) 0 ∨
    ¬ ((ruleTo 4 sos cs i).getD (i - 1) 0 = 4 ∨ (ruleTo 4 sos cs i).getD (i - 1) 0 = 7 ∧ (ruleTo 4 sos cs i).getD i 0 = 8)) : ruleTo 4 sos cs i = ruleTo 4 sos cs (i + 1) := by
  refine ruleTo_skip ?_
  show place4 _ _ = _
  rw [place4]
  unfold prevV
  by_cases h0 : i = 0
  · rw [if_pos h0, if_neg (by omega), if_neg (by omega)]
  · rw [if_neg h0, if_neg (by omega), if_neg (by omega)]
theorem w4_set (h0 : ¬ i = 0) (h : (ruleTo 4 sos cs i).getD i 0 = 5 ∨ (ruleTo 4 sos cs i).getD i 0 = 8) (he : (ruleTo 4 sos cs i).getD (i - 1) 0 = (ruleTo 4 sos cs i).getD (i + 1) 0)
    (hx : (ruleTo 4 sos cs i).getD (i - 1) 0 = 4 ∨ (ruleTo 4 sos cs i).getD (i - 1) 0 = 7 ∧ (ruleTo 4 sos cs i).getD i 0 = 8) : (ruleTo 4 sos cs i).set i ((ruleTo 4 sos cs i).getD (i - 1) 0) = ruleTo 4 sos cs (i + 1) := by
  refine ruleTo_step ?_
  show _ = place4 _ _
  rw [place4]
  unfold prevV
  rw [if_neg h0]
  rcases hx with hx | hx
  · rw [if_pos ⟨h, hx, by omega⟩, hx]
  · rw [if_neg (by omega), if_pos ⟨hx.2, hx.1, by omega⟩, hx.1]

/-! W7 -/
theorem w7_strong (hn : i < cs.length) (h : st2 ((ruleTo 7 sos cs i).getD i 0) = true) : ruleTo 7 sos cs i = ruleTo 7 sos cs (i + 1) ∧ (ruleTo 7 sos cs i).getD i 0 = lookV st2 (ruleTo 7 sos cs (i + 1)) sos (i + 1) := by
  have e : ruleTo 7 sos cs i = ruleTo 7 sos cs (i + 1) := ruleTo_skip (by show place7 _ _ _ = _; rw [st2t] at h; rw [place7, if_neg (by omega)])
  exact ⟨e, by rw [← e, lookV_hit h]⟩
theorem w7_number (hn : i < cs.length) (h : (ruleTo 7 sos cs i).getD i 0 = 4) (hs : lookV st2 (ruleTo 7 sos cs i) sos i = 1) : (ruleTo 7 sos cs i).set i 1 = ruleTo 7 sos cs (i + 1) ∧ lookV st2 (ruleTo 7 sos cs i) sos i = lookV st2 (ruleTo 7 sos cs (i + 1)) sos (i + 1) := by
  have e : (ruleTo 7 sos cs i).set i 1 = ruleTo 7 sos cs (i + 1) := ruleTo_step (by show _ = place7 _ _ _; rw [place7, if_pos ⟨h, hs⟩])
  refine ⟨e, ?_⟩
  have ha : ((ruleTo 7 sos cs i).set i 1).getD i 0 = 1 := set_at (by rw [ruleTo_len]; exact hn)
  rw [← e, lookV_hit (by rw [ha]; rfl), ha, hs]
theorem w7_else (hn : i < cs.length) (h : st2 ((ruleTo 7 sos cs i).getD i 0) = false) (hs : ¬ ((ruleTo 7 sos cs i).getD i 0 = 4 ∧ lookV st2 (ruleTo 7 sos cs i) sos i = 1)) : ruleTo 7 sos cs i = ruleTo 7 sos cs (i + 1) ∧ lookV st2 (ruleTo 7 sos cs i) sos i = lookV st2 (ruleTo 7 sos cs (i + 1)) sos (i + 1) := by
  have e : ruleTo 7 sos cs i = ruleTo 7 sos cs (i + 1) := ruleTo_skip (by show place7 _ _ _ = _; rw [place7, if_neg hs])
  exact ⟨e, by rw [← e, lookV_skip h]⟩

/-! W5 -/
theorem w5_skip (h : ¬ (ruleTo 5 sos cs i).getD i 0 = 6) : ruleTo 5 sos cs i = ruleTo 5 sos cs (i + 1) := ruleTo_skip (by show place5 _ _ = _; rw [place5, if_neg (by omega)])
/-- A row of ETs next to an EN. -/
theorem w5_row {t : Nat} (ht : t ≤ cs.length) (hrow : ∀ k, i ≤ k → k < t → cs.getD k 0 = 6) (hc : (0 < i ∧ (ruleTo 5 sos cs i).getD (i - 1) 0 = 4) ∨ (t < cs.length ∧ cs.getD t 0 = 4)) :
    ∀ k, i ≤ k → k < t → (ruleTo 5 sos cs k).set k 4 = ruleTo 5 sos cs (k + 1) := by
  have key : ∀ d k, k - i = d → i ≤ k → k < t → placeV 5 (ruleTo 5 sos cs k) sos k = 4 := by
    intro d
    induction d with
    | zero =>
      intro k hd h1 h2
      obtain rfl : k = i := by omega
      show place5 _ _ = 4
      have h6 : (ruleTo 5 sos cs k).getD k 0 = 6 := by rw [ruleTo_at (Nat.le_refl _)]; exact hrow k h1 h2
      have hor : backV (ruleTo 5 sos cs k) k = 4 ∨ fwdV (ruleTo 5 sos cs k) k = 4 := by
        rcases hc with ⟨h0, hc⟩ | ⟨h0, hc⟩
        · left
          obtain ⟨m, rfl⟩ : ∃ m, k = m + 1 := ⟨k - 1, by omega⟩
          simp only [Nat.add_sub_cancel] at hc
          rw [backV, hc]
          simp
        · right
          rw [fwdV_row (j := t) rfl (by omega) (by rw [ruleTo_len]; exact ht) fun j a b => by rw [ruleTo_at (by omega)]; exact hrow j (by omega) b, fwdV_in (by rw [ruleTo_len]; exact h0), ruleTo_at (by omega), hc]
          simp
      rw [place5, if_pos ⟨h6, hor⟩]
    | succ d ih =>
      intro k hd h1 h2
      obtain ⟨m, rfl⟩ : ∃ m, k = m + 1 := ⟨k - 1, by omega⟩
      have hm := ih m (by omega) (by omega) (by omega)
      show place5 _ _ = 4
      have h6 : (ruleTo 5 sos cs (m + 1)).getD (m + 1) 0 = 6 := by rw [ruleTo_at (Nat.le_refl _)]; exact hrow _ h1 h2
      have : (ruleTo 5 sos cs (m + 1)).getD m 0 = 4 := by
        rw [ruleTo, set_at (by rw [ruleTo_len]; omega)]; exact hm
      have hb : backV (ruleTo 5 sos cs (m + 1)) (m + 1) = 4 := by
        rw [backV, this]; simp
      rw [place5, if_pos ⟨h6, .inl hb⟩]
  exact fun k h1 h2 => ruleTo_step (key (k - i) k rfl h1 h2).symm
/-- A row of ETs elsewhere. -/
theorem w5_no {t : Nat} (ht : t ≤ cs.length) (hrow : ∀ k, i ≤ k → k < t → cs.getD k 0 = 6) (hp : i = 0 ∨ ¬ (ruleTo 5 sos cs i).getD (i - 1) 0 = 6) (hc1 : ¬ (0 < i ∧ (ruleTo 5 sos cs i).getD (i - 1) 0 = 4)) (hc2 : ¬ (t < cs.length ∧ cs.getD t 0 = 4))
    (hend : t = cs.length ∨ ¬ cs.getD t 0 = 6) : ∀ k, i ≤ k → k ≤ t → ruleTo 5 sos cs k = ruleTo 5 sos cs i := by
  have key : ∀ d k, k - i = d → i ≤ k → k ≤ t → ruleTo 5 sos cs k = ruleTo 5 sos cs i := by
    intro d
    induction d with
    | zero => intro k hd h1 h2; rw [show k = i by omega]
    | succ d ih =>
      intro k hd h1 h2
      obtain ⟨m, rfl⟩ : ∃ m, k = m + 1 := ⟨k - 1, by omega⟩
      have hm := ih m (by omega) (by omega) (by omega)
      rw [← ruleTo_skip ?_, hm]
      show place5 _ _ = _
      rw [place5, if_neg ?_]
      rintro ⟨_, hb⟩
      have hb1 : backV (ruleTo 5 sos cs m) m = backV (ruleTo 5 sos cs i) i := by
        rw [hm]
        exact backV_row (by omega) fun j a b => by rw [ruleTo_at (by omega)]; exact hrow j a (by omega)
      have hf1 : fwdV (ruleTo 5 sos cs m) m = fwdV (ruleTo 5 sos cs m) t := fwdV_row (j := t) rfl (by omega) (by rw [ruleTo_len]; exact ht) fun j a b => by rw [ruleTo_at (by omega)]; exact hrow j (by omega) b
      rw [hb1, hf1] at hb
      rcases hb with hb | hb
      · rcases Nat.eq_zero_or_pos i with e | e
        · subst e; simp [backV] at hb
        · obtain ⟨q, rfl⟩ : ∃ q, i = q + 1 := ⟨i - 1, by omega⟩
          simp only [Nat.add_sub_cancel] at hp hc1
          rw [backV, if_neg (by omega)] at hb
          exact hc1 ⟨by omega, hb⟩
      · rcases Nat.lt_or_ge t cs.length with e | e
        · rw [fwdV_in (by rw [ruleTo_len]; exact e), ruleTo_at (by omega), if_neg (by omega)] at hb
          exact hc2 ⟨e, hb⟩
        · rw [fwdV_out (by rw [ruleTo_len]; exact e)] at hb
          omega
  exact fun k h1 h2 => key (k - i) k rfl h1 h2

end

/-! The rules keep sequences that may be. -/
theorem place_cls {k : Int} {l : List Int} {sos : Int} {i : Nat} (hs : sos = 1 ∨ sos = 2) (hl : ∀ j, j ≤ i → 1 ≤ l.getD j 0 ∧ l.getD j 0 ≤ 23 ∧ remB (l.getD j 0) = false) :
    1 ≤ placeV k l sos i ∧ placeV k l sos i ≤ 23 ∧ remB (placeV k l sos i) = false := by
  have hi := hl i (Nat.le_refl _)
  have hc : ∀ c : Int, c = 1 ∨ c = 2 ∨ c = 4 ∨ c = 7 ∨ c = 14 → 1 ≤ c ∧ c ≤ 23 ∧ remB c = false := fun c h => by rw [remBf]; omega
  have hp : 1 ≤ prevV l sos i ∧ prevV l sos i ≤ 23 ∧ remB (prevV l sos i) = false := by
    unfold prevV
    split
    · exact hc sos (by omega)
    · exact hl (i - 1) (by omega)
  unfold placeV
  repeat' split
  · unfold place1; repeat' split
    · exact hc _ (by omega)
    · exact hp
    · exact hi
  · unfold place2; split
    · exact hc _ (by omega)
    · exact hi
  · unfold place3; split
    · exact hc _ (by omega)
    · exact hi
  · unfold place4; repeat' split
    · exact hc _ (by omega)
    · exact hc _ (by omega)
    · exact hi
  · unfold place5; split
    · exact hc _ (by omega)
    · exact hi
  · unfold place6; split
    · exact hc _ (by omega)
    · exact hi
  · unfold place7; split
    · exact hc _ (by omega)
    · exact hi
  · exact hi
theorem okS_rule {ps cs : List Int} {l so eo k : Int} (h : OkS ps cs l so eo) : OkS ps (ruleC k so cs) l so eo := by
  obtain ⟨g1, g2, g3, g4, g5, g6, g7⟩ := h
  have hcl : ∀ i, ∀ j, j < cs.length → 1 ≤ (ruleTo k so cs i).getD j 0 ∧ (ruleTo k so cs i).getD j 0 ≤ 23 ∧ remB ((ruleTo k so cs i).getD j 0) = false := by
    intro i
    induction i with
    | zero =>
      intro j hj
      obtain ⟨_, h2, h3, h4⟩ := g7 j (by omega)
      exact ⟨h2, h3, h4⟩
    | succ i ih =>
      intro j hj
      rw [ruleTo, getD_set]
      split
      · rename_i e
        exact place_cls g5 fun m hm => ih m (by omega)
      · exact ih j hj
  refine ⟨g1, by rw [ruleC_len]; exact g2, g3, g4, g5, g6, fun i hi => ?_⟩
  exact ⟨(g7 i hi).1, hcl _ i (by omega)⟩
theorem okS_ruleN {ps cs : List Int} {l so eo : Int} (h : OkS ps cs l so eo) : ∀ k, OkS ps (ruleN so cs k) l so eo
  | 0 => h
  | k + 1 => okS_rule (okS_ruleN h k)

end Go.Proofs.Yteompacffdeekaa.Sx
