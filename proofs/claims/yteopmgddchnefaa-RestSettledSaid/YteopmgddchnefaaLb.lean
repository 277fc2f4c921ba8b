/- What resolving is, place by place. -/
import Derived.Test.YteopmgddchnefaaCg
namespace Go.Proofs.Yteopmgddchnefaa.Sx
attribute [local irreducible] OkQ Ok
set_option linter.unusedSimpArgs false
set_option linter.unusedVariables false

/-- What stands ahead of a place. -/
def ahdAt (cs : List Int) (so : Int) : Nat → Int
  | 0 => so
  | i + 1 => if neutB (cs.getD i 0) = true then ahdAt cs so i else sideV (cs.getD i 0)
def bhdL (eo : Int) : List Int → Int
  | [] => eo
  | c :: r => if neutB c = true then bhdL eo r else sideV c
/-- What stands behind a place, itself taken in. -/
def bhdAt (cs : List Int) (eo : Int) (i : Nat) : Int := bhdL eo (cs.drop i)
def resAt (cs : List Int) (l so eo : Int) (i : Nat) : Int :=
  if neutB (cs.getD i 0) = true then (if ahdAt cs so i = bhdAt cs eo i then ahdAt cs so i else wayV l) else cs.getD i 0
def resC (cs : List Int) (l so eo : Int) : List Int := (List.range cs.length).map (resAt cs l so eo)
/-- The first i places resolved. -/
def mixC (cs : List Int) (l so eo : Int) (i : Nat) : List Int := (List.range cs.length).map fun j => if j < i then resAt cs l so eo j else cs.getD j 0

theorem bhdAt_in {cs : List Int} {eo : Int} {i : Nat} (h : i < cs.length) : bhdAt cs eo i = if neutB (cs.getD i 0) = true then bhdAt cs eo (i + 1) else sideV (cs.getD i 0) := by
  unfold bhdAt
  rw [List.drop_eq_getElem_cons h, getD_at 0 h]
  rfl
theorem bhdAt_out {cs : List Int} {eo : Int} {i : Nat} (h : cs.length ≤ i) : bhdAt cs eo i = eo := by
  unfold bhdAt
  rw [List.drop_eq_nil_iff.2 h]
  rfl
theorem resC_len {cs : List Int} {l so eo : Int} : (resC cs l so eo).length = cs.length := by simp [resC]
theorem mixC_len {cs : List Int} {l so eo : Int} {i : Nat} : (mixC cs l so eo i).length = cs.length := by simp [mixC]
theorem mixC_zero {cs : List Int} {l so eo : Int} : mixC cs l so eo 0 = cs := by
  refine List.ext_getElem (by simp [mixC]) fun j h1 h2 => ?_
  simp [mixC, List.getD_eq_getElem?_getD, h2]
theorem mixC_full {cs : List Int} {l so eo : Int} {i : Nat} (h : cs.length ≤ i) : mixC cs l so eo i = resC cs l so eo := by
  refine List.ext_getElem (by simp [mixC, resC]) fun j h1 h2 => ?_
  have : j < cs.length := by simpa [resC] using h2
  simp [mixC, resC, show j < i by omega]
theorem mixC_at {cs : List Int} {l so eo : Int} {i j : Nat} (h : j < cs.length) : (mixC cs l so eo i).getD j 0 = if j < i then resAt cs l so eo j else cs.getD j 0 := by
  rw [getD_at 0 (by rw [mixC_len]; exact h)]
  simp [mixC]
theorem mixC_set {cs : List Int} {l so eo v : Int} {i : Nat} (h : i < cs.length) (hv : v = resAt cs l so eo i) : (mixC cs l so eo i).set i v = mixC cs l so eo (i + 1) := by
  subst hv
  refine List.ext_getElem (by simp [mixC]) fun j h1 h2 => ?_
  have hj : j < cs.length := by simpa [mixC] using h2
  rw [List.getElem_set]
  simp only [mixC, List.getElem_map, List.getElem_range]
  by_cases e : i = j
  · subst e; simp
  · simp only [e, if_false]
    by_cases e2 : j < i
    · rw [if_pos e2, if_pos (by omega)]
    · rw [if_neg e2, if_neg (by omega)]
theorem mixC_skip {cs : List Int} {l so eo : Int} {i : Nat} (h : i < cs.length) (hn : neutB (cs.getD i 0) = false) : mixC cs l so eo i = mixC cs l so eo (i + 1) := by
  have := mixC_set (l := l) (so := so) (eo := eo) (v := cs.getD i 0) h (by rw [resAt, hn]; rfl)
  rw [← this]
  refine (List.ext_getElem (by simp) fun j h1 h2 => ?_).symm
  rw [List.getElem_set]
  split
  · rename_i e
    subst e
    have := mixC_at (l := l) (so := so) (eo := eo) (i := i) h
    rw [getD_at 0 (by rw [mixC_len]; exact h)] at this
    rw [this, if_neg (by omega)]
  · rfl
theorem resC_next {cs : List Int} {l so eo : Int} {i : Nat} (h : i < cs.length) : (resC cs l so eo).take (i + 1) = (resC cs l so eo).take i ++ [resAt cs l so eo i] := by
  rw [take_next 0 (by rw [resC_len]; exact h), getD_at 0 (by rw [resC_len]; exact h)]
  simp [resC]
/-- A row of neutral ones. -/
theorem ahdAt_row {cs : List Int} {so : Int} {i : Nat} : ∀ {k : Nat}, i ≤ k → (∀ j, i ≤ j → j < k → neutB (cs.getD j 0) = true) → ahdAt cs so k = ahdAt cs so i
  | 0, h, _ => by rw [show i = 0 by omega]
  | k + 1, h, hn => by
    rcases Nat.lt_or_ge k i with hk | hk
    · rw [show i = k + 1 by omega]
    · rw [ahdAt, if_pos (hn k hk (by omega))]
      exact ahdAt_row hk fun j h1 h2 => hn j h1 (by omega)
theorem bhdAt_row {cs : List Int} {eo : Int} {k : Nat} (hk : k ≤ cs.length) : ∀ {d i : Nat}, k - i = d → i ≤ k → (∀ j, i ≤ j → j < k → neutB (cs.getD j 0) = true) → bhdAt cs eo i = bhdAt cs eo k
  | 0, i, hd, h, _ => by rw [show i = k by omega]
  | d + 1, i, hd, h, hn => by
    rw [bhdAt_in (by omega), if_pos (hn i (Nat.le_refl _) (by omega))]
    exact bhdAt_row hk (d := d) (by omega) (by omega) fun j h1 h2 => hn j (by omega) h2

theorem resAt_row {cs : List Int} {l so eo : Int} {i j k : Nat} (hk : k ≤ cs.length) (hn : ∀ j, i ≤ j → j < k → neutB (cs.getD j 0) = true) (h1 : i ≤ j) (h2 : j < k) :
    resAt cs l so eo j = if ahdAt cs so i = bhdAt cs eo k then ahdAt cs so i else wayV l := by
  rw [resAt, if_pos (hn j h1 h2), ahdAt_row h1 fun j' a b => hn j' a (by omega), bhdAt_row hk (d := k - j) rfl (by omega) fun j' a b => hn j' (by omega) b]

theorem neut_sett {c : Int} (h1 : 1 ≤ c) (h2 : c ≤ 23) (h3 : remB c = false) : earlyB c = true ↔ (settB c = false ∧ neutB c = false) := by
  rw [settBf, neutBf, earlyB, decide_eq_true_eq]
  rw [remBf] at h3
  omega
theorem sett_neut {c : Int} (h : settB c = true) : neutB c = false := by
  rw [settBt] at h
  rw [neutBf]
  omega

end Go.Proofs.Yteopmgddchnefaa.Sx
