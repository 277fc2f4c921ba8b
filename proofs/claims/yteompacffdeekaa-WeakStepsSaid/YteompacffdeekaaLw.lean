/- The weak rules, place by place, in the list itself. -/
import Derived.Test.YteompacffdeekaaSa
namespace Go.Proofs.Yteompacffdeekaa.Sx
attribute [local irreducible] OkQ Ok
set_option linter.unusedSimpArgs false
set_option linter.unusedVariables false

def isoB (c : Int) : Bool := decide (20 ≤ c ∧ c ≤ 23)
/-- What of a kind stands next ahead of a place. -/
def lookV (p : Int → Bool) (l : List Int) (sos : Int) : Nat → Int
  | 0 => sos
  | i + 1 => if p (l.getD i 0) = true then l.getD i 0 else lookV p l sos i
def st3 (c : Int) : Bool := decide (c = 1 ∨ c = 2 ∨ c = 3)
def st2 (c : Int) : Bool := decide (c = 1 ∨ c = 2)
/-- The next one that is no ET, to the front; 0: none. -/
def backV (l : List Int) : Nat → Int
  | 0 => 0
  | i + 1 => if l.getD i 0 = 6 then backV l i else l.getD i 0
def fwdL : List Int → Int
  | [] => 0
  | c :: r => if c = 6 then fwdL r else c
def fwdV (l : List Int) (i : Nat) : Int := fwdL (l.drop i)
def prevV (l : List Int) (d : Int) (i : Nat) : Int := if i = 0 then d else l.getD (i - 1) 0

def place1 (l : List Int) (sos : Int) (i : Nat) : Int := if l.getD i 0 = 9 then (if i ≠ 0 ∧ isoB (prevV l sos i) = true then 14 else prevV l sos i) else l.getD i 0
def place2 (l : List Int) (sos : Int) (i : Nat) : Int := if l.getD i 0 = 4 ∧ lookV st3 l sos i = 3 then 7 else l.getD i 0
def place3 (l : List Int) (i : Nat) : Int := if l.getD i 0 = 3 then 2 else l.getD i 0
def place4 (l : List Int) (i : Nat) : Int :=
  if (l.getD i 0 = 5 ∨ l.getD i 0 = 8) ∧ prevV l 0 i = 4 ∧ l.getD (i + 1) 0 = 4 then 4
  else if l.getD i 0 = 8 ∧ prevV l 0 i = 7 ∧ l.getD (i + 1) 0 = 7 then 7 else l.getD i 0
def place5 (l : List Int) (i : Nat) : Int := if l.getD i 0 = 6 ∧ (backV l i = 4 ∨ fwdV l i = 4) then 4 else l.getD i 0
def place6 (l : List Int) (i : Nat) : Int := if l.getD i 0 = 5 ∨ l.getD i 0 = 6 ∨ l.getD i 0 = 8 then 14 else l.getD i 0
def place7 (l : List Int) (sos : Int) (i : Nat) : Int := if l.getD i 0 = 4 ∧ lookV st2 l sos i = 1 then 1 else l.getD i 0
def placeV (k : Int) (l : List Int) (sos : Int) (i : Nat) : Int :=
  if k = 1 then place1 l sos i else if k = 2 then place2 l sos i else if k = 3 then place3 l i else if k = 4 then place4 l i
  else if k = 5 then place5 l i else if k = 6 then place6 l i else if k = 7 then place7 l sos i else l.getD i 0
/-- The first i places done. -/
def ruleTo (k : Int) (sos : Int) (l : List Int) : Nat → List Int
  | 0 => l
  | i + 1 => (ruleTo k sos l i).set i (placeV k (ruleTo k sos l i) sos i)
def ruleC (k : Int) (sos : Int) (l : List Int) : List Int := ruleTo k sos l l.length
def ruleN (sos : Int) (l : List Int) : Nat → List Int
  | 0 => l
  | k + 1 => ruleC ((k + 1 : Nat) : Int) sos (ruleN sos l k)
def weakC (sos : Int) (l : List Int) : List Int := ruleN sos l 7

theorem ruleTo_len {k sos : Int} {l : List Int} : ∀ {i : Nat}, (ruleTo k sos l i).length = l.length
  | 0 => rfl
  | i + 1 => by rw [ruleTo, List.length_set, ruleTo_len]
theorem ruleC_len {k sos : Int} {l : List Int} : (ruleC k sos l).length = l.length := ruleTo_len
theorem ruleN_len {sos : Int} {l : List Int} : ∀ {k : Nat}, (ruleN sos l k).length = l.length
  | 0 => rfl
  | k + 1 => by rw [ruleN, ruleC_len, ruleN_len]
theorem weakC_len {sos : Int} {l : List Int} : (weakC sos l).length = l.length := ruleN_len
theorem getD_set {l : List Int} {i j : Nat} {v : Int} : (l.set i v).getD j 0 = if i = j ∧ i < l.length then v else l.getD j 0 := by
  simp only [List.getD_eq_getElem?_getD, List.getElem?_set]
  by_cases e : i = j
  · subst e
    by_cases h : i < l.length
    · simp [h]
    · simp [h]
  · simp [e]
theorem set_self {l : List Int} {i : Nat} : l.set i (l.getD i 0) = l := by
  refine List.ext_getElem (by simp) fun j h1 h2 => ?_
  rw [List.getElem_set]
  split
  · rename_i e; subst e; rw [getD_at 0 h2]
  · rfl
/-- What is to come is as it was. -/
theorem ruleTo_at {k sos : Int} {l : List Int} : ∀ {i j : Nat}, i ≤ j → (ruleTo k sos l i).getD j 0 = l.getD j 0
  | 0, j, _ => rfl
  | i + 1, j, h => by rw [ruleTo, getD_set, if_neg (by omega), ruleTo_at (by omega)]
/-- What is done stays. -/
theorem ruleTo_done {k sos : Int} {l : List Int} {i : Nat} : ∀ {j : Nat}, i ≤ j → ∀ m, m < i → (ruleTo k sos l j).getD m 0 = (ruleTo k sos l i).getD m 0
  | 0, h, m, hm => by omega
  | j + 1, h, m, hm => by
    rcases Nat.lt_or_ge j i with hj | hj
    · rw [show i = j + 1 by omega]
    · rw [ruleTo, getD_set, if_neg (by omega), ruleTo_done hj m hm]
theorem ruleTo_end {k sos : Int} {l : List Int} {i : Nat} (h : l.length ≤ i) : ruleTo k sos l i = ruleC k sos l := by
  refine List.ext_getElem (by rw [ruleTo_len, ruleC_len]) fun j h1 h2 => ?_
  rw [ruleC_len] at h2
  have := ruleTo_done (k := k) (sos := sos) (l := l) (i := l.length) (j := i) h j h2
  rw [getD_at 0 h1, getD_at 0 (by rw [ruleTo_len]; exact h2)] at this
  exact this
theorem ruleTo_step {k sos : Int} {l : List Int} {i : Nat} {v : Int} (h : v = placeV k (ruleTo k sos l i) sos i) : (ruleTo k sos l i).set i v = ruleTo k sos l (i + 1) := by rw [ruleTo, h]
theorem ruleTo_skip {k sos : Int} {l : List Int} {i : Nat} (h : placeV k (ruleTo k sos l i) sos i = (ruleTo k sos l i).getD i 0) : ruleTo k sos l i = ruleTo k sos l (i + 1) := by rw [ruleTo, h, set_self]
/-- A place's end. -/
theorem ruleC_at {k sos : Int} {l : List Int} {i : Nat} (h : i < l.length) : (ruleC k sos l).getD i 0 = placeV k (ruleTo k sos l i) sos i := by
  rw [ruleC, ruleTo_done (i := i + 1) (by omega) i (by omega), ruleTo, getD_set, if_pos ⟨rfl, by rw [ruleTo_len]; exact h⟩]

/-! What stands ahead, and what the rules turn. -/
theorem lookV_congr {p : Int → Bool} {l m : List Int} {sos : Int} : ∀ {i : Nat}, (∀ j, j < i → l.getD j 0 = m.getD j 0) → lookV p l sos i = lookV p m sos i
  | 0, _ => rfl
  | i + 1, h => by rw [lookV, lookV, h i (by omega), lookV_congr fun j hj => h j (by omega)]
theorem lookV_skip {p : Int → Bool} {l : List Int} {sos : Int} {i : Nat} (h : p (l.getD i 0) = false) : lookV p l sos (i + 1) = lookV p l sos i := by rw [lookV, h]; rfl
theorem lookV_hit {p : Int → Bool} {l : List Int} {sos : Int} {i : Nat} (h : p (l.getD i 0) = true) : lookV p l sos (i + 1) = l.getD i 0 := by rw [lookV, h]; rfl
theorem backV_congr {l m : List Int} : ∀ {i : Nat}, (∀ j, j < i → l.getD j 0 = m.getD j 0) → backV l i = backV m i
  | 0, _ => rfl
  | i + 1, h => by rw [backV, backV, h i (by omega), backV_congr fun j hj => h j (by omega)]
theorem fwdV_in {l : List Int} {i : Nat} (h : i < l.length) : fwdV l i = if l.getD i 0 = 6 then fwdV l (i + 1) else l.getD i 0 := by
  unfold fwdV
  rw [List.drop_eq_getElem_cons h, getD_at 0 h]
  rfl
theorem fwdV_out {l : List Int} {i : Nat} (h : l.length ≤ i) : fwdV l i = 0 := by
  unfold fwdV
  rw [List.drop_eq_nil_iff.2 h]
  rfl
theorem fwdV_row {l : List Int} : ∀ {d i j : Nat}, j - i = d → i ≤ j → j ≤ l.length → (∀ k, i ≤ k → k < j → l.getD k 0 = 6) → fwdV l i = fwdV l j
  | 0, i, j, hd, h, _, _ => by rw [show i = j by omega]
  | d + 1, i, j, hd, h, hl, hn => by
    rw [fwdV_in (by omega), if_pos (hn i (Nat.le_refl _) (by omega))]
    exact fwdV_row (d := d) (by omega) (by omega) hl fun k h1 h2 => hn k (by omega) h2
theorem backV_row {l : List Int} : ∀ {i j : Nat}, i ≤ j → (∀ k, i ≤ k → k < j → l.getD k 0 = 6) → backV l j = backV l i
  | i, 0, h, _ => by rw [show i = 0 by omega]
  | i, j + 1, h, hn => by
    rcases Nat.lt_or_ge j i with hj | hj
    · rw [show i = j + 1 by omega]
    · rw [backV, if_pos (hn j hj (by omega))]
      exact backV_row hj fun k h1 h2 => hn k h1 (by omega)

end Go.Proofs.Yteompacffdeekaa.Sx
