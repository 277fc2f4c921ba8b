/- Plain laws of the weak rules: nothing behind a strong one counts; what a place hangs on. -/
import Derived.Test.YtkpfgfomppidpaaLy
namespace Go.Proofs.Ytkpfgfomppidpaa.Sx
attribute [local irreducible] OkQ Ok
set_option linter.unusedSimpArgs false
set_option linter.unusedVariables false

theorem weakC_eq {sos : Int} {l : List Int} : weakC sos l = ruleC 7 sos (ruleC 6 sos (ruleC 5 sos (ruleC 4 sos (ruleC 3 sos (ruleC 2 sos (ruleC 1 sos l)))))) := rfl

section
variable {sos : Int} {l m : List Int} {i n : Nat}
theorem at1 (hi : i < l.length) (h : ¬ l.getD i 0 = 9) : (ruleC 1 sos l).getD i 0 = l.getD i 0 := by
  have e : (ruleC 1 sos l).getD i 0 = place1 (ruleTo 1 sos l i) sos i := ruleC_at hi
  rw [e, place1, ruleTo_at (Nat.le_refl _), if_neg h]
theorem at2 (hi : i < l.length) (h : ¬ l.getD i 0 = 4) : (ruleC 2 sos l).getD i 0 = l.getD i 0 := by
  have e : (ruleC 2 sos l).getD i 0 = place2 (ruleTo 2 sos l i) sos i := ruleC_at hi
  rw [e, place2, ruleTo_at (Nat.le_refl _), if_neg fun g => h g.1]
theorem at3 (hi : i < l.length) : (ruleC 3 sos l).getD i 0 = if l.getD i 0 = 3 then 2 else l.getD i 0 := by
  have e : (ruleC 3 sos l).getD i 0 = place3 (ruleTo 3 sos l i) i := ruleC_at hi
  rw [e, place3, ruleTo_at (Nat.le_refl _)]
/-- What place 4 is, of what was. -/
theorem at4 (hi : i < l.length) : (ruleC 4 sos l).getD i 0 = l.getD i 0 ∨ ((l.getD i 0 = 5 ∨ l.getD i 0 = 8) ∧ ((ruleC 4 sos l).getD i 0 = 4 ∨ (ruleC 4 sos l).getD i 0 = 7)) := by
  have e : (ruleC 4 sos l).getD i 0 = place4 (ruleTo 4 sos l i) i := ruleC_at hi
  rw [e, place4, ruleTo_at (Nat.le_refl _)]
  split
  · rename_i h; exact .inr ⟨h.1, .inl rfl⟩
  · split
    · rename_i h; exact .inr ⟨.inr h.1, .inr rfl⟩
    · exact .inl rfl
/-- Behind an ET nothing turns by rule 4. -/
theorem at4_et (hi : i + 1 < l.length) (h : (ruleC 4 sos l).getD i 0 = 6) : (ruleC 4 sos l).getD (i + 1) 0 = l.getD (i + 1) 0 := by
  have e : (ruleC 4 sos l).getD (i + 1) 0 = place4 (ruleTo 4 sos l (i + 1)) (i + 1) := ruleC_at hi
  have hp : prevV (ruleTo 4 sos l (i + 1)) 0 (i + 1) = 6 := by
    unfold prevV
    rw [if_neg (by omega), show i + 1 - 1 = i by omega, ← ruleC_before (k := 4) (sos := sos) (i := i + 1) (by omega) i (by omega)]
    exact h
  rw [e, place4, hp, if_neg (by omega), if_neg (by omega), ruleTo_at (Nat.le_refl _)]
/-- A mark behind an ET. -/
theorem at1_et (hi : i + 1 < l.length) (h : (ruleC 1 sos l).getD i 0 = 6) (hc : l.getD (i + 1) 0 = 6 ∨ l.getD (i + 1) 0 = 9) : (ruleC 1 sos l).getD (i + 1) 0 = 6 := by
  have e : (ruleC 1 sos l).getD (i + 1) 0 = place1 (ruleTo 1 sos l (i + 1)) sos (i + 1) := ruleC_at hi
  have hp : prevV (ruleTo 1 sos l (i + 1)) sos (i + 1) = 6 := by
    unfold prevV
    rw [if_neg (by omega), show i + 1 - 1 = i by omega, ← ruleC_before (k := 1) (sos := sos) (i := i + 1) (by omega) i (by omega)]
    exact h
  rw [e, place1, hp, ruleTo_at (Nat.le_refl _)]
  rcases hc with hc | hc
  · rw [hc, if_neg (by omega)]
  · rw [hc, if_pos rfl, if_neg]
    rintro ⟨_, g⟩
    exact absurd g (by decide)
theorem et2 (hi : i < l.length) : ((ruleC 2 sos l).getD i 0 = 6) = (l.getD i 0 = 6) := by
  have e : (ruleC 2 sos l).getD i 0 = place2 (ruleTo 2 sos l i) sos i := ruleC_at hi
  rw [e, place2, ruleTo_at (Nat.le_refl _)]
  refine propext ?_
  split <;> omega
theorem et3 (hi : i < l.length) : ((ruleC 3 sos l).getD i 0 = 6) = (l.getD i 0 = 6) := by
  rw [at3 hi]
  refine propext ?_
  split <;> omega
theorem et4 (hi : i < l.length) : ((ruleC 4 sos l).getD i 0 = 6) = (l.getD i 0 = 6) := by
  refine propext ?_
  rcases at4 (sos := sos) hi with h | ⟨h, g⟩
  · rw [h]
  · omega

/-- Rule 4, the last of the first n no separator. -/
theorem same_four' (h : SameN (n + 1) l m) (hn : ¬ l.getD n 0 = 5 ∧ ¬ l.getD n 0 = 8) : SameN (n + 1) (ruleC 4 sos l) (ruleC 4 sos m) := by
  refine same_rule h (Nat.le_refl _) fun l' m' i hi _ _ hs hl hm => ?_
  show place4 _ _ = place4 _ _
  have hp : prevV l' 0 i = prevV m' 0 i := by
    unfold prevV
    split
    · rfl
    · exact hs (i - 1) (by omega)
  rcases Nat.lt_or_ge i n with c | c
  · rw [place4, place4, hs i hi, hp, hs (i + 1) (by omega)]
  · obtain rfl : i = n := by omega
    have e1 : l'.getD i 0 = l.getD i 0 := hl i (Nat.le_refl _)
    have e2 : m'.getD i 0 = l.getD i 0 := by rw [← hs i hi, e1]
    rw [place4, place4, e1, e2, if_neg (by omega), if_neg (by omega), if_neg (by omega), if_neg (by omega)]

/-- NOTHING BEHIND A STRONG ONE COUNTS. -/
theorem weak_front (h : SameN (n + 1) l m) (hn : l.getD n 0 = 1 ∨ l.getD n 0 = 2 ∨ l.getD n 0 = 3) : SameN (n + 1) (weakC sos l) (weakC sos m) := by
  have hl : n < l.length := by have := h.1; omega
  rw [weakC_eq, weakC_eq]
  have h1 := same_back (k := 1) (sos := sos) (by omega) h
  have e1 := at1 (sos := sos) hl (by omega)
  have l1 : n < (ruleC 1 sos l).length := by rw [ruleC_len]; exact hl
  have h2 := same_back (k := 2) (sos := sos) (by omega) h1
  have e2 := at2 (sos := sos) l1 (by omega)
  have l2 : n < (ruleC 2 sos (ruleC 1 sos l)).length := by rw [ruleC_len]; exact l1
  have h3 := same_back (k := 3) (sos := sos) (by omega) h2
  have e3 := at3 (sos := sos) l2
  have e3' : (ruleC 3 sos (ruleC 2 sos (ruleC 1 sos l))).getD n 0 = 1 ∨ (ruleC 3 sos (ruleC 2 sos (ruleC 1 sos l))).getD n 0 = 2 := by
    rw [e3]; split <;> omega
  have l3 : n < (ruleC 3 sos (ruleC 2 sos (ruleC 1 sos l))).length := by rw [ruleC_len]; exact l2
  have h4 := same_four' (sos := sos) h3 (by omega)
  have e4 := at4 (sos := sos) l3
  have h5 := same_five (sos := sos) h4 (by omega)
  exact same_back (k := 7) (by omega) (same_back (k := 6) (by omega) h5)

/-- A PLACE HANGS ON NOTHING BEHIND IT, but the ETs and marks next to it and one behind these. -/
theorem weak_near {a e : Nat} (h : SameN (e + 1) l m) (hae : a < e) (hrow : ∀ j, a < j → j < e → l.getD j 0 = 6 ∨ l.getD j 0 = 9) (he : ¬ l.getD e 0 = 6 ∧ ¬ l.getD e 0 = 9) :
    (weakC sos l).getD a 0 = (weakC sos m).getD a 0 := by
  have hl : e < l.length := by have := h.1; omega
  rw [weakC_eq, weakC_eq]
  have h1 := same_back (k := 1) (sos := sos) (by omega) h
  have h2 := same_back (k := 2) (sos := sos) (by omega) h1
  have h3 := same_back (k := 3) (sos := sos) (by omega) h2
  have lt : ∀ {k : Nat}, k ≤ e → k < (ruleC 1 sos l).length := fun hk => by rw [ruleC_len]; omega
  have lt2 : ∀ {k : Nat}, k ≤ e → k < (ruleC 2 sos (ruleC 1 sos l)).length := fun hk => by rw [ruleC_len]; exact lt hk
  have lt3 : ∀ {k : Nat}, k ≤ e → k < (ruleC 3 sos (ruleC 2 sos (ruleC 1 sos l))).length := fun hk => by rw [ruleC_len]; exact lt2 hk
  have e1 := at1 (sos := sos) hl he.2
  have key : ∀ p, a < p → p ≤ e + 1 → SameN p (ruleC 5 sos (ruleC 4 sos (ruleC 3 sos (ruleC 2 sos (ruleC 1 sos l))))) (ruleC 5 sos (ruleC 4 sos (ruleC 3 sos (ruleC 2 sos (ruleC 1 sos m))))) →
      (ruleC 7 sos (ruleC 6 sos (ruleC 5 sos (ruleC 4 sos (ruleC 3 sos (ruleC 2 sos (ruleC 1 sos l))))))).getD a 0 = (ruleC 7 sos (ruleC 6 sos (ruleC 5 sos (ruleC 4 sos (ruleC 3 sos (ruleC 2 sos (ruleC 1 sos m))))))).getD a 0 := fun p hp _ hs =>
    (same_back (k := 7) (by omega) (same_back (k := 6) (by omega) hs)).2.2 a hp
  by_cases c : (ruleC 4 sos (ruleC 3 sos (ruleC 2 sos (ruleC 1 sos l)))).getD a 0 = 6
  · -- an ET: all up to e are
    have c1 : (ruleC 1 sos l).getD a 0 = 6 := by rw [et4 (lt3 (by omega)), et3 (lt2 (by omega)), et2 (lt (by omega))] at c; exact c
    have call : ∀ d, a + d < e → (ruleC 1 sos l).getD (a + d) 0 = 6 := by
      intro d
      induction d with
      | zero => intro _; exact c1
      | succ d ih => intro hd; exact at1_et (i := a + d) (by omega) (ih (by omega)) (hrow (a + d + 1) (by omega) (by omega))
    have cp : (ruleC 4 sos (ruleC 3 sos (ruleC 2 sos (ruleC 1 sos l)))).getD (e - 1) 0 = 6 := by
      rw [et4 (lt3 (by omega)), et3 (lt2 (by omega)), et2 (lt (by omega))]
      have := call (e - 1 - a) (by omega)
      rwa [show a + (e - 1 - a) = e - 1 by omega] at this
    have h4 := same_four (sos := sos) h3
    have cpm : (ruleC 4 sos (ruleC 3 sos (ruleC 2 sos (ruleC 1 sos m)))).getD (e - 1) 0 = 6 := by rw [← h4.2.2 (e - 1) (by omega)]; exact cp
    have l3e := lt3 (Nat.le_refl e)
    have m3e : e < (ruleC 3 sos (ruleC 2 sos (ruleC 1 sos m))).length := by have := h3.2.1; omega
    have a1 := at4_et (sos := sos) (i := e - 1) (by omega) cp
    have a2 := at4_et (sos := sos) (i := e - 1) (by omega) cpm
    rw [show e - 1 + 1 = e by omega] at a1 a2
    have h4' : SameN (e + 1) (ruleC 4 sos (ruleC 3 sos (ruleC 2 sos (ruleC 1 sos l)))) (ruleC 4 sos (ruleC 3 sos (ruleC 2 sos (ruleC 1 sos m)))) := by
      refine ⟨by rw [ruleC_len]; omega, by rw [ruleC_len]; omega, fun i hi => ?_⟩
      rcases Nat.lt_or_ge i e with g | g
      · exact h4.2.2 i g
      · obtain rfl : i = e := by omega
        rw [a1, a2]; exact h3.2.2 i (by omega)
    have hne : ¬ (ruleC 4 sos (ruleC 3 sos (ruleC 2 sos (ruleC 1 sos l)))).getD e 0 = 6 := by
      rw [et4 (lt3 (Nat.le_refl _)), et3 (lt2 (Nat.le_refl _)), et2 (lt (Nat.le_refl _)), e1]; exact he.1
    exact key (e + 1) (by omega) (Nat.le_refl _) (same_five h4' hne)
  · exact key (a + 1) (by omega) (by omega) (same_five (SameN.mono (same_four h3) (by omega)) c)
end

end Go.Proofs.Ytkpfgfomppidpaa.Sx
