/- Plain laws of the weak rules: done twice, what is left, what a place hangs on. -/
import Derived.Test.YtkpfgfomppidpaaLx
namespace Go.Proofs.Ytkpfgfomppidpaa.Sx
attribute [local irreducible] OkQ Ok
set_option linter.unusedSimpArgs false
set_option linter.unusedVariables false

/-! Done twice. -/
theorem rule_fix {k sos : Int} {l : List Int} (h : ∀ i, i < l.length → placeV k l sos i = l.getD i 0) : ruleC k sos l = l := by
  have key : ∀ i, i ≤ l.length → ruleTo k sos l i = l := by
    intro i
    induction i with
    | zero => intro _; rfl
    | succ i ih =>
      intro hi
      have e := ih (by omega)
      rw [ruleTo, e, h i (by omega), set_self]
  exact key _ (Nat.le_refl _)
theorem ruleC_before {k sos : Int} {l : List Int} {i : Nat} (hi : i ≤ l.length) : ∀ j, j < i → (ruleC k sos l).getD j 0 = (ruleTo k sos l i).getD j 0 := fun j hj => ruleTo_done (i := i) hi j hj
section
variable {sos : Int} {cs : List Int}
theorem again3 : ruleC 3 sos (ruleC 3 sos cs) = ruleC 3 sos cs := by
  refine rule_fix fun i hi => ?_
  rw [ruleC_len] at hi
  have e : (ruleC 3 sos cs).getD i 0 = place3 (ruleTo 3 sos cs i) i := ruleC_at hi
  show place3 _ _ = _
  rw [place3, if_neg]
  rw [e, place3]
  split <;> omega
theorem again6 : ruleC 6 sos (ruleC 6 sos cs) = ruleC 6 sos cs := by
  refine rule_fix fun i hi => ?_
  rw [ruleC_len] at hi
  have e : (ruleC 6 sos cs).getD i 0 = place6 (ruleTo 6 sos cs i) i := ruleC_at hi
  show place6 _ _ = _
  rw [place6, if_neg]
  rw [e, place6]
  split <;> omega
theorem again7 : ruleC 7 sos (ruleC 7 sos cs) = ruleC 7 sos cs := by
  refine rule_fix fun i hi => ?_
  rw [ruleC_len] at hi
  have e : (ruleC 7 sos cs).getD i 0 = place7 (ruleTo 7 sos cs i) sos i := ruleC_at hi
  show place7 _ _ _ = _
  rw [place7, if_neg]
  rintro ⟨h1, h2⟩
  rw [lookV_congr (ruleC_before (k := 7) (sos := sos) (i := i) (by omega))] at h2
  rw [e, place7] at h1
  split at h1
  · omega
  · rename_i hn
    exact hn ⟨h1, h2⟩
theorem stay5 {i : Nat} (hi : i < cs.length) (h : (ruleC 5 sos cs).getD i 0 = 6) : cs.getD i 0 = 6 ∧ ¬ backV (ruleTo 5 sos cs i) i = 4 ∧ ¬ fwdV cs i = 4 := by
  have e : (ruleC 5 sos cs).getD i 0 = place5 (ruleTo 5 sos cs i) i := ruleC_at hi
  have hf : fwdV (ruleTo 5 sos cs i) i = fwdV cs i := by
    have : ∀ d j, cs.length - j = d → i ≤ j → fwdV (ruleTo 5 sos cs i) j = fwdV cs j := by
      intro d
      induction d with
      | zero => intro j h1 h2; rw [fwdV_out (by rw [ruleTo_len]; omega), fwdV_out (by omega)]
      | succ d ih =>
        intro j h1 h2
        rw [fwdV_in (by rw [ruleTo_len]; omega), fwdV_in (l := cs) (by omega), ruleTo_at h2, ih (j + 1) (by omega) (by omega)]
    exact this _ i rfl (Nat.le_refl _)
  rw [e, place5, ruleTo_at (Nat.le_refl _), hf] at h
  split at h
  · omega
  · rename_i hn
    exact ⟨h, by omega, by omega⟩
theorem again5 : ruleC 5 sos (ruleC 5 sos cs) = ruleC 5 sos cs := by
  have hfwd : ∀ d i, cs.length - i = d → i < cs.length → (ruleC 5 sos cs).getD i 0 = 6 → fwdV (ruleC 5 sos cs) i = fwdV cs i := by
    intro d
    induction d with
    | zero => intro i h1 h2; omega
    | succ d ih =>
      intro i h1 h2 h6
      obtain ⟨g1, g2, g3⟩ := stay5 h2 h6
      rw [fwdV_in (by rw [ruleC_len]; exact h2), if_pos h6, fwdV_in h2, if_pos g1]
      rw [fwdV_in h2, if_pos g1] at g3
      rcases Nat.lt_or_ge (i + 1) cs.length with hn | hn
      · have e : (ruleC 5 sos cs).getD (i + 1) 0 = place5 (ruleTo 5 sos cs (i + 1)) (i + 1) := ruleC_at hn
        have hat : (ruleTo 5 sos cs (i + 1)).getD (i + 1) 0 = cs.getD (i + 1) 0 := ruleTo_at (Nat.le_refl _)
        by_cases h6' : cs.getD (i + 1) 0 = 6
        · have hb : backV (ruleTo 5 sos cs (i + 1)) (i + 1) = backV (ruleTo 5 sos cs i) i := by
            have : (ruleTo 5 sos cs (i + 1)).getD i 0 = 6 := by rw [← ruleC_before (k := 5) (sos := sos) (i := i + 1) (by omega) i (by omega)]; exact h6
            rw [backV, if_pos this]
            exact backV_congr fun j hj => ruleTo_done (by omega) j hj
          have hf : fwdV (ruleTo 5 sos cs (i + 1)) (i + 1) = fwdV cs (i + 1) := by
            have : ∀ d j, cs.length - j = d → i + 1 ≤ j → fwdV (ruleTo 5 sos cs (i + 1)) j = fwdV cs j := by
              intro d
              induction d with
              | zero => intro j h1 h2; rw [fwdV_out (by rw [ruleTo_len]; omega), fwdV_out (by omega)]
              | succ d ih =>
                intro j h1 h2
                rw [fwdV_in (by rw [ruleTo_len]; omega), fwdV_in (l := cs) (by omega), ruleTo_at h2, ih (j + 1) (by omega) (by omega)]
            exact this _ (i + 1) rfl (Nat.le_refl _)
          refine ih (i + 1) (by omega) hn ?_
          rw [e, place5, if_neg (by rw [hb, hf]; omega), hat]; exact h6'
        · have e2 : (ruleC 5 sos cs).getD (i + 1) 0 = cs.getD (i + 1) 0 := by rw [e, place5, hat, if_neg fun q => h6' q.1]
          rw [fwdV_in (by rw [ruleC_len]; exact hn), fwdV_in hn, e2, if_neg h6', if_neg h6']
      · rw [fwdV_out (by rw [ruleC_len]; exact hn), fwdV_out hn]
  refine rule_fix fun i hi => ?_
  rw [ruleC_len] at hi
  show place5 _ _ = _
  rw [place5, if_neg]
  rintro ⟨h1, h2⟩
  obtain ⟨g1, g2, g3⟩ := stay5 hi h1
  rw [hfwd _ i rfl hi h1, backV_congr (ruleC_before (k := 5) (sos := sos) (i := i) (by omega))] at h2
  omega
end

/-! What is left. -/
def Stays (c : Int) : Prop := c = 1 ∨ c = 2 ∨ c = 11 ∨ c = 12 ∨ c = 13 ∨ c = 14 ∨ (20 ≤ c ∧ c ≤ 23)
theorem place_stays {k : Int} {l : List Int} {sos : Int} {i : Nat} (h : Stays (l.getD i 0)) : placeV k l sos i = l.getD i 0 := by
  unfold Stays at h
  generalize hc : l.getD i 0 = c at *
  unfold placeV
  repeat' split
  · rw [place1, hc, if_neg (by omega)]
  · rw [place2, hc, if_neg (by omega)]
  · rw [place3, hc, if_neg (by omega)]
  · rw [place4, hc, if_neg (by omega), if_neg (by omega)]
  · rw [place5, hc, if_neg (by omega)]
  · rw [place6, hc, if_neg (by omega)]
  · rw [place7, hc, if_neg (by omega)]
  · exact hc
theorem rule_stays {k sos : Int} {l : List Int} {i : Nat} (hi : i < l.length) (h : Stays (l.getD i 0)) : (ruleC k sos l).getD i 0 = l.getD i 0 := by
  have e : (ruleTo k sos l i).getD i 0 = l.getD i 0 := ruleTo_at (Nat.le_refl _)
  rw [ruleC_at hi, place_stays (by rw [e]; exact h), e]
theorem ruleN_stays {sos : Int} {l : List Int} {i : Nat} (hi : i < l.length) (h : Stays (l.getD i 0)) : ∀ k, (ruleN sos l k).getD i 0 = l.getD i 0
  | 0 => rfl
  | k + 1 => by
    have e := ruleN_stays (sos := sos) hi h k
    rw [ruleN, rule_stays (by rw [ruleN_len]; exact hi) (by rw [e]; exact h), e]
theorem weak_stays {sos : Int} {l : List Int} {i : Nat} (hi : i < l.length) (h : Stays (l.getD i 0)) : (weakC sos l).getD i 0 = l.getD i 0 := ruleN_stays hi h 7

/-- The classes of a list. -/
def Cls (P : Int → Prop) (l : List Int) : Prop := ∀ i, i < l.length → P (l.getD i 0)
theorem cls_rule {k sos : Int} {P : Int → Prop} {Q : Int → Prop} {l : List Int} (hl : Cls P l)
    (h : ∀ (m : List Int) (i : Nat), i < m.length → P (m.getD i 0) → (∀ j, j < i → Q (m.getD j 0)) → Q (placeV k m sos i)) : Cls Q (ruleC k sos l) := by
  have key : ∀ n i, i ≤ n → i < l.length → Q ((ruleC k sos l).getD i 0) := by
    intro n
    induction n with
    | zero =>
      intro i h1 h2
      obtain rfl : i = 0 := by omega
      rw [ruleC_at h2]
      exact h _ 0 (by rw [ruleTo_len]; exact h2) (by rw [ruleTo_at (Nat.le_refl _)]; exact hl 0 h2) fun j hj => by omega
    | succ n ih =>
      intro i h1 h2
      rw [ruleC_at h2]
      exact h _ i (by rw [ruleTo_len]; exact h2) (by rw [ruleTo_at (Nat.le_refl _)]; exact hl i h2) fun j hj => by
        rw [← ruleC_before (k := k) (sos := sos) (i := i) (by omega) j hj]; exact ih j (by omega) (by omega)
  intro i hi
  rw [ruleC_len] at hi
  exact key i i (Nat.le_refl _) hi
def Lefts (c : Int) : Prop := c = 1 ∨ c = 2 ∨ c = 4 ∨ c = 7 ∨ (11 ≤ c ∧ c ≤ 14) ∨ (20 ≤ c ∧ c ≤ 23)
theorem weak_left {sos : Int} {l : List Int} (hs : sos = 1 ∨ sos = 2) (hl : Cls (fun c => 1 ≤ c ∧ c ≤ 23 ∧ remB c = false) l) : Cls Lefts (weakC sos l) := by
  have h1 : Cls (fun c => 1 ≤ c ∧ c ≤ 23 ∧ remB c = false ∧ c ≠ 9) (ruleN sos l 1) := by
    refine cls_rule (k := 1) hl fun m i hi hP hb => ?_
    show _ ∧ _ ∧ _ ∧ _
    rw [show placeV 1 m sos i = place1 m sos i from rfl]
    have hp : 1 ≤ prevV m sos i ∧ prevV m sos i ≤ 23 ∧ remB (prevV m sos i) = false ∧ prevV m sos i ≠ 9 := by
      unfold prevV
      split
      · rw [remBf]; omega
      · exact hb (i - 1) (by omega)
    unfold place1
    repeat' split
    · rw [remBf]; omega
    · exact hp
    · exact ⟨hP.1, hP.2.1, hP.2.2, by assumption⟩
  have h2 : Cls (fun c => 1 ≤ c ∧ c ≤ 23 ∧ remB c = false ∧ c ≠ 9) (ruleN sos l 2) := by
    refine cls_rule (k := 2) h1 fun m i hi hP hb => ?_
    rw [show placeV 2 m sos i = place2 m sos i from rfl]
    unfold place2
    split
    · rw [remBf]; omega
    · exact hP
  have h3 : Cls (fun c => 1 ≤ c ∧ c ≤ 23 ∧ remB c = false ∧ c ≠ 9 ∧ c ≠ 3) (ruleN sos l 3) := by
    refine cls_rule (k := 3) h2 fun m i hi hP hb => ?_
    rw [show placeV 3 m sos i = place3 m i from rfl]
    unfold place3
    split
    · rw [remBf]; omega
    · exact ⟨hP.1, hP.2.1, hP.2.2.1, hP.2.2.2, by assumption⟩
  have h4 : Cls (fun c => 1 ≤ c ∧ c ≤ 23 ∧ remB c = false ∧ c ≠ 9 ∧ c ≠ 3) (ruleN sos l 4) := by
    refine cls_rule (k := 4) h3 fun m i hi hP hb => ?_
    rw [show placeV 4 m sos i = place4 m i from rfl]
    unfold place4
    repeat' split
    · rw [remBf]; omega
    · rw [remBf]; omega
    · exact hP
  have h5 : Cls (fun c => 1 ≤ c ∧ c ≤ 23 ∧ remB c = false ∧ c ≠ 9 ∧ c ≠ 3) (ruleN sos l 5) := by
    refine cls_rule (k := 5) h4 fun m i hi hP hb => ?_
    rw [show placeV 5 m sos i = place5 m i from rfl]
    unfold place5
    split
    · rw [remBf]; omega
    · exact hP
  have h6 : Cls Lefts (ruleN sos l 6) := by
    refine cls_rule (k := 6) h5 fun m i hi hP hb => ?_
    rw [show placeV 6 m sos i = place6 m i from rfl]
    unfold place6 Lefts
    rw [remBf] at hP
    split <;> omega
  refine cls_rule (k := 7) h6 fun m i hi hP hb => ?_
  rw [show placeV 7 m sos i = place7 m sos i from rfl]
  unfold place7
  split
  · exact .inl rfl
  · exact hP
/-- Where an EN stands. -/
theorem weak_en {sos : Int} {l : List Int} {i : Nat} (hi : i < l.length) (h : (weakC sos l).getD i 0 = 4) : ¬ lookV st2 (weakC sos l) sos i = 1 := by
  have hi' : i < (ruleN sos l 6).length := by rw [ruleN_len]; exact hi
  have e : (weakC sos l).getD i 0 = place7 (ruleTo 7 sos (ruleN sos l 6) i) sos i := ruleC_at hi'
  have hb : lookV st2 (weakC sos l) sos i = lookV st2 (ruleTo 7 sos (ruleN sos l 6) i) sos i := lookV_congr (ruleC_before (k := 7) (sos := sos) (l := ruleN sos l 6) (i := i) (by omega))
  rw [hb]
  intro g
  rw [e, place7] at h
  split at h
  · omega
  · rename_i hn
    exact hn ⟨h, g⟩
theorem look12 {sos : Int} {l : List Int} (hs : sos = 1 ∨ sos = 2) : ∀ i, lookV st2 l sos i = 1 ∨ lookV st2 l sos i = 2
  | 0 => hs
  | i + 1 => by
    rw [lookV]
    split
    · rename_i h; rw [st2t] at h; exact h
    · exact look12 hs i

/-! What a place hangs on. -/
/-- The first n places alike. -/
def SameN (n : Nat) (l m : List Int) : Prop := n ≤ l.length ∧ n ≤ m.length ∧ ∀ i, i < n → l.getD i 0 = m.getD i 0
theorem SameN.mono {n k : Nat} {l m : List Int} (h : SameN n l m) (hk : k ≤ n) : SameN k l m := ⟨by have := h.1; omega, by have := h.2.1; omega, fun i hi => h.2.2 i (by omega)⟩
/-- A rule that, at the first n places, looks at none behind what is alike. -/
theorem same_rule {k sos : Int} {n p : Nat} {l m : List Int} (h : SameN n l m) (hp : p ≤ n)
    (hq : ∀ (l' m' : List Int) (i : Nat), i < p → l'.length = l.length → m'.length = m.length → (∀ j, j < n → l'.getD j 0 = m'.getD j 0) → (∀ j, i ≤ j → l'.getD j 0 = l.getD j 0) → (∀ j, i ≤ j → m'.getD j 0 = m.getD j 0) → placeV k l' sos i = placeV k m' sos i) :
    SameN p (ruleC k sos l) (ruleC k sos m) := by
  have key : ∀ i, i ≤ p → ∀ j, j < n → (ruleTo k sos l i).getD j 0 = (ruleTo k sos m i).getD j 0 := by
    intro i
    induction i with
    | zero => exact fun _ => h.2.2
    | succ i ih =>
      intro hi j hj
      have e := hq (ruleTo k sos l i) (ruleTo k sos m i) i (by omega) ruleTo_len ruleTo_len (ih (by omega)) (fun j hj => ruleTo_at hj) fun j hj => ruleTo_at hj
      rw [ruleTo, ruleTo, getD_set, getD_set, e, ruleTo_len, ruleTo_len, ih (by omega) j hj]
      have h1 := h.1; have h2 := h.2.1
      by_cases c : i = j
      · rw [if_pos ⟨c, by omega⟩, if_pos ⟨c, by omega⟩]
      · rw [if_neg (by omega), if_neg (by omega)]
  have h1 := h.1; have h2 := h.2.1
  refine ⟨by rw [ruleC_len]; omega, by rw [ruleC_len]; omega, fun i hi => ?_⟩
  rw [ruleC_before (i := p) (by omega) i hi, ruleC_before (i := p) (by omega) i hi]
  exact key p (Nat.le_refl _) i (by omega)
/-- The rules that look ahead alone. -/
theorem same_back {k sos : Int} {n : Nat} {l m : List Int} (hk : k = 1 ∨ k = 2 ∨ k = 3 ∨ k = 6 ∨ k = 7) (h : SameN n l m) : SameN n (ruleC k sos l) (ruleC k sos m) := by
  refine same_rule h (Nat.le_refl _) fun l' m' i hi _ _ hs _ _ => ?_
  have h0 := hs i hi
  rcases hk with rfl | rfl | rfl | rfl | rfl
  · show place1 _ _ _ = place1 _ _ _
    have hp : prevV l' sos i = prevV m' sos i := by
      unfold prevV
      split
      · rfl
      · exact hs (i - 1) (by omega)
    rw [place1, place1, h0, hp]
  · show place2 _ _ _ = place2 _ _ _
    rw [place2, place2, h0, lookV_congr fun j hj => hs j (by omega)]
  · show place3 _ _ = place3 _ _
    rw [place3, place3, h0]
  · show place6 _ _ = place6 _ _
    rw [place6, place6, h0]
  · show place7 _ _ _ = place7 _ _ _
    rw [place7, place7, h0, lookV_congr fun j hj => hs j (by omega)]
theorem same_four {sos : Int} {n : Nat} {l m : List Int} (h : SameN (n + 1) l m) : SameN n (ruleC 4 sos l) (ruleC 4 sos m) := by
  refine same_rule h (by omega) fun l' m' i hi _ _ hs _ _ => ?_
  show place4 _ _ = place4 _ _
  have hp : prevV l' 0 i = prevV m' 0 i := by
    unfold prevV
    split
    · rfl
    · exact hs (i - 1) (by omega)
  rw [place4, place4, hs i (by omega), hp, hs (i + 1) (by omega)]
theorem fwd_same {l m : List Int} {e : Nat} (hl : e < l.length) (hm : e < m.length) (hs : ∀ j, j ≤ e → l.getD j 0 = m.getD j 0) (he : ¬ l.getD e 0 = 6) : ∀ d i, e - i = d → i ≤ e → fwdV l i = fwdV m i := by
  intro d
  induction d with
  | zero =>
    intro i h1 h2
    obtain rfl : i = e := by omega
    rw [fwdV_in hl, fwdV_in hm, ← hs i (Nat.le_refl _), if_neg he, if_neg he]
  | succ d ih =>
    intro i h1 h2
    rw [fwdV_in (l := l) (i := i) (by omega), fwdV_in (l := m) (i := i) (by omega), hs i (by omega), ih (i + 1) (by omega) (by omega)]
/-- Rule 5, where the first n + 1 are alike and the last of these is no ET. -/
theorem same_five {sos : Int} {n : Nat} {l m : List Int} (h : SameN (n + 1) l m) (hn : ¬ l.getD n 0 = 6) : SameN (n + 1) (ruleC 5 sos l) (ruleC 5 sos m) := by
  have h1 := h.1; have h2 := h.2.1
  refine same_rule h (Nat.le_refl _) fun l' m' i hi el em hs hl hm => ?_
  show place5 _ _ = place5 _ _
  have hf : fwdV l' i = fwdV m' i := fwd_same (e := n) (by omega) (by omega) (fun j hj => hs j (by omega)) (by rw [hl n (by omega)]; exact hn) _ i rfl (by omega)
  rw [place5, place5, hs i hi, hf, backV_congr fun j hj => hs j (by omega)]

end Go.Proofs.Ytkpfgfomppidpaa.Sx
