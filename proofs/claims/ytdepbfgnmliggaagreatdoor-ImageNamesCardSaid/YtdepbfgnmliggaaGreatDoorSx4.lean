/- Cells as data and back. -/
import Derived.Test.YtdepbfgnmliggaaGreatDoorSx3
namespace Go.Proofs.YtdepbfgnmliggaaGreatDoor.Sx
set_option linter.unusedSimpArgs false
set_option linter.unusedVariables false

theorem S1sok.nil {E : Env} {w : World} : S1sok E w [] [] := ⟨rfl, fun i x v h => by simp at h⟩

theorem S1sok.cons {E : Env} {w : World} {x : S1} {v : Value} {l : List S1} {vs : List Value} (h : S1ok E w x v) (r : S1sok E w l vs) : S1sok E w (x :: l) (v :: vs) := by
  refine ⟨by simp [r.1], fun i y u h1 h2 => ?_⟩
  cases i with
  | zero => simp at h1 h2; subst h1; subst h2; exact h
  | succ i => exact r.2 i y u (by simpa using h1) (by simpa using h2)

theorem S1sok.one {E : Env} {w : World} {x : S1} {v : Value} (h : S1ok E w x v) : S1sok E w [x] [v] := .cons h .nil

theorem S1sok.uncons {E : Env} {w : World} {x : S1} {l : List S1} {vs : List Value} (r : S1sok E w (x :: l) vs) : ∃ v us, vs = v :: us ∧ S1ok E w x v ∧ S1sok E w l us := by
  obtain ⟨h1, h2⟩ := r
  cases vs with
  | nil => simp at h1
  | cons v us =>
    refine ⟨v, us, rfl, h2 0 x v rfl rfl, by simpa using h1, fun i y u a b => h2 (i + 1) y u (by simpa using a) (by simpa using b)⟩

theorem S1sok.nil_inv {E : Env} {w : World} {vs : List Value} (r : S1sok E w [] vs) : vs = [] := List.eq_nil_of_length_eq_zero r.1

theorem S1sok.append {E : Env} {w : World} {l l' : List S1} {vs vs' : List Value} (h : S1sok E w l vs) (h' : S1sok E w l' vs') : S1sok E w (l ++ l') (vs ++ vs') := by
  induction l generalizing vs with
  | nil => rw [h.nil_inv]; exact h'
  | cons x l ih =>
    obtain ⟨v, us, rfl, h1, h2⟩ := h.uncons
    exact .cons h1 (ih h2)

theorem S1sok.split {E : Env} {w : World} {l l' : List S1} {vs : List Value} (h : S1sok E w (l ++ l') vs) : ∃ us us', vs = us ++ us' ∧ S1sok E w l us ∧ S1sok E w l' us' := by
  induction l generalizing vs with
  | nil => exact ⟨[], vs, rfl, .nil, h⟩
  | cons x l ih =>
    obtain ⟨v, us, rfl, h1, h2⟩ := S1sok.uncons h
    obtain ⟨u1, u2, rfl, h3, h4⟩ := ih h2
    exact ⟨v :: u1, u2, rfl, .cons h1 h3, h4⟩

theorem drop1_eq (l : List S1) (n : Nat) : drop1 l n = l.drop n := by
  induction l generalizing n with
  | nil => cases n <;> simp [drop1]
  | cons x l ih => cases n with
    | zero => simp [drop1]
    | succ n => simp [drop1, ih]

theorem take1_eq (l : List S1) (n : Nat) : take1 l n = l.take n := by
  induction l generalizing n with
  | nil => cases n <;> simp [take1]
  | cons x l ih => cases n with
    | zero => simp [take1]
    | succ n => simp [take1, ih]

theorem g1_eq (l : List S1) (n : Nat) (h : n < l.length) : l[n]? = some (g1 l n) := by
  induction l generalizing n with
  | nil => simp at h
  | cons x l ih => cases n with
    | zero => rfl
    | succ n => simpa [g1] using ih n (by simpa using h)

theorem S1sok.drop {E : Env} {w : World} {l : List S1} {vs : List Value} (h : S1sok E w l vs) (n : Nat) : S1sok E w (l.drop n) (vs.drop n) := by
  induction l generalizing vs n with
  | nil => rw [h.nil_inv]; simpa using S1sok.nil
  | cons x l ih =>
    obtain ⟨v, us, rfl, h1, h2⟩ := h.uncons
    cases n with
    | zero => exact .cons h1 h2
    | succ n => simpa using ih h2 n

theorem S1sok.take {E : Env} {w : World} {l : List S1} {vs : List Value} (h : S1sok E w l vs) (n : Nat) : S1sok E w (l.take n) (vs.take n) := by
  induction l generalizing vs n with
  | nil => rw [h.nil_inv]; simpa using S1sok.nil
  | cons x l ih =>
    obtain ⟨v, us, rfl, h1, h2⟩ := h.uncons
    cases n with
    | zero => simpa using S1sok.nil
    | succ n => simpa using S1sok.cons h1 (ih h2 n)

theorem cellsS_ok {E : Env} {w : World} : ∀ (t : Ty) (us : List Value) (x : t.den), Rd E.owned w t us x → S1sok E w (cellsS t x) us
  | .int _, us, _, r => by obtain ⟨rfl, r2⟩ := r; exact .one ⟨rfl, r2⟩
  | .bool, us, _, r => by have e : us = _ := r; rw [e]; exact .one rfl
  | .str, us, _, r => by obtain ⟨rfl, r2⟩ := r; exact .one ⟨rfl, r2⟩
  | .unit, us, _, r => by have e : us = _ := r; rw [e]; exact .nil
  | .opq, us, _, r => by obtain ⟨rfl, r2⟩ := r; exact .one ⟨rfl, r2⟩
  | .pair a b, us, x, r => by
    obtain ⟨v1, v2, rfl, r1, r2⟩ := r
    exact (cellsS_ok a v1 _ r1).append (cellsS_ok b v2 _ r2)
  | .slice z e, us, xs, r => by
    have hl := Rd.len (.slice z e) us xs r
    match us, hl with
    | [v], _ => exact .one r

theorem cellsS_len : ∀ (t : Ty) (x : t.den), (cellsS t x).length = t.n
  | .int _, _ => rfl
  | .bool, _ => rfl
  | .str, _ => rfl
  | .unit, _ => rfl
  | .opq, _ => rfl
  | .pair a b, x => by simp [cellsS, cellsS_len a, cellsS_len b, Ty.n]
  | .slice _ _, _ => rfl

theorem cast_some {t t' : Ty} {x : t.den} {y : t'.den} (h : Ty.cast t t' x = some y) : ∃ e : t = t', e ▸ x = y := by
  unfold Ty.cast at h
  split at h
  · rename_i e; exact ⟨e, by simpa using h⟩
  · cases h

theorem cell_of {w : World} {b i : Nat} {vs : Array Value} {T : TypeId} {fz : Nat × Nat} {u : Value} (h : w.heap[b]? = some (.cells vs T fz)) (hu : vs.toList[i]? = some u) : w.cell? ⟨b, i, none⟩ = some u := by
  unfold World.cell?
  simp only [h]
  simpa using hu

/-- An owned slice reads as its list. -/
theorem sub_rd {E : Env} {w : World} {S' : Nat → Prop} (hS : ∀ b, S' b → E.owned b) {o lo hi : Nat} {v : Value} {fz : Bool} {z : Nat} {e : Ty} {xs : List e.den}
    (hob : E.ob o = .arr fz z e xs) (hm : ObOk E w o (.arr fz z e xs)) (h : S1ok E w (.sub o lo hi) v) (hI : ∀ b f, E.loc o = some (b, f) → ¬ S' b) :
    Rd S' w (.slice z e) [v] ((xs.drop lo).take (hi - lo)) := by
  obtain ⟨_, h⟩ := h
  rw [hob] at h
  obtain ⟨h1, h2, h3⟩ := h
  obtain ⟨hz, hm⟩ := hm
  have hlen : ((xs.drop lo).take (hi - lo)).length = hi - lo := by simp; omega
  refine ⟨?_, ?_⟩
  · rw [hlen]
    exact Nat.le_trans (Nat.mul_le_mul_right z (by omega)) hz
  · cases hloc : E.loc o with
    | none =>
      rw [hloc] at h3
      obtain ⟨rfl, rfl⟩ := h3
      refine .inl ⟨none, 0, rfl, ?_⟩
      simp
    | some p =>
      obtain ⟨b, off⟩ := p
      rw [hloc] at h3 hm
      rcases h3 with ⟨c, cs, T, fzz, rfl, hc, hh, hcap⟩ | ⟨hle, q, rfl⟩
      case inr => exact .inl ⟨q, 0, rfl, by have : hi - lo = 0 := by omega
                                            rw [this]; simp⟩
      obtain ⟨vs, T', fzz', hh', _, hsz, hx⟩ := hm
      rw [hh] at hh'
      cases hh'
      by_cases hne : hi = lo
      · subst hne
        refine .inl ⟨some ⟨b, off + hi * e.n, none⟩, c, by simp, by simp⟩
      · refine .inr ⟨b, off + lo * e.n, c, by rw [hlen], by rw [hlen]; omega, ?_, hI b off hloc, ?_, fun i hi' => ?_⟩
        · intro h0
          rw [h0] at hlen
          simp at hlen
          omega
        · rcases Nat.lt_or_ge b w.heap.size with h' | h'
          · exact h'
          · simp [Array.getElem?_eq_none h'] at hh
        · have hi2 : lo + i < xs.length := by rw [hlen] at hi'; omega
          have hr := hx (lo + i) hi2
          have e1 : ((xs.drop lo).take (hi - lo))[i] = xs[lo + i] := by simp
          rw [e1]
          refine ⟨_, Rd.len _ _ _ hr, fun j u hj => ?_, Rd.mono (Nat.le_refl _) (fun b' hb' hS' => ⟨rfl, fun hS'' => hS' (hS b' hS'')⟩) _ _ _ hr⟩
          have hj' : j < e.n := by
            have := List.getElem?_eq_some_iff.1 hj
            obtain ⟨hlt, _⟩ := this
            simp at hlt
            omega
          rw [List.getElem?_take_of_lt hj', List.getElem?_drop] at hj
          have e2 : off + lo * e.n + i * e.n + j = off + (lo + i) * e.n + j := by rw [Nat.add_mul]; omega
          rw [e2]
          exact cell_of hh hj

theorem rdS_ok {E : Env} {w : World} {hp : List (Nat × Ob)} (hob : ∀ i, E.ob i = fo hp i) (hm : ∀ o, E.born o → ObOk E w o (E.ob o)) {S' : Nat → Prop} (hS : ∀ b, S' b → E.owned b) :
    ∀ (t : Ty) (l : List S1) (x : t.den) (r : List S1) (vs : List Value), rdS (fo hp) t l = some (x, r) → (∀ o, o ∈ ids l → isA (E.ob o) = true → ∀ b f, E.loc o = some (b, f) → ¬ S' b) → S1sok E w l vs →
      ∃ us rest l1, vs = us ++ rest ∧ Rd S' w t us x ∧ S1sok E w r rest ∧ l = l1 ++ r := by
  have mono : ∀ (t : Ty) (us : List Value) (x : t.den), Rd E.owned w t us x → Rd S' w t us x := fun t us x => Rd.mono (Nat.le_refl _) (fun b' hb' hS' => ⟨rfl, fun hS'' => hS' (hS b' hS'')⟩) t us x
  have idsr : ∀ l1 r : List S1, ∀ o, o ∈ ids r → o ∈ ids (l1 ++ r) := by
    intro l1 r o ho
    induction l1 with
    | nil => exact ho
    | cons x l1 ih => cases x <;> simp [ids, ih]
  intro t
  induction t with
  | int k =>
    intro l x r vs h hI hl
    match l, h with
    | .int k' n :: r', h =>
      simp only [rdS] at h
      cases hk : keq k' k <;> rw [hk] at h <;> simp at h
      obtain ⟨rfl, rfl⟩ := h
      obtain ⟨v, us, rfl, h1, h2⟩ := hl.uncons
      have := keq_eq hk
      subst this
      exact ⟨[v], us, [_], rfl, ⟨by rw [h1.1], h1.2⟩, h2, rfl⟩
  | bool =>
    intro l x r vs h hI hl
    match l, h with
    | .bool b :: r', h =>
      simp only [rdS, Option.some.injEq, Prod.mk.injEq] at h
      obtain ⟨rfl, rfl⟩ := h
      obtain ⟨v, us, rfl, h1, h2⟩ := hl.uncons
      exact ⟨[v], us, [_], rfl, by rw [show v = _ from h1]; rfl, h2, rfl⟩
  | str =>
    intro l x r vs h hI hl
    match l, h with
    | .str s :: r', h =>
      simp only [rdS, Option.some.injEq, Prod.mk.injEq] at h
      obtain ⟨rfl, rfl⟩ := h
      obtain ⟨v, us, rfl, h1, h2⟩ := hl.uncons
      exact ⟨[v], us, [_], rfl, ⟨by rw [h1.1], h1.2⟩, h2, rfl⟩
  | unit =>
    intro l x r vs h hI hl
    simp only [rdS, Option.some.injEq, Prod.mk.injEq] at h
    obtain ⟨_, rfl⟩ := h
    exact ⟨[], vs, [], rfl, rfl, hl, rfl⟩
  | opq =>
    intro l x r vs h hI hl
    match l, h with
    | .val u :: r', h =>
      simp only [rdS] at h
      cases hk : u.oneCell' <;> rw [hk] at h <;> simp at h
      obtain ⟨rfl, rfl⟩ := h
      obtain ⟨v, us, rfl, h1, h2⟩ := hl.uncons
      exact ⟨[v], us, [_], rfl, ⟨by rw [show v = _ from h1], hk⟩, h2, rfl⟩
    | .ro t' y :: r', h =>
      simp only [rdS] at h
      split at h
      · rename_i z hz
        obtain ⟨e, rfl⟩ := cast_some hz
        subst e
        simp only [Option.some.injEq, Prod.mk.injEq] at h
        obtain ⟨rfl, rfl⟩ := h
        obtain ⟨v, us, rfl, h1, h2⟩ := hl.uncons
        exact ⟨[v], us, [_], rfl, h1, h2, rfl⟩
      · cases h
    | .fn f [] :: r', h =>
      simp only [rdS, Option.some.injEq, Prod.mk.injEq] at h
      obtain ⟨rfl, rfl⟩ := h
      obtain ⟨v, us, rfl, ⟨cs, h1, h0, _⟩, h2⟩ := hl.uncons
      obtain rfl := List.eq_nil_of_length_eq_zero h0
      exact ⟨[v], us, [_], rfl, ⟨by rw [h1], rfl⟩, h2, rfl⟩
  | pair a b iha ihb =>
    intro l x r vs h hI hl
    simp only [rdS] at h
    split at h
    · rename_i y l' hy
      split at h
      · rename_i y2 l'' hy2
        simp only [Option.some.injEq, Prod.mk.injEq] at h
        obtain ⟨rfl, rfl⟩ := h
        obtain ⟨us, rest, l1, rfl, r1, s1, rfl⟩ := iha l y l' vs hy hI hl
        obtain ⟨us2, rest2, l2, rfl, r2, s2, rfl⟩ := ihb l' y2 l'' rest hy2 (fun o ho => hI o (idsr l1 _ o ho)) s1
        exact ⟨us ++ us2, rest2, l1 ++ l2, by simp, ⟨us, us2, rfl, r1, r2⟩, s2, by simp⟩
      · cases h
    · cases h
  | slice z e ih =>
    intro l x r vs h hI hl
    match l, h with
    | .ro t' y :: r', h =>
      simp only [rdS] at h
      split at h
      · rename_i y' hy
        obtain ⟨e', rfl⟩ := cast_some hy
        subst e'
        simp only [Option.some.injEq, Prod.mk.injEq] at h
        obtain ⟨rfl, rfl⟩ := h
        obtain ⟨v, us, rfl, h1, h2⟩ := hl.uncons
        exact ⟨[v], us, [_], rfl, mono _ _ _ h1, h2, rfl⟩
      · cases h
    | .nils :: r', h =>
      simp only [rdS, Option.some.injEq, Prod.mk.injEq] at h
      obtain ⟨rfl, rfl⟩ := h
      obtain ⟨v, us, rfl, h1, h2⟩ := hl.uncons
      exact ⟨[v], us, [_], rfl, ⟨by simp, .inl ⟨none, 0, by rw [show v = _ from h1], rfl⟩⟩, h2, rfl⟩
    | .sub o lo hi :: r', h =>
      simp only [rdS] at h
      split at h
      · rename_i fz z' e' xs ho
        split at h
        · rename_i ys hy
          obtain ⟨e2, rfl⟩ := cast_some hy
          cases e2
          simp only [Option.some.injEq, Prod.mk.injEq] at h
          obtain ⟨rfl, rfl⟩ := h
          obtain ⟨v, us, rfl, h1, h2⟩ := hl.uncons
          have ho' : E.ob o = .arr fz z e xs := (hob o).trans ho
          have hmo := hm o h1.1
          rw [ho'] at hmo
          exact ⟨[v], us, [_], rfl, sub_rd hS ho' hmo h1 (hI o (by simp [ids]) (by rw [ho']; rfl)), h2, rfl⟩
        · cases h
      · cases h

end Go.Proofs.YtdepbfgnmliggaaGreatDoor.Sx
