/- What a symbolic end says of what is handed back. -/
import Derived.Test.YtdepbfgnmliggaaGreatDoorSx19
namespace Go.Proofs.YtdepbfgnmliggaaGreatDoor.Sx
set_option linter.unusedSimpArgs false
set_option linter.unusedVariables false

theorem fo_app_in {l l' : List (Nat × Ob)} {o : Nat} (h : o ∈ keys l) : fo (l ++ l') o = fo l o := by
  induction l with
  | nil => simp [keys] at h
  | cons p l ih =>
    obtain ⟨j, y⟩ := p
    simp only [List.cons_append, fo]
    cases hb : j == o
    · have : o ∈ keys l := by
        simp only [keys, List.map_cons, List.mem_cons] at h
        rcases h with h | h
        · simp [h] at hb
        · exact h
      exact ih this
    · rfl

theorem fo_app_out {l l' : List (Nat × Ob)} {o : Nat} (h : o ∉ keys l) : fo (l ++ l') o = fo l' o := by
  induction l with
  | nil => rfl
  | cons p l ih =>
    obtain ⟨j, y⟩ := p
    simp only [keys, List.map_cons, List.mem_cons, not_or] at h
    have : (j == o) = false := by simpa using Ne.symm h.1
    simp only [List.cons_append, fo, this, cond_false]
    exact ih h.2

structure Inj (E : Env) (w : World) (t : Ty) (y : t.den) (i : Nat) (us : List Value) (used : List Nat) (loc : Loc) (src : Nat → Option Nat) : Prop where
  cells : ∀ R : Env, (∀ o, i ≤ o → o < i + t.nsl → R.born o ∧ R.ob o = fo (injO t y i) o ∧ R.loc o = loc o) → S1sok R w (injS t y i) us
  obs : ∀ R : Env, (∀ o, i ≤ o → o < i + t.nsl → R.born o ∧ R.ob o = fo (injO t y i) o ∧ R.loc o = loc o) → (∀ b, R.owned b → E.owned b) → ∀ o, i ≤ o → o < i + t.nsl → ObOk R w o (fo (injO t y i) o)
  whence : ∀ o b f, i ≤ o → o < i + t.nsl → loc o = some (b, f) → ∃ q f', src o = some q ∧ E.loc q = some (b, f') ∧ (E.ob q).mut = true
  mem : ∀ o q, i ≤ o → o < i + t.nsl → src o = some q → q ∈ used
  inj : used.Nodup → ∀ o o' q, i ≤ o → o < i + t.nsl → i ≤ o' → o' < i + t.nsl → src o = some q → src o' = some q → o = o'
  wf : t.wf y

theorem Inj.flat {E : Env} {w : World} {t : Ty} {y : t.den} {i : Nat} {us : List Value} (hn : t.nsl = 0) (hc : ∀ R : Env, S1sok R w (injS t y i) us) (hw : t.wf y) : Inj E w t y i us [] (fun _ => none) (fun _ => none) :=
  ⟨fun R _ => hc R, fun R _ _ o h1 h2 => (by omega), fun o b f _ _ h => (by cases h), fun o q _ _ h => (by cases h), fun _ o o' q h1 h2 => (by omega), hw⟩

theorem inj_ok {G : Ctx} {E : Env} {w : World} {hp : List (Nat × Ob)} (m : Mem G E w) (hob : ∀ i, E.ob i = fo hp i) :
    ∀ (t : Ty) (l : List S1) (y : t.den) (i : Nat) (vs : List Value) (p : Prop) (u : List Nat) (r : List S1), mt (fo hp) t l y = some (p, u, r) → p → S1sok E w l vs →
      ∃ us rest loc src, vs = us ++ rest ∧ S1sok E w r rest ∧ Inj E w t y i us u loc src := by
  intro t
  induction t with
  | int k =>
    intro l y i vs p u r h hp' hl
    match l, h with
    | .int k' n :: r', h =>
      simp only [mt] at h
      cases hk : keq k' k <;> rw [hk] at h <;> simp only [cond_true, cond_false, reduceCtorEq, Option.some.injEq, Prod.mk.injEq] at h
      obtain ⟨rfl, rfl, rfl⟩ := h
      obtain ⟨v, us, rfl, h1, h2⟩ := hl.uncons
      have := keq_eq hk
      subst this
      subst hp'
      exact ⟨[v], us, _, _, rfl, h2, Inj.flat rfl (fun R => .one ⟨h1.1, h1.2⟩) h1.2⟩
  | bool =>
    intro l y i vs p u r h hp' hl
    match l, h with
    | .bool b :: r', h =>
      simp only [mt, Option.some.injEq, Prod.mk.injEq] at h
      obtain ⟨rfl, rfl, rfl⟩ := h
      obtain ⟨v, us, rfl, h1, h2⟩ := hl.uncons
      subst hp'
      exact ⟨[v], us, _, _, rfl, h2, Inj.flat rfl (fun R => .one h1) trivial⟩
  | str =>
    intro l y i vs p u r h hp' hl
    match l, h with
    | .str s :: r', h =>
      simp only [mt, Option.some.injEq, Prod.mk.injEq] at h
      obtain ⟨rfl, rfl, rfl⟩ := h
      obtain ⟨v, us, rfl, h1, h2⟩ := hl.uncons
      subst hp'
      exact ⟨[v], us, _, _, rfl, h2, Inj.flat rfl (fun R => .one h1) h1.2⟩
  | unit =>
    intro l y i vs p u r h hp' hl
    simp only [mt, Option.some.injEq, Prod.mk.injEq] at h
    obtain ⟨_, rfl, rfl⟩ := h
    exact ⟨[], vs, _, _, rfl, hl, Inj.flat rfl (fun R => .nil) trivial⟩
  | opq =>
    intro l y i vs p u r h hp' hl
    match l, h with
    | .val v' :: r', h =>
      simp only [mt] at h
      cases hk : v'.oneCell' <;> rw [hk] at h <;> simp only [cond_true, cond_false, reduceCtorEq, Option.some.injEq, Prod.mk.injEq] at h
      obtain ⟨rfl, rfl, rfl⟩ := h
      obtain ⟨v, us, rfl, h1, h2⟩ := hl.uncons
      subst hp'
      exact ⟨[v], us, _, _, rfl, h2, Inj.flat rfl (fun R => .one ⟨by rw [show v = _ from h1], hk⟩) hk⟩
    | .ro t' x :: r', h =>
      simp only [mt] at h
      split at h
      · rename_i z hz
        obtain ⟨e, rfl⟩ := cast_some hz
        subst e
        simp only [Option.some.injEq, Prod.mk.injEq] at h
        obtain ⟨rfl, rfl, rfl⟩ := h
        obtain ⟨v, us, rfl, h1, h2⟩ := hl.uncons
        subst hp'
        exact ⟨[v], us, _, _, rfl, h2, Inj.flat rfl (fun R => .one h1) h1.2⟩
      · cases h
  | pair a b iha ihb =>
    intro l y i vs p u r h hp' hl
    simp only [mt] at h
    split at h
    · rename_i p1 u1 l' h1
      split at h
      · rename_i p2 u2 l'' h2
        simp only [Option.some.injEq, Prod.mk.injEq] at h
        obtain ⟨rfl, rfl, rfl⟩ := h
        obtain ⟨usA, restA, locA, srcA, rfl, sA, jA⟩ := iha l y.1 i vs p1 u1 l' h1 hp'.1 hl
        obtain ⟨usB, restB, locB, srcB, rfl, sB, jB⟩ := ihb l' y.2 (i + a.nsl) restA p2 u2 l'' h2 hp'.2 sA
        have kA := (injO_keys a y.1 i).1
        have kB := (injO_keys b y.2 (i + a.nsl)).1
        have foA : ∀ o, i ≤ o → o < i + a.nsl → fo (injO (.pair a b) y i) o = fo (injO a y.1 i) o := by
          intro o _ h2
          show fo (injO a y.1 i ++ injO b y.2 (i + a.nsl)) o = _
          by_cases hk : o ∈ keys (injO a y.1 i)
          · exact fo_app_in hk
          · rw [fo_app_out hk, fo_not hk, fo_not (fun hkb => by have := kB o hkb; omega)]
        have foB : ∀ o, i + a.nsl ≤ o → fo (injO (.pair a b) y i) o = fo (injO b y.2 (i + a.nsl)) o := by
          intro o h1
          exact fo_app_out (fun hk => by have := kA o hk; omega)
        have hn : (Ty.pair a b).nsl = a.nsl + b.nsl := rfl
        refine ⟨usA ++ usB, restB, fun o => if o < i + a.nsl then locA o else locB o, fun o => if o < i + a.nsl then srcA o else srcB o, by simp, sB, ?_⟩
        have RA : ∀ R : Env, (∀ o, i ≤ o → o < i + (Ty.pair a b).nsl → R.born o ∧ R.ob o = fo (injO (.pair a b) y i) o ∧ R.loc o = if o < i + a.nsl then locA o else locB o) →
            (∀ o, i ≤ o → o < i + a.nsl → R.born o ∧ R.ob o = fo (injO a y.1 i) o ∧ R.loc o = locA o) ∧
            (∀ o, i + a.nsl ≤ o → o < i + a.nsl + b.nsl → R.born o ∧ R.ob o = fo (injO b y.2 (i + a.nsl)) o ∧ R.loc o = locB o) := by
          intro R hR
          refine ⟨fun o h1 h2 => ?_, fun o h1 h2 => ?_⟩
          · obtain ⟨r1, r2, r3⟩ := hR o h1 (by omega)
            exact ⟨r1, r2.trans (foA o h1 h2), by rw [r3, if_pos h2]⟩
          · obtain ⟨r1, r2, r3⟩ := hR o (by omega) (by omega)
            exact ⟨r1, r2.trans (foB o h1), by rw [r3, if_neg (by omega)]⟩
        refine ⟨fun R hR => (jA.cells R (RA R hR).1).append (jB.cells R (RA R hR).2), fun R hR ho o h1 h2 => ?_, fun o b' f h1 h2 h3 => ?_, fun o q h1 h2 h3 => ?_, fun hnd o o' q h1 h2 h3 h4 h5 h6 => ?_, ⟨jA.wf, jB.wf⟩⟩
        · by_cases hlt : o < i + a.nsl
          · rw [foA o h1 hlt]; exact jA.obs R (RA R hR).1 ho o h1 hlt
          · rw [foB o (by omega)]; exact jB.obs R (RA R hR).2 ho o (by omega) (by omega)
        · by_cases hlt : o < i + a.nsl
          · simp only [if_pos hlt] at h3 ⊢; exact jA.whence o b' f h1 hlt h3
          · simp only [if_neg hlt] at h3 ⊢; exact jB.whence o b' f (by omega) (by omega) h3
        · by_cases hlt : o < i + a.nsl
          · simp only [if_pos hlt] at h3; exact List.mem_append_left _ (jA.mem o q h1 hlt h3)
          · simp only [if_neg hlt] at h3; exact List.mem_append_right _ (jB.mem o q (by omega) (by omega) h3)
        · obtain ⟨n1, n2, n3⟩ := List.nodup_append.1 hnd
          by_cases hlt : o < i + a.nsl <;> by_cases hlt' : o' < i + a.nsl
          · simp only [if_pos hlt] at h5; simp only [if_pos hlt'] at h6; exact jA.inj n1 o o' q h1 hlt h3 hlt' h5 h6
          · simp only [if_pos hlt] at h5; simp only [if_neg hlt'] at h6
            exact absurd rfl (n3 q (jA.mem o q h1 hlt h5) q (jB.mem o' q (by omega) (by omega) h6))
          · simp only [if_neg hlt] at h5; simp only [if_pos hlt'] at h6
            exact absurd rfl (n3 q (jA.mem o' q h3 hlt' h6) q (jB.mem o q (by omega) (by omega) h5))
          · simp only [if_neg hlt] at h5; simp only [if_neg hlt'] at h6; exact jB.inj n2 o o' q (by omega) (by omega) (by omega) (by omega) h5 h6
      · cases h
    · cases h
  | slice z e ih =>
    intro l y i vs p u r h hp' hl
    match l, h with
    | .nils :: r', h =>
      simp only [mt, Option.some.injEq, Prod.mk.injEq] at h
      obtain ⟨rfl, rfl, rfl⟩ := h
      obtain ⟨v, us, rfl, h1, h2⟩ := hl.uncons
      subst hp'
      refine ⟨[v], us, fun _ => none, fun _ => none, rfl, h2, ⟨fun R hR => .one ?_, fun R hR ho o g1 g2 => ?_, fun o b f _ _ h => (by cases h), fun o q _ _ h => (by cases h), fun _ o o' q g1 g2 g3 g4 h5 => (by cases h5), ⟨by simp, by simp⟩⟩⟩
      · obtain ⟨r1, r2, r3⟩ := hR i (Nat.le_refl _) (by simp [Ty.nsl])
        refine ⟨r1, ?_⟩
        rw [r2]
        simp only [injO, fo, beq_self_eq_true, cond_true]
        refine ⟨Nat.le_refl _, Nat.le_refl _, ?_⟩
        rw [r3]
        exact ⟨h1, rfl⟩
      · have e1 : o = i := by simp [Ty.nsl] at g2; omega
        subst e1
        obtain ⟨r1, r2, r3⟩ := hR o (Nat.le_refl _) (by simp [Ty.nsl])
        simp only [injO, fo, beq_self_eq_true, cond_true]
        refine ⟨by simp, ?_⟩
        rw [r3]
    | .sub o lo hi :: r', h =>
      simp only [mt] at h
      split at h
      · rename_i z' e' xs ho
        split at h
        · rename_i ys hy
          obtain ⟨e2, rfl⟩ := cast_some hy
          cases e2
          simp only [Option.some.injEq, Prod.mk.injEq] at h
          obtain ⟨rfl, rfl, rfl⟩ := h
          obtain ⟨v, us, rfl, h1, h2⟩ := hl.uncons
          have hob' : E.ob o = .arr false z e xs := (hob o).trans ho
          have hm := m.hp o h1.1
          rw [hob'] at hm
          have hrd : Rd (fun _ => False) w (.slice z e) [v] ((xs.drop lo).take (hi - lo)) := sub_rd (S' := fun _ => False) (fun _ hb => hb.elim) hob' hm h1 (fun _ _ _ hf => hf)
          have hwf := Rd.wf _ _ _ hrd
          obtain ⟨_, h1⟩ := h1
          rw [hob'] at h1
          obtain ⟨g1, g2, g3⟩ := h1
          have hlen : ((xs.drop lo).take (hi - lo)).length = hi - lo := by simp; omega
          change (xs.drop lo).take (hi - lo) = y at hp'
          rw [hp'] at hrd hwf hlen
          refine ⟨[v], us, fun _ => match E.loc o with | none => none | some (b, off) => some (b, off + lo * e.n), fun _ => some o, rfl, h2, ⟨fun R hR => .one ?_, fun R hR hown q k1 k2 => ?_, fun q b f _ _ hq => ?_, fun q q' _ _ hq => ?_, fun _ q q' _ k1 k2 k3 k4 _ _ => (by simp only [Ty.nsl] at k2 k4; omega), hwf⟩⟩
          · obtain ⟨r1, r2, r3⟩ := hR i (Nat.le_refl _) (by simp [Ty.nsl])
            refine ⟨r1, ?_⟩
            rw [r2]
            simp only [injO, fo, beq_self_eq_true, cond_true]
            refine ⟨Nat.zero_le _, Nat.le_refl _, ?_⟩
            rw [r3]
            cases hl' : E.loc o with
            | none =>
              rw [hl'] at g3
              refine ⟨g3.1, ?_⟩
              have := g3.2
              omega
            | some pq =>
              obtain ⟨b, off⟩ := pq
              rw [hl'] at g3
              rcases g3 with ⟨c, cs, T, fzz, e1, k1, k2, k3⟩ | ⟨k1, q, e1⟩
              · refine .inl ⟨c, cs, T, fzz, by rw [e1, hlen]; simp, by omega, k2, ?_⟩
                rw [Nat.zero_add, Nat.add_assoc, ← Nat.add_mul]; exact k3
              · exact .inr ⟨by omega, q, e1⟩
          · have e1 : q = i := by simp [Ty.nsl] at k2; omega
            subst e1
            obtain ⟨r1, r2, r3⟩ := hR q (Nat.le_refl _) (by simp [Ty.nsl])
            simp only [injO, fo, beq_self_eq_true, cond_true]
            obtain ⟨hz, hm⟩ := hm
            refine ⟨hrd.1, ?_⟩
            rw [r3]
            cases hl' : E.loc o with
            | none =>
              rw [hl'] at g3
              have := g3.2
              exact List.eq_nil_of_length_eq_zero (by omega)
            | some pq =>
              obtain ⟨b, off⟩ := pq
              rw [hl'] at hm
              obtain ⟨vs', T, fzz, n1, n2, n3, n4⟩ := hm
              refine ⟨vs', T, fzz, n1, n2, ?_, fun j hj => ?_⟩
              · rw [hlen]
                have := Nat.mul_le_mul_right e.n g2
                have e3 : lo * e.n + (hi - lo) * e.n = hi * e.n := by rw [← Nat.add_mul]; congr 1; omega
                omega
              · have hj' : lo + j < xs.length := by omega
                have e4 : y[j] = xs[lo + j] := by
                  have : y[j] = ((xs.drop lo).take (hi - lo))[j]'(by rw [hp']; exact hj) := by simp only [hp']
                  rw [this]; simp
                rw [e4]
                have e5 : off + lo * e.n + j * e.n = off + (lo + j) * e.n := by rw [Nat.add_mul]; omega
                rw [e5]
                exact Rd.mono (Nat.le_refl _) (fun b' _ hb' => ⟨rfl, fun hR' => hb' (hown b' hR')⟩) _ _ _ (n4 (lo + j) hj')
          · cases hl' : E.loc o with
            | none => rw [hl'] at hq; cases hq
            | some pq =>
              obtain ⟨b', off⟩ := pq
              rw [hl'] at hq
              cases hq
              exact ⟨o, off, rfl, hl', by rw [hob']; rfl⟩
          · cases hq; simp
        · cases h
      · cases h

end Go.Proofs.YtdepbfgnmliggaaGreatDoor.Sx
