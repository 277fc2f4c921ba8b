/- Contracts, and calls by them. -/
import Derived.Test.YtdepbfgnmliggaaGreatDoorSx14
namespace Go.Proofs.YtdepbfgnmliggaaGreatDoor.Sx
set_option linter.unusedSimpArgs false
set_option linter.unusedVariables false

def ArgsRd (S : Nat → Prop) (w : World) : (as : List (Bool × Ty)) → List Value → (tyL as).den → Prop
  | [], [], _ => True
  | (b, t) :: as, v :: vs, x => (b = true → ∃ us : List Value, v = .agg us.toArray ∧ Rd S w t us x.1) ∧ (b = false → Rd S w t [v] x.1) ∧ ArgsRd S w as vs x.2
  | _, _, _ => False

def resE (S : Nat → Prop) (rs : List (Bool × Ty)) (y : (tyL rs).den) (i : Nat) (loc : Loc) : Env :=
  { ob := fo (resO rs y i), loc, born := fun o => i ≤ o ∧ o < i + nslL rs, bad := S }

/-- What a call leaves: data in new memory, all else as it was. -/
def ResPost (S : Nat → Prop) (rs : List (Bool × Ty)) (y : (tyL rs).den) (i : Nat) (w : World) (e : Ending) (w' : World) : Prop :=
  ∃ v, e = .returned v ∧ RowKit.Below w.heap.size w w' ∧ (tyL rs).wf y ∧ ∃ loc : Loc, SVok (resE S rs y i loc) w' (resV (resL rs y i)) v ∧
    (∀ o, (resE S rs y i loc).born o → ObOk (resE S rs y i loc) w' o ((resE S rs y i loc).ob o)) ∧
    (∀ o o' b f f', (resE S rs y i loc).ob o ≠ .dead → (resE S rs y i loc).ob o' ≠ .dead → loc o = some (b, f) → loc o' = some (b, f') → o = o') ∧
    (∀ o b f, (resE S rs y i loc).ob o ≠ .dead → loc o = some (b, f) → w.heap.size ≤ b)

/-- What a call leaves whose results may be shared: data that no block of S holds, all else as it was. -/
def ShPost (S : Nat → Prop) (rs : List (Bool × Ty)) (y : (tyL rs).den) (w : World) (e : Ending) (w' : World) : Prop :=
  ∃ v, e = .returned v ∧ RowKit.Below w.heap.size w w' ∧ (tyL rs).wf y ∧ ∀ E : Env, (∀ b, E.owned b → S b) → SVok E w' (resV (roL rs y)) v

def Con.Post (c : Con) (S : Nat → Prop) (x : (tyL c.as).den) (i : Nat) (w : World) : Ending → World → Prop :=
  match c.sh with
  | true => ShPost S c.rs (c.F x) w
  | false => ResPost S c.rs (c.F x) i w

structure Con.Ok (P : Program) (c : Con) : Prop where
  enters : ∀ args w, (callFunc c.f args).run P w = .ok (.enter c.f args) w
  calls : ∀ (S : Nat → Prop) (w : World) (vs : List Value) (x : (tyL c.as).den), (∀ b, S b → b < w.heap.size) → ArgsRd S w c.as vs x → (tyL c.as).wf x → c.pre x →
    ∀ i, Calls P c.f vs.toArray w (c.Post S x i w)

theorem ArgsRd.wf {S : Nat → Prop} {w : World} : ∀ (as : List (Bool × Ty)) (vs : List Value) (x : (tyL as).den), ArgsRd S w as vs x → (tyL as).wf x
  | [], _, _, _ => trivial
  | (b, t) :: as, v :: vs, x, ⟨h1, h2, h3⟩ => by
    refine ⟨?_, ArgsRd.wf as vs x.2 h3⟩
    cases b
    · exact Rd.wf t _ _ (h2 rfl)
    · obtain ⟨us, _, hr⟩ := h1 rfl; exact Rd.wf t _ _ hr
  | _ :: _, [], _, h => h.elim

theorem findC_mem {f : Nat} {Cs : List Con} {c : Con} (h : findC f Cs = some c) : c ∈ Cs ∧ c.f = f := by
  induction Cs with
  | nil => cases h
  | cons d l ih =>
    simp only [findC] at h
    cases hb : d.f == f <;> rw [hb] at h <;> simp only [cond_true, cond_false] at h
    · exact ⟨List.mem_cons_of_mem _ (ih h).1, (ih h).2⟩
    · cases h; exact ⟨by simp, by simpa using hb⟩

theorem rd_flat {S S' : Nat → Prop} {w : World} : ∀ (t : Ty) (us : List Value) (x : t.den), t.hasSl = false → Rd S w t us x → Rd S' w t us x
  | .int _, _, _, _, r => r
  | .bool, _, _, _, r => r
  | .str, _, _, _, r => r
  | .unit, _, _, _, r => r
  | .opq, _, _, _, r => r
  | .pair a b, _, _, h, ⟨v1, v2, e, r1, r2⟩ => by
    simp only [Ty.hasSl, Bool.or_eq_false_iff] at h
    exact ⟨v1, v2, e, rd_flat a v1 _ h.1 r1, rd_flat b v2 _ h.2 r2⟩

def keys (ws : List (Nat × Ob)) : List Nat := ws.map Prod.fst

theorem fo_not {ws : List (Nat × Ob)} {o : Nat} (h : o ∉ keys ws) : fo ws o = .dead := by
  induction ws with
  | nil => rfl
  | cons p ws ih =>
    obtain ⟨i, x⟩ := p
    simp only [keys, List.map_cons, List.mem_cons, not_or] at h
    have : (i == o) = false := by simpa using Ne.symm h.1
    simp only [fo, this, cond_false]
    exact ih h.2

theorem fo_uos {ws : List (Nat × Ob)} (hn : (keys ws).Nodup) (l : List (Nat × Ob)) (o : Nat) : fo (uos l ws) o = if o ∈ keys ws then fo ws o else fo l o := by
  induction ws generalizing l with
  | nil => simp [uos, keys]
  | cons p ws ih =>
    obtain ⟨i, x⟩ := p
    have hn' := List.nodup_cons.1 hn
    simp only [uos]
    rw [ih hn'.2, fo_uo]
    by_cases h1 : o ∈ keys ws
    · have hne : o ≠ i := fun e => hn'.1 (e ▸ h1)
      have hb : (i == o) = false := by simpa using Ne.symm hne
      rw [if_pos h1, if_pos (by simp [keys] at h1 ⊢; exact .inr h1)]
      simp [fo, hb]
    · rw [if_neg h1]
      by_cases h2 : o = i
      · subst h2
        rw [if_pos rfl, if_pos (by simp [keys])]
        simp [fo]
      · have : o ∉ keys ((i, x) :: ws) := by simp only [keys, List.map_cons, List.mem_cons, not_or]; exact ⟨h2, h1⟩
        rw [if_neg h2, if_neg this]

theorem injO_keys : ∀ (t : Ty) (x : t.den) (i : Nat), (∀ o, o ∈ keys (injO t x i) → i ≤ o ∧ o < i + t.nsl) ∧ (keys (injO t x i)).Nodup
  | .int _, _, _ => ⟨by simp [injO, keys], by simp [injO, keys]⟩
  | .bool, _, _ => ⟨by simp [injO, keys], by simp [injO, keys]⟩
  | .str, _, _ => ⟨by simp [injO, keys], by simp [injO, keys]⟩
  | .unit, _, _ => ⟨by simp [injO, keys], by simp [injO, keys]⟩
  | .opq, _, _ => ⟨by simp [injO, keys], by simp [injO, keys]⟩
  | .slice _ _, _, i => ⟨by simp [injO, keys, Ty.nsl], by simp [injO, keys]⟩
  | .pair a b, x, i => by
    obtain ⟨h1, h2⟩ := injO_keys a x.1 i
    obtain ⟨h3, h4⟩ := injO_keys b x.2 (i + a.nsl)
    have e : keys (injO (.pair a b) x i) = keys (injO a x.1 i) ++ keys (injO b x.2 (i + a.nsl)) := by simp [injO, keys]
    rw [e]
    refine ⟨fun o ho => ?_, List.nodup_append.2 ⟨h2, h4, fun p hp q hq e => ?_⟩⟩
    · simp only [Ty.nsl]
      rcases List.mem_append.1 ho with ho | ho
      · have := h1 o ho; omega
      · have := h3 o ho; omega
    · have := h1 p hp; have := h3 q hq; omega

theorem resO_keys : ∀ (rs : List (Bool × Ty)) (y : (tyL rs).den) (i : Nat), (∀ o, o ∈ keys (resO rs y i) → i ≤ o ∧ o < i + nslL rs) ∧ (keys (resO rs y i)).Nodup
  | [], _, _ => ⟨by simp [resO, keys], by simp [resO, keys]⟩
  | (b, t) :: rs, y, i => by
    obtain ⟨h1, h2⟩ := injO_keys t y.1 i
    obtain ⟨h3, h4⟩ := resO_keys rs y.2 (i + t.nsl)
    have e : keys (resO ((b, t) :: rs) y i) = keys (injO t y.1 i) ++ keys (resO rs y.2 (i + t.nsl)) := by simp [resO, keys]
    rw [e]
    refine ⟨fun o ho => ?_, List.nodup_append.2 ⟨h2, h4, fun p hp q hq e => ?_⟩⟩
    · simp only [nslL]
      rcases List.mem_append.1 ho with ho | ho
      · have := h1 o ho; omega
      · have := h3 o ho; omega
    · have := h1 p hp; have := h3 q hq; omega

/-- New objects are mutable arrays. -/
theorem injO_arr : ∀ (t : Ty) (x : t.den) (i o : Nat), fo (injO t x i) o = .dead ∨ ∃ z e xs, fo (injO t x i) o = .arr false z e xs ∧ (t.nest = false → e.hasSl = false)
  | .int _, _, _, _ => .inl rfl
  | .bool, _, _, _ => .inl rfl
  | .str, _, _, _ => .inl rfl
  | .unit, _, _, _ => .inl rfl
  | .opq, _, _, _ => .inl rfl
  | .slice z e, xs, i, o => by
    simp only [injO, fo]
    cases i == o
    · exact .inl rfl
    · exact .inr ⟨z, e, xs, rfl, fun h => h⟩
  | .pair a b, x, i, o => by
    have key : ∀ l l' : List (Nat × Ob), fo (l ++ l') o = fo l o ∨ (fo l o = .dead ∧ fo (l ++ l') o = fo l' o) := by
      intro l l'
      induction l with
      | nil => exact .inr ⟨rfl, rfl⟩
      | cons p l ih =>
        obtain ⟨j, y⟩ := p
        simp only [List.cons_append, fo]
        cases j == o
        · exact ih
        · exact .inl rfl
    simp only [injO, Ty.nest]
    rcases key (injO a x.1 i) (injO b x.2 (i + a.nsl)) with h | ⟨_, h⟩ <;> rw [h]
    · rcases injO_arr a x.1 i o with k | ⟨z, e, xs, k, k2⟩
      · exact .inl k
      · exact .inr ⟨z, e, xs, k, fun hn => k2 (by simp at hn; exact hn.1)⟩
    · rcases injO_arr b x.2 (i + a.nsl) o with k | ⟨z, e, xs, k, k2⟩
      · exact .inl k
      · exact .inr ⟨z, e, xs, k, fun hn => k2 (by simp at hn; exact hn.2)⟩

theorem fo_app (l l' : List (Nat × Ob)) (o : Nat) : fo (l ++ l') o = fo l o ∨ (fo l o = .dead ∧ fo (l ++ l') o = fo l' o) := by
  induction l with
  | nil => exact .inr ⟨rfl, rfl⟩
  | cons p l ih =>
    obtain ⟨j, y⟩ := p
    simp only [List.cons_append, fo]
    cases j == o
    · exact ih
    · exact .inl rfl

theorem resO_arr : ∀ (rs : List (Bool × Ty)) (y : (tyL rs).den) (i o : Nat), fo (resO rs y i) o = .dead ∨ ∃ z e xs, fo (resO rs y i) o = .arr false z e xs ∧ (nestL rs = false → e.hasSl = false)
  | [], _, _, _ => .inl rfl
  | (b, t) :: rs, y, i, o => by
    simp only [resO, nestL]
    rcases fo_app (injO t y.1 i) (resO rs y.2 (i + t.nsl)) o with h | ⟨_, h⟩ <;> rw [h]
    · rcases injO_arr t y.1 i o with k | ⟨z, e, xs, k, k2⟩
      · exact .inl k
      · exact .inr ⟨z, e, xs, k, fun hn => k2 (by simp at hn; exact hn.1)⟩
    · rcases resO_arr rs y.2 (i + t.nsl) o with k | ⟨z, e, xs, k, k2⟩
      · exact .inl k
      · exact .inr ⟨z, e, xs, k, fun hn => k2 (by simp at hn; exact hn.2)⟩

end Go.Proofs.YtdepbfgnmliggaaGreatDoor.Sx
