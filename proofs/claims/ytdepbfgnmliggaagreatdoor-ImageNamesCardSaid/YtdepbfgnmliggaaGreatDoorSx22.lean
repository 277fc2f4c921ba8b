/- One symbolic state holds wherever another does; loops. -/
import Derived.Test.YtdepbfgnmliggaaGreatDoorSx21
namespace Go.Proofs.YtdepbfgnmliggaaGreatDoor.Sx
set_option linter.unusedSimpArgs false
set_option linter.unusedVariables false

/-- Are the pairs of captured cells alike? -/
def capM : List (Nat × Nat) → List (Nat × Nat) → Option (Prop × List (Nat × Nat))
  | [], [] => some (True, [])
  | (o, f) :: l, (o', f') :: l' => match capM l l' with
    | some (p, q) => some (f = f' ∧ p, (o', o) :: q)
    | none => none
  | _, _ => none

/-- What makes the second hold where the first does, and which objects stand for which. -/
def mch (ob' : Nat → Ob) : S1 → S1 → Option (Prop × List (Nat × Nat))
  | _, .unk => some (True, [])
  | .int k n, .int k' n' => bif keq k k' then some (n = n', []) else none
  | .bool b, .bool b' => some (b = b', [])
  | .mb t f, .mb t' f' => some (t = t' ∧ f = f', [])
  | .str s, .str s' => some (s = s', [])
  | .nils, .nils => some (True, [])
  | .nils, .sub o' lo' hi' => match ob' o' with
    | .arr _ _ _ xs' => some (lo' = 0 ∧ hi' = 0 ∧ xs' = [], [(o', o')])
    | _ => none
  | .sub o lo hi, .sub o' lo' hi' => some (lo = lo' ∧ hi = hi', [(o', o)])
  | .pb o f, .pb o' f' => some (f = f', [(o', o)])
  | .pe o i f, .pe o' i' f' => some (i = i' ∧ f = f', [(o', o)])
  | .ro t x, .ro t' x' => match Ty.cast t t' x with
    | some y => some (y = x', [])
    | none => none
  | .pr t x f, .pr t' x' f' => match Ty.cast t t' x with
    | some y => some (y = x' ∧ f = f', [])
    | none => none
  | .fn g cs, .fn g' cs' => match capM cs cs' with
    | some (p, q) => some (g = g' ∧ p, q)
    | none => none
  | .val v, .val v' => some (v = v', [])
  | .yl o, .yl o' => some (True, [(o', o)])
  | _, _ => none

def mchL (ob' : Nat → Ob) : List S1 → List S1 → Option (Prop × List (Nat × Nat))
  | [], [] => some (True, [])
  | x :: l, y :: l' => match mch ob' x y, mchL ob' l l' with
    | some (p, q), some (p', q') => some (p ∧ p', q ++ q')
    | _, _ => none
  | _, _ => none

def mchV (ob' : Nat → Ob) : SV → SV → Option (Prop × List (Nat × Nat))
  | _, .unk => some (True, [])
  | .s x, .s y => mch ob' x y
  | .agg l, .agg l' => mchL ob' l l'
  | _, _ => none

def mchF (ob' : Nat → Ob) : List SV → List SV → Option (Prop × List (Nat × Nat))
  | [], [] => some (True, [])
  | x :: l, y :: l' => match mchV ob' x y, mchF ob' l l' with
    | some (p, q), some (p', q') => some (p ∧ p', q ++ q')
    | _, _ => none
  | _, _ => none

def mchO (ob' : Nat → Ob) : Ob → Ob → Option (Prop × List (Nat × Nat))
  | _, .dead => some (True, [])
  | .box cs, .box cs' => mchL ob' cs cs'
  | .arr fz z e xs, .arr fz' z' e' xs' => match Ty.cast (.slice z e) (.slice z' e') xs with
    | some ys => bif fz' || !fz then some (ys = xs', []) else none
    | none => none
  | .lp s fr ps a b pd, .lp s' fr' ps' a' b' pd' => match mchF ob' fr fr' with
    | some (p, q) => some ((s = s' ∧ ps = ps' ∧ a = a' ∧ b = b' ∧ pd = pd') ∧ p, q)
    | none => none
  | _, _ => none

def ren : List (Nat × Nat) → Nat → Nat
  | [], o => o
  | (a, b) :: l, o => bif a == o then b else ren l o

def mchH (ob' : Nat → Ob) (hp : List (Nat × Ob)) (l : List (Nat × Nat)) : List (Nat × Ob) → Option (Prop × List (Nat × Nat))
  | [] => some (True, [])
  | (o, x) :: r => match mchO ob' (fo hp (ren l o)) x, mchH ob' hp l r with
    | some (p, q), some (p', q') => some (p ∧ p', q ++ q')
    | _, _ => none

def hasK : List (Nat × Ob) → Nat → Bool
  | [], _ => false
  | (i, _) :: l, o => bif i == o then true else hasK l o

def chkP (l : List (Nat × Nat)) (hp : List (Nat × Ob)) : List (Nat × Nat) → Bool
  | [] => true
  | (a, b) :: r => (ren l a == b) && hasK hp a && chkP l hp r

def livR (l : List (Nat × Nat)) : List (Nat × Ob) → List Nat
  | [] => []
  | (_, .dead) :: r => livR l r
  | (o, .box _) :: r => ren l o :: livR l r
  | (o, .arr _ _ _ _) :: r => ren l o :: livR l r
  | (o, .lp _ _ _ _ _ _) :: r => ren l o :: livR l r

def belK (n : Nat) : List (Nat × Ob) → Bool
  | [] => true
  | (o, _) :: r => Nat.blt o n && belK n r

/-- An object that others name: gone, or of one kind, none shorter. -/
def keepO : Ob → Ob → Prop
  | _, .dead => True
  | .box cs, .box cs' => cs'.length = cs.length
  | .arr _ z e xs, .arr _ z' e' xs' => z' = z ∧ e' = e ∧ xs'.length = xs.length
  | .lp _ _ _ _ _ _, .lp _ _ _ _ _ _ => True
  | _, _ => False

def keepP (l : List (Nat × Nat)) (hp hp' : List (Nat × Ob)) : List Nat → Prop
  | [] => True
  | o :: r => (ren l o == o) = true ∧ hasK hp' o = true ∧ keepO (fo hp o) (fo hp' o) ∧ keepP l hp hp' r

/-- The pairs that the objects' contents add. -/
def prs (ob' : Nat → Ob) (hp : List (Nat × Ob)) (l : List (Nat × Nat)) : List (Nat × Ob) → List (Nat × Nat)
  | [] => []
  | (o, x) :: r => (match mchO ob' (fo hp (ren l o)) x with
    | some (_, q) => q
    | none => []) ++ prs ob' hp l r

def clo1 (ob' : Nat → Ob) (hp hp' : List (Nat × Ob)) (l : List (Nat × Nat)) : List (Nat × Nat) := l ++ prs ob' hp l hp'

/-- The second state holds wherever the first does; the objects of kp keep their numbers. -/
def SubQ (kp : List Nat) (st st' : St) : Prop := match mchF (fo st'.hp) st.fr st'.fr with
  | some (p, l0) => match clo1 (fo st'.hp) st.hp st'.hp (clo1 (fo st'.hp) st.hp st'.hp l0) with
    | l => match mchH (fo st'.hp) st.hp l st'.hp with
      | some (q, l2) => p ∧ q ∧ chkP l st'.hp (l0 ++ l2) = true ∧ nodupN (livR l st'.hp) = true ∧ nodupN (keys st'.hp) = true ∧ belK st'.nx st'.hp = true ∧ keepP l st.hp st'.hp kp
      | none => False
  | none => False

theorem hasK_iff {hp : List (Nat × Ob)} {o : Nat} : hasK hp o = true ↔ o ∈ keys hp := by
  induction hp with
  | nil => simp [hasK, keys]
  | cons p l ih =>
    obtain ⟨i, x⟩ := p
    cases hb : i == o
    · have hne : i ≠ o := by simpa using hb
      simp only [hasK, hb, cond_false, ih, keys, List.map_cons, List.mem_cons]
      exact ⟨.inr, fun h => h.resolve_left (Ne.symm hne)⟩
    · have e : i = o := by simpa using hb
      simp only [hasK, hb, cond_true, keys, List.map_cons, List.mem_cons]
      exact ⟨fun _ => .inl e.symm, fun _ => trivial⟩

theorem keepP_ok {l : List (Nat × Nat)} {hp hp' : List (Nat × Ob)} : ∀ {r : List Nat}, keepP l hp hp' r → ∀ o ∈ r, ren l o = o ∧ o ∈ keys hp' ∧ (fo hp' o = .dead ∨ same (fo hp o) (fo hp' o))
  | [], _, o, h => by cases h
  | a :: r, h, o, ho => by
    rcases List.mem_cons.1 ho with rfl | h2
    · obtain ⟨h1, h3, h4, _⟩ := h
      refine ⟨by simpa using h1, ?_, ?_⟩
      · exact hasK_iff.1 h3
      · unfold keepO at h4
        split at h4
        · rename_i e; exact .inl e
        · rename_i e e'; right; rw [e, e']; exact h4
        · rename_i e e'; right; rw [e, e']; exact h4
        · rename_i e e'; right; rw [e, e']; trivial
        · exact h4.elim
    · exact keepP_ok h.2.2.2 o h2

/-- The memory, its numbers born to those that somebody names. -/
def Env.cutTo (E : Env) (kp : List Nat) : Env := { E with born := fun o => E.born o ∧ o ∈ kp }

theorem cut_s1 {E : Env} {w : World} {kp : List Nat} {x : S1} {v : Value} (hk : ∀ i ∈ ids1 [x], i ∈ kp) (r : S1ok E w x v) : S1ok (E.cutTo kp) w x v := by
  cases x with
  | sub o lo hi => exact ⟨⟨r.1, hk o (by simp [ids1])⟩, r.2⟩
  | pb o off => exact ⟨⟨r.1, hk o (by simp [ids1])⟩, r.2⟩
  | pe o i off => exact ⟨⟨r.1, hk o (by simp [ids1])⟩, r.2⟩
  | yl o => exact ⟨⟨r.1, hk o (by simp [ids1])⟩, r.2⟩
  | fn f caps =>
    obtain ⟨vs, e1, e2, r⟩ := r
    refine ⟨vs, e1, e2, fun i o off hi => ?_⟩
    obtain ⟨h1, h2⟩ := r i o off hi
    refine ⟨⟨h1, hk o ?_⟩, h2⟩
    simp only [ids1, List.append_nil]
    exact List.mem_map.2 ⟨(o, off), List.mem_of_getElem? hi, rfl⟩
  | _ => exact r

theorem ids1_at : ∀ {l : List S1} {i : Nat} {x : S1}, l[i]? = some x → ∀ o ∈ ids1 [x], o ∈ ids1 l
  | [], i, x, h => by simp at h
  | y :: l, 0, x, h => by
    simp at h; subst h
    intro o ho
    cases y <;> simp_all [ids1]
  | y :: l, i + 1, x, h => by
    intro o ho
    have := ids1_at (l := l) (i := i) (by simpa using h) o ho
    cases y <;> simp_all [ids1]

theorem cut_s1s {E : Env} {w : World} {kp : List Nat} {l : List S1} {vs : List Value} (hk : ∀ i ∈ ids1 l, i ∈ kp) (r : S1sok E w l vs) : S1sok (E.cutTo kp) w l vs :=
  ⟨r.1, fun i x v h1 h2 => cut_s1 (fun o ho => hk o (ids1_at h1 o ho)) (r.2 i x v h1 h2)⟩

theorem idsT_at : ∀ {l : List (Bool × List S1)} {i : Nat} {x : Bool × List S1}, l[i]? = some x → ∀ o ∈ ids1 x.2, o ∈ idsT l
  | [], i, x, h => by simp at h
  | (b, m) :: l, 0, x, h => by
    simp at h; subst h
    intro o ho
    exact List.mem_append_left _ ho
  | (b, m) :: l, i + 1, x, h => fun o ho => List.mem_append_right _ (idsT_at (l := l) (i := i) (by simpa using h) o ho)

theorem cut_sv {E : Env} {w : World} {kp : List Nat} : ∀ {x : SV} {v : Value}, (∀ i ∈ idsA x, i ∈ kp) → SVok E w x v → SVok (E.cutTo kp) w x v
  | .unk, _, _, _ => trivial
  | .s _, _, hk, r => cut_s1 hk r
  | .agg _, _, hk, ⟨vs, e, r⟩ => ⟨vs, e, cut_s1s hk r⟩
  | .tup _, _, hk, ⟨vs, e, hl, r⟩ => ⟨vs, e, hl, fun i bl u h1 h2 =>
      ⟨fun hb => let ⟨us, e', r'⟩ := (r i bl u h1 h2).1 hb; ⟨us, e', cut_s1s (fun o ho => hk o (idsT_at h1 o ho)) r'⟩,
       fun hb => cut_s1s (fun o ho => hk o (idsT_at h1 o ho)) ((r i bl u h1 h2).2 hb)⟩⟩
  | .gd _ _, _, hk, r => ⟨fun hg => cut_sv hk (r.1 hg), r.2⟩

theorem chkP_ok {l : List (Nat × Nat)} {hp : List (Nat × Ob)} {r : List (Nat × Nat)} (h : chkP l hp r = true) : ∀ p ∈ r, ren l p.1 = p.2 ∧ p.1 ∈ keys hp := by
  induction r with
  | nil => intro p hp; cases hp
  | cons q r ih =>
    obtain ⟨a, b⟩ := q
    simp only [chkP, Bool.and_eq_true] at h
    intro p hp'
    rcases List.mem_cons.1 hp' with rfl | h2
    · exact ⟨by simpa using h.1.1, hasK_iff.1 h.1.2⟩
    · exact ih h.2 p h2

theorem belK_ok {n : Nat} {hp : List (Nat × Ob)} (h : belK n hp = true) : ∀ o ∈ keys hp, o < n := by
  induction hp with
  | nil => intro o ho; cases ho
  | cons q r ih =>
    obtain ⟨a, b⟩ := q
    simp only [belK, Bool.and_eq_true] at h
    intro o ho
    rcases List.mem_cons.1 ho with rfl | h2
    · simpa [Nat.blt_eq] using h.1
    · exact ih h.2 o h2

theorem fo_mem {hp : List (Nat × Ob)} {o : Nat} (h : fo hp o ≠ .dead) : (o, fo hp o) ∈ hp := by
  induction hp with
  | nil => exact absurd rfl h
  | cons q r ih =>
    obtain ⟨a, x⟩ := q
    simp only [fo] at h ⊢
    cases hb : a == o <;> rw [hb] at h <;> simp only [cond_true, cond_false] at h ⊢
    · exact List.mem_cons_of_mem _ (ih h)
    · have e : a = o := by simpa using hb
      subst e; exact List.mem_cons_self ..

theorem livR_mem {l : List (Nat × Nat)} {hp : List (Nat × Ob)} {o : Nat} {x : Ob} (h : (o, x) ∈ hp) (hx : x ≠ .dead) : ren l o ∈ livR l hp := by
  induction hp with
  | nil => cases h
  | cons q r ih =>
    obtain ⟨a, y⟩ := q
    rcases List.mem_cons.1 h with e | h
    · cases e
      cases x with
      | dead => exact absurd rfl hx
      | box cs => exact List.mem_cons_self ..
      | arr fz z e xs => exact List.mem_cons_self ..
      | lp s fr ps a b pd => exact List.mem_cons_self ..
    · have := ih h
      cases y with
      | dead => exact this
      | box cs => exact List.mem_cons_of_mem _ this
      | arr fz z e xs => exact List.mem_cons_of_mem _ this
      | lp s fr ps a b pd => exact List.mem_cons_of_mem _ this

theorem livR_inj {l : List (Nat × Nat)} {hp : List (Nat × Ob)} (hn : (livR l hp).Nodup) {o o' : Nat} {x x' : Ob} (h : (o, x) ∈ hp) (h' : (o', x') ∈ hp) (hx : x ≠ .dead) (hx' : x' ≠ .dead) (he : ren l o = ren l o') : o = o' := by
  induction hp with
  | nil => cases h
  | cons q r ih =>
    obtain ⟨a, y⟩ := q
    have hcons : y ≠ .dead → livR l ((a, y) :: r) = ren l a :: livR l r := by
      intro hy
      cases y with
      | dead => exact absurd rfl hy
      | box cs => rfl
      | arr fz z e xs => rfl
      | lp s fr ps a b pd => rfl
    have htl : (livR l r).Nodup := by
      cases y with
      | dead => exact hn
      | box cs => exact (List.nodup_cons.1 hn).2
      | arr fz z e xs => exact (List.nodup_cons.1 hn).2
      | lp s fr ps a b pd => exact (List.nodup_cons.1 hn).2
    rcases List.mem_cons.1 h with e | g <;> rcases List.mem_cons.1 h' with e' | g'
    · cases e; cases e'; rfl
    · cases e
      rw [hcons hx] at hn
      exact absurd (he ▸ livR_mem g' hx') (List.nodup_cons.1 hn).1
    · cases e'
      rw [hcons hx'] at hn
      exact absurd (he ▸ livR_mem g hx) (List.nodup_cons.1 hn).1
    · exact ih htl g g'

theorem mchH_at {ob' : Nat → Ob} {hp : List (Nat × Ob)} {l : List (Nat × Nat)} : ∀ {hp' : List (Nat × Ob)} {q : Prop} {l2 : List (Nat × Nat)}, mchH ob' hp l hp' = some (q, l2) → q → ∀ o x, (o, x) ∈ hp' →
    ∃ p r, mchO ob' (fo hp (ren l o)) x = some (p, r) ∧ p ∧ ∀ u ∈ r, u ∈ l2
  | [], _, _, _, _, _, _, h => by cases h
  | (a, y) :: t, q, l2, hm, hq, o, x, h => by
    simp only [mchH] at hm
    split at hm
    · rename_i p r p' r' h1 h2
      cases hm
      rcases List.mem_cons.1 h with e | h
      · cases e
        exact ⟨p, r, h1, hq.1, fun u hu => List.mem_append_left _ hu⟩
      · obtain ⟨p2, r2, k1, k2, k3⟩ := mchH_at h2 hq.2 o x h
        exact ⟨p2, r2, k1, k2, fun u hu => List.mem_append_right _ (k3 u hu)⟩
    · cases hm

/-- The memory of the second state: the objects under their new numbers. -/
def renE (E : Env) (l : List (Nat × Nat)) (hp' : List (Nat × Ob)) : Env := ⟨fo hp', fun o => E.loc (ren l o), fun o => o ∈ keys hp' ∧ E.born (ren l o), E.bad⟩

section
variable {E : Env} {w : World} {l : List (Nat × Nat)} {hp hp' : List (Nat × Ob)}

/-- What the objects have to do with each other. -/
structure RenOk (E : Env) (l : List (Nat × Nat)) (hp' : List (Nat × Ob)) : Prop where
  unb : ∀ o, ¬ E.born o → E.ob o = .dead
  rel : ∀ o, fo hp' o ≠ .dead → ∃ p r, mchO (fo hp') (E.ob (ren l o)) (fo hp' o) = some (p, r) ∧ p ∧ ∀ u ∈ r, ren l u.1 = u.2 ∧ u.1 ∈ keys hp'

theorem mchO_dead {ob' : Nat → Ob} {x y : Ob} {p : Prop} {r : List (Nat × Nat)} (h : mchO ob' x y = some (p, r)) (hy : y ≠ .dead) : x ≠ .dead := by
  intro hx
  subst hx
  cases y <;> simp [mchO] at hy h

theorem mchO_mut {ob' : Nat → Ob} {x y : Ob} {p : Prop} {r : List (Nat × Nat)} (h : mchO ob' x y = some (p, r)) (hy : y.mut = true) : x.mut = true := by
  cases y with
  | dead => cases hy
  | box cs => cases x <;> simp [mchO] at h; rfl
  | lp s' fr' ps' a' b' pd' => cases x <;> simp [mchO] at h; rfl
  | arr fz' z' e' xs' =>
    cases x with
    | dead => simp [mchO] at h
    | box cs => simp [mchO] at h
    | lp s fr ps a b pd => simp [mchO] at h
    | arr fz z e xs =>
      simp only [mchO] at h
      split at h
      · have hf : fz' = false := by simpa [Ob.mut] using hy
        subst hf
        cases fz
        · rfl
        · simp at h
      · cases h

theorem RenOk.own (h : RenOk E l hp') {b : Nat} (hb : (renE E l hp').owned b) : E.owned b := by
  rcases hb with hb | ⟨o, f, h1, h2⟩
  · exact .inl hb
  · obtain ⟨p, r, k1, _, _⟩ := h.rel o (mut_ne h1)
    exact .inr ⟨ren l o, f, mchO_mut k1 h1, h2⟩

theorem RenOk.rd (h : RenOk E l hp') (t : Ty) {vs : List Value} {x : t.den} (r : Rd E.owned w t vs x) : Rd (renE E l hp').owned w t vs x :=
  Rd.mono (Nat.le_refl _) (fun _ _ hb => ⟨rfl, fun hb' => hb (h.own hb')⟩) t vs x r

theorem capM_at : ∀ {c c' : List (Nat × Nat)} {p : Prop} {q : List (Nat × Nat)}, capM c c' = some (p, q) → p → c.length = c'.length ∧ ∀ (i o f : Nat), c'[i]? = some (o, f) → ∃ o0, c[i]? = some (o0, f) ∧ (o, o0) ∈ q
  | [], [], _, _, _, _ => ⟨rfl, fun i o f h => by simp at h⟩
  | (o1, f1) :: c, (o2, f2) :: c', p, q, h, hp => by
    simp only [capM] at h
    split at h
    · rename_i p' q' h1
      cases h
      obtain ⟨k1, k2⟩ := capM_at h1 hp.2
      refine ⟨by simp [k1], fun i o f hi => ?_⟩
      cases i with
      | zero =>
        simp at hi
        obtain ⟨rfl, rfl⟩ := hi
        exact ⟨o1, by simp [hp.1], List.mem_cons_self ..⟩
      | succ i =>
        obtain ⟨o0, j1, j2⟩ := k2 i o f (by simpa using hi)
        exact ⟨o0, by simpa using j1, List.mem_cons_of_mem _ j2⟩
    · cases h
  | [], _ :: _, _, _, h, _ => by cases h
  | _ :: _, [], _, _, h, _ => by simp [capM] at h

theorem mch_ok (h : RenOk E l hp') {x y : S1} {v : Value} {p : Prop} {r : List (Nat × Nat)} (hm : mch (fo hp') x y = some (p, r)) (hp : p) (hr : ∀ u ∈ r, ren l u.1 = u.2 ∧ u.1 ∈ keys hp') (hx : S1ok E w x v) :
    S1ok (renE E l hp') w y v := by
  cases y with
  | unk => trivial
  | int k' n' =>
    cases x <;> simp [mch, cond_eq_ite] at hm
    rename_i k n
    obtain ⟨h1, h2, _⟩ := hm
    have hk : k = k' := by cases k <;> cases k' <;> simp [keq] at h1 <;> rfl
    rw [← h2] at hp
    subst hk; subst hp; exact hx
  | bool b' => cases x <;> simp [mch] at hm; rw [← hm.1] at hp; subst hp; exact hx
  | str s' => cases x <;> simp [mch] at hm; rw [← hm.1] at hp; subst hp; exact hx
  | mb t' f' =>
    cases x <;> simp only [mch, reduceCtorEq, Option.some.injEq, Prod.mk.injEq] at hm
    obtain ⟨rfl, rfl⟩ := hm
    obtain ⟨rfl, rfl⟩ := hp
    exact hx
  | nils => cases x <;> simp [mch] at hm; exact hx
  | val v' => cases x <;> simp [mch] at hm; rw [← hm.1] at hp; subst hp; exact hx
  | ro t' x' =>
    cases x <;> simp only [mch, reduceCtorEq] at hm
    rename_i t x
    unfold Ty.cast at hm
    split at hm
    · rename_i z hz
      split at hz
      · rename_i e
        subst e
        cases hz; cases hm
        have hp' : x = x' := hp
        subst hp'
        exact h.rd _ hx
      · cases hz
    · cases hm
  | pr t' x' f' =>
    cases x <;> simp only [mch, reduceCtorEq] at hm
    rename_i t x f
    unfold Ty.cast at hm
    split at hm
    · rename_i z hz
      split at hz
      · rename_i e
        subst e
        cases hz; cases hm
        have hp' : x = x' ∧ f = f' := hp
        obtain ⟨rfl, rfl⟩ := hp'
        obtain ⟨b, g, us, h1, h2, h3, h4, h5, h6⟩ := hx
        exact ⟨b, g, us, h1, fun hb => h2 (h.own hb), h3, h4, h5, h.rd _ h6⟩
      · cases hz
    · cases hm
  | sub o' lo' hi' =>
    cases x <;> simp only [mch, reduceCtorEq] at hm
    case nils =>
      have hx' : v = .slice none 0 0 := hx
      subst hx'
      cases ho : fo hp' o' with
      | dead => rw [ho] at hm; cases hm
      | box cs => rw [ho] at hm; cases hm
      | lp s fr ps a b pd => rw [ho] at hm; cases hm
      | arr fz' z' e' xs' =>
        rw [ho] at hm
        cases hm
        obtain ⟨rfl, rfl, rfl⟩ := hp
        obtain ⟨r1, r2⟩ := hr (o', o') (List.mem_cons_self ..)
        simp only at r1 r2
        obtain ⟨p2, q2, k1, k2, k3⟩ := h.rel o' (by rw [ho]; simp)
        have hd : E.ob (ren l o') ≠ .dead := mchO_dead k1 (by rw [ho]; simp)
        refine ⟨⟨r2, Classical.byContradiction fun hb => hd (h.unb _ hb)⟩, ?_⟩
        show match fo hp' o' with | .arr _ _ e xs => _ | _ => _
        rw [ho]
        refine ⟨Nat.le_refl _, Nat.le_refl _, ?_⟩
        show match E.loc (ren l o') with | none => _ | some (b, off) => _
        cases E.loc (ren l o') with
        | none => exact ⟨rfl, rfl⟩
        | some p => exact .inr ⟨Nat.le_refl _, none, rfl⟩
    rename_i o lo hi
    simp only [Option.some.injEq, Prod.mk.injEq] at hm
    obtain ⟨h1, h2⟩ := hm
    rw [← h1] at hp
    obtain ⟨rfl, rfl⟩ := hp
    obtain ⟨r1, r2⟩ := hr (o', o) (by rw [← h2]; exact List.mem_cons_self ..)
    simp only at r1 r2
    have hone := ref_one (.inl ⟨_, _, _, rfl⟩) hx
    obtain ⟨hb, hx⟩ := hx
    refine ⟨⟨r2, by rw [r1]; exact hb⟩, ?_⟩
    show match fo hp' o' with | .arr _ _ e xs => _ | _ => _
    cases ho : fo hp' o' with
    | dead => exact hone
    | box cs => exact hone
    | lp s fr ps a b pd => exact hone
    | arr fz' z' e' xs' =>
      obtain ⟨p2, q2, k1, k2, k3⟩ := h.rel o' (by rw [ho]; simp)
      rw [ho, r1] at k1
      cases ho2 : E.ob o with
      | dead => rw [ho2] at k1; simp [mchO] at k1
      | box cs => rw [ho2] at k1; simp [mchO] at k1
      | lp s fr ps a b pd => rw [ho2] at k1; simp [mchO] at k1
      | arr fz z e xs =>
        rw [ho2] at k1 hx
        simp only [mchO] at k1
        unfold Ty.cast at k1
        split at k1
        · rename_i ys hys
          split at hys
          · rename_i e1
            cases e1
            cases hys
            simp only [cond_eq_ite] at k1
            split at k1
            · cases k1
              have k2' : xs = xs' := k2
              subst k2'
              show lo ≤ hi ∧ hi ≤ xs.length ∧ match E.loc (ren l o') with | none => _ | some (b, off) => _
              rw [r1]; exact hx
            · cases k1
          · cases hys
        · cases k1
  | pb o' f' =>
    cases x <;> simp [mch] at hm
    rename_i o f
    obtain ⟨h1, h2⟩ := hm
    rw [← h1] at hp
    subst hp
    obtain ⟨r1, r2⟩ := hr (o', o) (by rw [← h2]; exact List.mem_cons_self ..)
    simp only at r1 r2
    have hone := ref_one (.inr (.inl ⟨_, _, rfl⟩)) hx
    obtain ⟨hb, hx⟩ := hx
    refine ⟨⟨r2, by rw [r1]; exact hb⟩, ?_⟩
    show match fo hp' o' with | .box _ => _ | _ => _
    cases ho : fo hp' o' with
    | dead => exact hone
    | arr fz' z' e' xs' => exact hone
    | lp s fr ps a b pd => exact hone
    | box cs' =>
      obtain ⟨p2, q2, k1, k2, k3⟩ := h.rel o' (by rw [ho]; simp)
      rw [ho, r1] at k1
      cases ho2 : E.ob o with
      | dead => rw [ho2] at k1; simp [mchO] at k1
      | arr fz z e xs => rw [ho2] at k1; simp [mchO] at k1
      | lp s fr ps a b pd => rw [ho2] at k1; simp [mchO] at k1
      | box cs =>
        rw [ho2] at hx
        show ∃ b, E.loc (ren l o') = some (b, 0) ∧ _
        rw [r1]; exact hx
  | pe o' i' f' =>
    cases x <;> simp [mch] at hm
    rename_i o i f
    obtain ⟨h1, h2⟩ := hm
    rw [← h1] at hp
    obtain ⟨rfl, rfl⟩ := hp
    obtain ⟨r1, r2⟩ := hr (o', o) (by rw [← h2]; exact List.mem_cons_self ..)
    simp only at r1 r2
    have hone := ref_one (.inr (.inr (.inl ⟨_, _, _, rfl⟩))) hx
    obtain ⟨hb, hx⟩ := hx
    refine ⟨⟨r2, by rw [r1]; exact hb⟩, ?_⟩
    show match fo hp' o' with | .arr _ _ e xs => _ | _ => _
    cases ho : fo hp' o' with
    | dead => exact hone
    | box cs => exact hone
    | lp s fr ps a b pd => exact hone
    | arr fz' z' e' xs' =>
      obtain ⟨p2, q2, k1, k2, k3⟩ := h.rel o' (by rw [ho]; simp)
      rw [ho, r1] at k1
      cases ho2 : E.ob o with
      | dead => rw [ho2] at k1; simp [mchO] at k1
      | box cs => rw [ho2] at k1; simp [mchO] at k1
      | lp s fr ps a b pd => rw [ho2] at k1; simp [mchO] at k1
      | arr fz z e xs =>
        rw [ho2] at k1 hx
        simp only [mchO] at k1
        unfold Ty.cast at k1
        split at k1
        · rename_i ys hys
          split at hys
          · rename_i e1
            cases e1
            cases hys
            simp only [cond_eq_ite] at k1
            split at k1
            · cases k1
              have k2' : xs = xs' := k2
              subst k2'
              show i < xs.length ∧ ∃ b g, E.loc (ren l o') = some (b, g) ∧ _
              rw [r1]; exact hx
            · cases k1
          · cases hys
        · cases k1
  | fn g' cs' =>
    cases x <;> simp only [mch, reduceCtorEq] at hm
    rename_i g cs
    split at hm
    · rename_i p' q' hcap
      cases hm
      obtain ⟨rfl, hp⟩ := hp
      obtain ⟨k1, k2⟩ := capM_at hcap hp
      obtain ⟨vs, e1, e2, hx⟩ := hx
      refine ⟨vs, e1, e2.trans k1, fun i o f hi => ?_⟩
      obtain ⟨o0, j1, j2⟩ := k2 i o f hi
      obtain ⟨r1, r2⟩ := hr _ j2
      simp only at r1 r2
      obtain ⟨hb, hx⟩ := hx i o0 f j1
      refine ⟨⟨r2, by rw [r1]; exact hb⟩, ?_⟩
      show match fo hp' o with | .box _ => _ | _ => _
      cases ho : fo hp' o with
      | dead => trivial
      | arr fz' z' e' xs' => trivial
      | lp s fr ps a b pd => trivial
      | box c' =>
        obtain ⟨p2, q2, m1, m2, m3⟩ := h.rel o (by rw [ho]; simp)
        rw [ho, r1] at m1
        cases ho2 : E.ob o0 with
        | dead => rw [ho2] at m1; simp [mchO] at m1
        | arr fz z e xs => rw [ho2] at m1; simp [mchO] at m1
        | lp s fr ps a b pd => rw [ho2] at m1; simp [mchO] at m1
        | box c =>
          rw [ho2] at hx
          show ∃ b, E.loc (ren l o) = some (b, 0) ∧ _
          rw [r1]; exact hx
    · cases hm
  | yl o' =>
    cases x <;> simp [mch] at hm
    rename_i o
    obtain ⟨h1, h2⟩ := hm
    obtain ⟨r1, r2⟩ := hr (o', o) (by rw [← h2]; exact List.mem_cons_self ..)
    simp only at r1 r2
    have hone := ref_one (.inr (.inr (.inr ⟨_, rfl⟩))) hx
    obtain ⟨hb, hx⟩ := hx
    refine ⟨⟨r2, by rw [r1]; exact hb⟩, ?_⟩
    show match fo hp' o' with | .lp .. => _ | _ => _
    cases ho : fo hp' o' with
    | dead => exact hone
    | arr fz' z' e' xs' => exact hone
    | box cs' => exact hone
    | lp s' fr' ps' a' b' pd' =>
      obtain ⟨p2, q2, k1, k2, k3⟩ := h.rel o' (by rw [ho]; simp)
      rw [ho, r1] at k1
      cases ho2 : E.ob o with
      | dead => rw [ho2] at k1; simp [mchO] at k1
      | arr fz z e xs => rw [ho2] at k1; simp [mchO] at k1
      | box cs => rw [ho2] at k1; simp [mchO] at k1
      | lp s fr ps a b pd =>
        rw [ho2] at hx
        show ∃ b, E.loc (ren l o') = some (b, 0) ∧ _
        rw [r1]; exact hx

theorem mchL_ok (h : RenOk E l hp') : ∀ {xs ys : List S1} {vs : List Value} {p : Prop} {r : List (Nat × Nat)}, mchL (fo hp') xs ys = some (p, r) → p → (∀ u ∈ r, ren l u.1 = u.2 ∧ u.1 ∈ keys hp') → S1sok E w xs vs →
    S1sok (renE E l hp') w ys vs
  | [], [], vs, _, _, _, _, _, hx => ⟨hx.1, fun i x v h1 => by simp at h1⟩
  | x :: xs, y :: ys, [], _, _, _, _, _, hx => by have := hx.1; simp at this
  | x :: xs, y :: ys, v :: vs, p, r, hm, hp, hr, hx => by
    simp only [mchL] at hm
    split at hm
    · rename_i p1 q1 p2 q2 h1 h2
      cases hm
      have hx0 := hx.2 0 x v rfl rfl
      have ih := mchL_ok h h2 hp.2 (fun u hu => hr u (List.mem_append_right _ hu)) (vs := vs) ⟨by have := hx.1; simpa using this, fun i x' v' k1 k2 => hx.2 (i + 1) x' v' k1 k2⟩
      refine ⟨by simp [ih.1], fun i x' v' k1 k2 => ?_⟩
      cases i with
      | zero =>
        simp at k1 k2
        subst k1; subst k2
        exact mch_ok h h1 hp.1 (fun u hu => hr u (List.mem_append_left _ hu)) hx0
      | succ i => exact ih.2 i x' v' (by simpa using k1) (by simpa using k2)
    · cases hm
  | [], _ :: _, _, _, _, hm, _, _, _ => by cases hm
  | _ :: _, [], _, _, _, hm, _, _, _ => by simp [mchL] at hm

theorem mchV_ok (h : RenOk E l hp') {x y : SV} {v : Value} {p : Prop} {r : List (Nat × Nat)} (hm : mchV (fo hp') x y = some (p, r)) (hp : p) (hr : ∀ u ∈ r, ren l u.1 = u.2 ∧ u.1 ∈ keys hp') (hx : SVok E w x v) :
    SVok (renE E l hp') w y v := by
  cases y with
  | unk => trivial
  | s y => cases x <;> simp only [mchV, reduceCtorEq] at hm; exact mch_ok h hm hp hr hx
  | agg ys =>
    cases x <;> simp only [mchV, reduceCtorEq] at hm
    obtain ⟨vs, e, hx⟩ := hx
    exact ⟨vs, e, mchL_ok h hm hp hr hx⟩
  | tup _ => cases x <;> simp [mchV] at hm
  | gd _ _ => cases x <;> simp [mchV] at hm

theorem mchF_at {ob' : Nat → Ob} : ∀ {xs ys : List SV} {p : Prop} {r : List (Nat × Nat)}, mchF ob' xs ys = some (p, r) → p → xs.length = ys.length ∧ ∀ i, ∃ p' r', mchV ob' (gl xs i) (gl ys i) = some (p', r') ∧ p' ∧ ∀ u ∈ r', u ∈ r
  | [], [], _, _, hm, _ => ⟨rfl, fun i => ⟨True, [], rfl, trivial, fun u hu => by cases hu⟩⟩
  | x :: xs, y :: ys, p, r, hm, hp => by
    simp only [mchF] at hm
    split at hm
    · rename_i p1 q1 p2 q2 h1 h2
      cases hm
      obtain ⟨k1, k2⟩ := mchF_at h2 hp.2
      refine ⟨by simp [k1], fun i => ?_⟩
      cases i with
      | zero => exact ⟨p1, q1, h1, hp.1, fun u hu => List.mem_append_left _ hu⟩
      | succ i =>
        obtain ⟨p', r', j1, j2, j3⟩ := k2 i
        exact ⟨p', r', j1, j2, fun u hu => List.mem_append_right _ (j3 u hu)⟩
    · cases hm
  | [], _ :: _, _, _, hm, _ => by cases hm
  | _ :: _, [], _, _, hm, _ => by simp [mchF] at hm

end

/-- What waits names nothing but kp. -/
def KpOk (G : Ctx) (kp : List Nat) : Prop := (∀ p ∈ G.sus, ∀ i ∈ idsA p.1, i ∈ kp) ∧ ∀ p ∈ G.rds, p.1 ∈ kp

theorem sub_ok {P : Program} {G : Ctx} {kp : List Nat} (hs : KpOk G kp) {st st' : St} (h : SubQ kp st st') {E : Env} {a : Act} {w : World} (hc : Conc P G st E a w) : ∃ E', Conc P G st' E' a w := by
  unfold SubQ at h
  split at h
  · rename_i p l0 hf
    generalize clo1 (fo st'.hp) st.hp st'.hp (clo1 (fo st'.hp) st.hp st'.hp l0) = l at h
    dsimp only at h
    split at h
    · rename_i q l2 hh
      obtain ⟨hp, hq, h1, h2, h3, h4, h5⟩ := h
      have hob := hc.pre.ob
      have m := hc.pre.mem
      have hchk := chkP_ok h1
      have hR : RenOk E l st'.hp := ⟨m.unb, fun o ho => by
        obtain ⟨p', r', k1, k2, k3⟩ := mchH_at hh hq o _ (fo_mem ho)
        exact ⟨p', r', by rw [hob]; exact k1, k2, fun u hu => hchk u (List.mem_append_right _ (k3 u hu))⟩⟩
      obtain ⟨hl, hv⟩ := mchF_at hf hp
      have hbel := belK_ok h4
      refine ⟨renE E l st'.hp, ⟨⟨⟨fun o ho => ?_, fun o ho => ?_, fun o o' b f f' k1 k2 k3 k4 => ?_, fun o b f k1 k2 => ?_, m.bad, m.bd, m.os, m.tape, m.output, m.size, m.old, fun p hp => ?_, fun p hp => ?_, m.mks⟩, fun _ => rfl, fun i => ?_⟩, fun i hi => hbel i hi.1, by rw [hc.len, hl], hc.dfr, hc.rd⟩⟩
      · show ObOk (renE E l st'.hp) w o (fo st'.hp o)
        cases ho' : fo st'.hp o with
        | dead => trivial
        | box cs' =>
          obtain ⟨p', r', k1, k2, k3⟩ := hR.rel o (by rw [ho']; simp)
          have hm := m.hp _ ho.2
          rw [ho'] at k1
          cases hx : E.ob (ren l o) with
          | dead => rw [hx] at k1; simp [mchO] at k1
          | arr fz z e xs => rw [hx] at k1; simp [mchO] at k1
          | lp s fr ps a b pd => rw [hx] at k1; simp [mchO] at k1
          | box cs =>
            rw [hx] at k1 hm
            obtain ⟨b, vs, T, j1, j2, j3⟩ := hm
            exact ⟨b, vs, T, j1, j2, mchL_ok hR k1 k2 k3 j3⟩
        | arr fz' z' e' xs' =>
          obtain ⟨p', r', k1, k2, k3⟩ := hR.rel o (by rw [ho']; simp)
          have hm := m.hp _ ho.2
          rw [ho'] at k1
          cases hx : E.ob (ren l o) with
          | dead => rw [hx] at k1; simp [mchO] at k1
          | box cs => rw [hx] at k1; simp [mchO] at k1
          | lp s fr ps a b pd => rw [hx] at k1; simp [mchO] at k1
          | arr fz z e xs =>
            rw [hx] at k1 hm
            simp only [mchO] at k1
            unfold Ty.cast at k1
            split at k1
            · rename_i ys hys
              split at hys
              · rename_i e1
                cases e1
                cases hys
                simp only [cond_eq_ite] at k1
                split at k1
                · rename_i hfz
                  cases k1
                  have k2' : xs = xs' := k2
                  subst k2'
                  obtain ⟨a1, a2⟩ := hm
                  refine ⟨a1, ?_⟩
                  show match E.loc (ren l o) with | none => _ | some (b, off) => _
                  cases hloc : E.loc (ren l o) with
                  | none => rw [hloc] at a2; exact a2
                  | some p =>
                    obtain ⟨b, off⟩ := p
                    rw [hloc] at a2
                    obtain ⟨vs, T, fzz, b1, b2, b3, b4⟩ := a2
                    refine ⟨vs, T, fzz, b1, fun hf => b2 ?_, b3, fun i hi => hR.rd _ (b4 i hi)⟩
                    subst hf
                    cases fz
                    · rfl
                    · simp at hfz
                · cases k1
              · cases hys
            · cases k1
        | lp s' fr' ps' a' b' pd' =>
          obtain ⟨p', r', k1, k2, k3⟩ := hR.rel o (by rw [ho']; simp)
          have hm := m.hp _ ho.2
          rw [ho'] at k1
          cases hx : E.ob (ren l o) with
          | dead => rw [hx] at k1; simp [mchO] at k1
          | arr fz z e xs => rw [hx] at k1; simp [mchO] at k1
          | box cs => rw [hx] at k1; simp [mchO] at k1
          | lp s fr ps a b pd =>
            rw [hx] at k1 hm
            simp only [mchO] at k1
            split at k1
            · rename_i p3 q3 hf3
              cases k1
              obtain ⟨⟨rfl, rfl, rfl, rfl, rfl⟩, k2⟩ := k2
              obtain ⟨bl, rr, j1, j2, j3, j4, j5, j6, j7, j8, j9⟩ := hm
              obtain ⟨hl3, hv3⟩ := mchF_at hf3 k2
              refine ⟨bl, rr, j1, j2, j3, j4, j5, j6, j7, by rw [j8, hl3], fun i => ?_⟩
              obtain ⟨p4, r4, m1, m2, m3⟩ := hv3 i
              exact mchV_ok hR m1 m2 (fun u hu => k3 u (m3 u hu)) (j9 i)
            · cases k1
      · show fo st'.hp o = .dead
        refine Classical.byContradiction fun hd => ho ⟨?_, ?_⟩
        · exact List.mem_map.2 ⟨_, fo_mem hd, rfl⟩
        · obtain ⟨p', r', k1, _, _⟩ := hR.rel o hd
          exact Classical.byContradiction fun hb => mchO_dead k1 hd (m.unb _ hb)
      · obtain ⟨p', r', j1, _, _⟩ := hR.rel o k1
        obtain ⟨p2, r2, j2, _, _⟩ := hR.rel o' k2
        have e := m.sep _ _ b f f' (mchO_dead j1 k1) (mchO_dead j2 k2) k3 k4
        exact livR_inj (nodupN_ok h2) (fo_mem k1) (fo_mem k2) k1 k2 e
      · obtain ⟨p', r', j1, _, _⟩ := hR.rel o k1
        exact m.new _ b f (mchO_dead j1 k1) k2
      · have hev : Evo (E.cutTo kp) (renE E l st'.hp) w w := by
          refine ⟨fun o ho => ?_, fun o ho => ?_, fun b _ hb => hR.own hb, fun _ _ _ => rfl, fun b cs T fz h => ⟨cs, fz, h, rfl⟩, Nat.le_refl _, rfl, fun b y hy => by rw [hy]; exact OthK.same⟩
          · obtain ⟨g1, g2, _⟩ := keepP_ok h5 o ho.2
            exact ⟨g2, by rw [g1]; exact ho.1⟩
          · obtain ⟨g1, g2, g3⟩ := keepP_ok h5 o ho.2
            rcases g3 with g3 | g3
            · exact .inl g3
            · refine .inr ⟨?_, ?_⟩
              · show same (E.ob o) (fo st'.hp o)
                rw [hob]; exact g3
              · show E.loc (ren l o) = E.loc o
                rw [g1]
        exact hev.sv (cut_sv (hs.1 p hp) (m.sus p hp))
      · obtain ⟨k1, k2, k3⟩ := m.rdk p hp
        obtain ⟨g1, g2, g3⟩ := keepP_ok h5 p.1 (hs.2 p hp)
        refine ⟨⟨g2, by rw [g1]; exact k1⟩, ?_, k3⟩
        rcases g3 with g3 | g3
        · exact .inl g3
        · refine .inr ?_
          show E.loc (ren l p.1) = _
          rw [g1]
          rcases k2 with k2 | k2
          · rw [← hob, k2] at g3; exact g3.elim
          · exact k2
      · obtain ⟨p', r', j1, j2, j3⟩ := hv i
        exact mchV_ok hR j1 j2 (fun u hu => hchk u (List.mem_append_left _ (j3 u hu))) (hc.pre.fr i)
    · exact h.elim
  · exact h.elim

/-- These slots are written before they are read again. -/
def forget (fr : List SV) : List Nat → List SV
  | [] => fr
  | i :: l => forget (sl fr i .unk) l

def upds (fr : List SV) : List (Nat × SV) → List SV
  | [] => fr
  | (i, v) :: l => upds (sl fr i v) l

theorem least {p : Nat → Prop} (n : Nat) (h : p n) : ∃ m, p m ∧ ∀ k, p k → m ≤ k := by
  induction n using Nat.strongRecOn with
  | _ n ih =>
    rcases Classical.em (∃ m, m < n ∧ p m) with ⟨m, h1, h2⟩ | hno
    · exact ih m h1 h2
    · exact ⟨n, h, fun k hk => Classical.byContradiction fun hlt => hno ⟨k, by omega, hk⟩⟩

section
variable {P : Program} {G : Ctx} {B : Exit → Act → World → Prop}

theorem Ok.sub {kp : List Nat} (hs : KpOk G kp) {k : List It} {st st' : St} (h : SubQ kp st st') (hk : Ok P G B k st') : Ok P G B k st := fun E a w hc => by
  obtain ⟨E', hc'⟩ := sub_ok hs h hc
  exact hk E' a w hc'

/-- A LOOP: what holds at its head, of what is held of a datum. -/
theorem Ok.loop {kp : List Nat} (hs : KpOk G kp) {α : Type} (I : α → St) (Pr : α → Prop) (μ : α → Nat) {c : Code} {k : List It} {st : St} (h0 : ∃ x, Pr x ∧ SubQ kp st (I x))
    (hr : ∀ x, Pr x → Ok P G B (.c c :: .fin (fun st' => ∃ y, Pr y ∧ μ y < μ x ∧ SubQ kp st' (I y)) :: k) (I x)) : Ok P G B (.c (.loop c) :: k) st := by
  intro E a w hc
  obtain ⟨x0, hp0, hs0⟩ := h0
  let Inv : Act → World → Nat → Prop := fun a w n => ∃ x E, Pr x ∧ Conc P G (I x) E a w ∧ μ x = n
  have hI0 : ∃ n, Inv a w n := by
    obtain ⟨E', hc'⟩ := sub_ok hs hs0 hc
    exact ⟨_, x0, E', hp0, hc', rfl⟩
  have hmin : ∀ a w, ∃ m, (∃ n, Inv a w n) → Inv a w m ∧ ∀ n, Inv a w n → m ≤ n := by
    intro a w
    rcases Classical.em (∃ n, Inv a w n) with ⟨n, hn⟩ | hno
    · obtain ⟨m, h1, h2⟩ := least n hn
      exact ⟨m, fun _ => ⟨h1, h2⟩⟩
    · exact ⟨0, fun h => absurd h hno⟩
  let M : Act → World → Nat := fun a w => Classical.choose (hmin a w)
  have hM : ∀ {a w n}, Inv a w n → M a w ≤ n := fun {a w n} h => (Classical.choose_spec (hmin a w) ⟨n, h⟩).2 n h
  have hMat : ∀ {a w}, (∃ n, Inv a w n) → Inv a w (M a w) := fun {a w} h => (Classical.choose_spec (hmin a w) h).1
  show cwp P G (.loop c) (kont P G B k) a w
  refine wpIn_loop (fun a w => ∃ n, Inv a w n) M hI0 fun a w hI => ?_
  obtain ⟨x, E, hp, hc, he⟩ := hMat hI
  refine Code.wpIn_mono ?_ (hr x hp E a w hc)
  intro e a' w' hq
  cases e with
  | normal =>
    obtain ⟨st', E', hc', y, hy, hlt, hsub⟩ := hq
    obtain ⟨E2, hc2⟩ := sub_ok hs hsub hc'
    have hin : Inv a' w' (μ y) := ⟨y, E2, hy, hc2, rfl⟩
    exact ⟨⟨_, hin⟩, by have := hM hin; omega⟩
  | _ => exact hq

end
end Go.Proofs.YtdepbfgnmliggaaGreatDoor.Sx
