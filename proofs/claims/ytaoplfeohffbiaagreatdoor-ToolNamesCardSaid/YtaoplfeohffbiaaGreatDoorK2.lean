/- A part of the proof. -/
import Derived.Test.YtaoplfeohffbiaaGreatDoorK1
import Derived.Orders
import Derived.RangeFuncNested
import Derived.Laws.RangeAny
import Derived.Test.YtaoplfeohffbiaaGreatDoorK0

/-! One symbolic state holds wherever another does; loops. -/
namespace Go.Proofs.YtaoplfeohffbiaaGreatDoor.Sx
set_option linter.unusedSimpArgs false
set_option linter.unusedVariables false
set_option linter.unusedSectionVars false
noncomputable section

/-- Are the pairs of captured cells alike? -/
def capM : List (Nat × Nat) → List (Nat × Nat) → Option (Prop × List (Nat × Nat))
  | [], [] => some (True, [])
  | (o, f) :: l, (o', f') :: l' => match capM l l' with
    | some (p, q) => some (f = f' ∧ p, (o', o) :: q)
    | none => none
  | _, _ => none

/-- What makes the second hold where the first does, and which objects stand for which. -/
def mch (ob' : Nat → Ob) : S1 → S1 → Option (Prop × List (Nat × Nat))
  | _, .unk => some (True, [])
  | .int k n, .int k' n' => bif keq k k' then some (n = n', []) else none
  | .bool b, .bool b' => some (b = b', [])
  | .mb t f, .mb t' f' => some (t = t' ∧ f = f', [])
  | .str s, .str s' => some (s = s', [])
  | .nils, .nils => some (True, [])
  | .nils, .sub o' lo' hi' => match ob' o' with
    | .arr _ _ _ xs' => some (lo' = 0 ∧ hi' = 0 ∧ xs' = [], [(o', o')])
    | _ => none
  | .sub o lo hi, .sub o' lo' hi' => some (lo = lo' ∧ hi = hi', [(o', o)])
  | .pb o f, .pb o' f' => some (f = f', [(o', o)])
  | .pe o i f, .pe o' i' f' => some (i = i' ∧ f = f', [(o', o)])
  | .ro t x, .ro t' x' => match Ty.cast t t' x with
    | some y => some (y = x', [])
    | none => none
  | .pr t x f, .pr t' x' f' => match Ty.cast t t' x with
    | some y => some (y = x' ∧ f = f', [])
    | none => none
  | .fn g cs, .fn g' cs' => match capM cs cs' with
    | some (p, q) => some (g = g' ∧ p, q)
    | none => none
  | .fb g cs, .fb g' cs' => match capM cs cs' with
    | some (p, q) => some (g = g' ∧ p, q)
    | none => none
  | .val v, .val v' => some (v = v', [])
  | .yl o, .yl o' => some (True, [(o', o)])
  | .ifp t o f, .ifp t' o' f' => some (t = t' ∧ f = f', [(o', o)])
  | .ifi t k n, .ifi t' k' n' => bif keq k k' then some (t = t' ∧ n = n', []) else none
  | .sb o z f n k, .sb o' z' f' n' k' => some (z = z' ∧ f = f' ∧ n = n' ∧ k = k', [(o', o)])
  | .mr o, .mr o' => some (True, [(o', o)])
  | _, _ => none

def mchL (ob' : Nat → Ob) : List S1 → List S1 → Option (Prop × List (Nat × Nat))
  | [], [] => some (True, [])
  | x :: l, y :: l' => match mch ob' x y, mchL ob' l l' with
    | some (p, q), some (p', q') => some (p ∧ p', q ++ q')
    | _, _ => none
  | _, _ => none

def mchV (ob' : Nat → Ob) : SV → SV → Option (Prop × List (Nat × Nat))
  | _, .unk => some (True, [])
  | .s x, .s y => mch ob' x y
  | .agg l, .agg l' => mchL ob' l l'
  | _, _ => none

def mchF (ob' : Nat → Ob) : List SV → List SV → Option (Prop × List (Nat × Nat))
  | [], [] => some (True, [])
  | x :: l, y :: l' => match mchV ob' x y, mchF ob' l l' with
    | some (p, q), some (p', q') => some (p ∧ p', q ++ q')
    | _, _ => none
  | _, _ => none

/-- Maps' entries, one by one. -/
def mchM (ob' : Nat → Ob) : List (S1 × SV) → List (S1 × SV) → Option (Prop × List (Nat × Nat))
  | [], [] => some (True, [])
  | x :: l, y :: l' => match mch ob' x.1 y.1, mchV ob' x.2 y.2, mchM ob' l l' with
    | some (p, q), some (p', q'), some (p'', q'') => some (p ∧ p' ∧ p'', q ++ (q' ++ q''))
    | _, _, _ => none
  | _, _ => none

def mchO (ob' : Nat → Ob) : Ob → Ob → Option (Prop × List (Nat × Nat))
  | _, .dead => some (True, [])
  | .box Tb cs, .box T' cs' => bif Nat.beq Tb T' then (bif isBy cs' then some (cs = cs', []) else mchL ob' cs cs') else none
  | .arr fz z e xs, .arr fz' z' e' xs' => match Ty.cast (.slice z e) (.slice z' e') xs with
    | some ys => bif fz' || !fz then some (ys = xs', []) else none
    | none => none
  | .lp s fr ps a b pd, .lp s' fr' ps' a' b' pd' => match mchF ob' fr fr' with
    | some (p, q) => some ((s = s' ∧ ps = ps' ∧ a = a' ∧ b = b' ∧ pd = pd') ∧ p, q)
    | none => none
  | .it s p, .it s' p' => some (s = s' ∧ p = p', [])
  | .mp es, .mp es' => bif isIM es' then some (es = es', []) else mchM ob' es es'
  | _, _ => none

def ren : List (Nat × Nat) → Nat → Nat
  | [], o => o
  | (a, b) :: l, o => bif a == o then b else ren l o

def mchH (ob' : Nat → Ob) (hp : List (Nat × Ob)) (l : List (Nat × Nat)) : List (Nat × Ob) → Option (Prop × List (Nat × Nat))
  | [] => some (True, [])
  | (o, x) :: r => match mchO ob' (fo hp (ren l o)) x, mchH ob' hp l r with
    | some (p, q), some (p', q') => some (p ∧ p', q ++ q')
    | _, _ => none

def hasK : List (Nat × Ob) → Nat → Bool
  | [], _ => false
  | (i, _) :: l, o => bif i == o then true else hasK l o

def chkP (l : List (Nat × Nat)) (hp : List (Nat × Ob)) : List (Nat × Nat) → Bool
  | [] => true
  | (a, b) :: r => (ren l a == b) && hasK hp a && chkP l hp r

def livR (l : List (Nat × Nat)) : List (Nat × Ob) → List Nat
  | [] => []
  | (_, .dead) :: r => livR l r
  | (o, .box _ _) :: r => ren l o :: livR l r
  | (o, .arr _ _ _ _) :: r => ren l o :: livR l r
  | (o, .lp _ _ _ _ _ _) :: r => ren l o :: livR l r
  | (o, .it _ _) :: r => ren l o :: livR l r
  | (o, .mp _) :: r => ren l o :: livR l r

def belK (n : Nat) : List (Nat × Ob) → Bool
  | [] => true
  | (o, _) :: r => Nat.blt o n && belK n r

/-- An object that others name: gone, or of one kind, none shorter. -/
def keepO : Ob → Ob → Prop
  | _, .dead => True
  | .box Tb cs, .box T' cs' => (T', cs'.length) = (Tb, cs.length)
  | .arr _ z e xs, .arr _ z' e' xs' => z' = z ∧ e' = e ∧ xs'.length = xs.length
  | .lp _ _ _ _ _ _, .lp _ _ _ _ _ _ => True
  | .it _ _, .it _ _ => True
  | .mp _, .mp _ => True
  | _, _ => False

def keepP (l : List (Nat × Nat)) (hp hp' : List (Nat × Ob)) : List Nat → Prop
  | [] => True
  | o :: r => (ren l o == o) = true ∧ hasK hp' o = true ∧ keepO (fo hp o) (fo hp' o) ∧ keepP l hp hp' r

/-- The pairs that the objects' contents add. -/
def prs (ob' : Nat → Ob) (hp : List (Nat × Ob)) (l : List (Nat × Nat)) : List (Nat × Ob) → List (Nat × Nat)
  | [] => []
  | (o, x) :: r => (match mchO ob' (fo hp (ren l o)) x with
    | some (_, q) => q
    | none => []) ++ prs ob' hp l r

def clo1 (ob' : Nat → Ob) (hp hp' : List (Nat × Ob)) (l : List (Nat × Nat)) : List (Nat × Nat) := l ++ prs ob' hp l hp'

/-- The second state holds wherever the first does; the objects of kp keep their numbers. -/
def SubQ (kp : List Nat) (st st' : St) : Prop := match mchF (fo st'.hp) st.fr st'.fr with
  | some (p, l0) => match clo1 (fo st'.hp) st.hp st'.hp (clo1 (fo st'.hp) st.hp st'.hp l0) with
    | l => match mchH (fo st'.hp) st.hp l st'.hp with
      | some (q, l2) => p ∧ q ∧ chkP l st'.hp (l0 ++ l2) = true ∧ nodupN (livR l st'.hp) = true ∧ nodupN (keys st'.hp) = true ∧ belK st'.nx st'.hp = true ∧ keepP l st.hp st'.hp kp
      | none => False
  | none => False

theorem hasK_iff {hp : List (Nat × Ob)} {o : Nat} : hasK hp o = true ↔ o ∈ keys hp := by
  induction hp with
  | nil => simp [hasK, keys]
  | cons p l ih =>
    obtain ⟨i, x⟩ := p
    cases hb : i == o
    · have hne : i ≠ o := by simpa using hb
      simp only [hasK, hb, cond_false, ih, keys, List.map_cons, List.mem_cons]
      exact ⟨.inr, fun h => h.resolve_left (Ne.symm hne)⟩
    · have e : i = o := by simpa using hb
      simp only [hasK, hb, cond_true, keys, List.map_cons, List.mem_cons]
      exact ⟨fun _ => .inl e.symm, fun _ => trivial⟩

theorem keepP_ok {l : List (Nat × Nat)} {hp hp' : List (Nat × Ob)} : ∀ {r : List Nat}, keepP l hp hp' r → ∀ o ∈ r, ren l o = o ∧ o ∈ keys hp' ∧ (fo hp' o = .dead ∨ same (fo hp o) (fo hp' o))
  | [], _, o, h => by cases h
  | a :: r, h, o, ho => by
    rcases List.mem_cons.1 ho with rfl | h2
    · obtain ⟨h1, h3, h4, _⟩ := h
      refine ⟨by simpa using h1, ?_, ?_⟩
      · exact hasK_iff.1 h3
      · unfold keepO at h4
        split at h4
        · rename_i e; exact .inl e
        · rename_i e e'; right; rw [e, e']; exact h4
        · rename_i e e'; right; rw [e, e']; exact h4
        · rename_i e e'; right; rw [e, e']; trivial
        · rename_i e e'; right; rw [e, e']; trivial
        · rename_i e e'; right; rw [e, e']; trivial
        · exact h4.elim
    · exact keepP_ok h.2.2.2 o h2

/-- The memory, its numbers born to those that somebody names. -/
def Env.cutTo (E : Env) (kp : List Nat) : Env := { E with born := fun o => E.born o ∧ o ∈ kp }

theorem cut_s1 {E : Env} {w : World} {kp : List Nat} {x : S1} {v : Value} (hk : ∀ i ∈ ids1 [x], i ∈ kp) (r : S1ok E w x v) : S1ok (E.cutTo kp) w x v := by
  cases x with
  | sub o lo hi => exact ⟨⟨r.1, hk o (by simp [ids1])⟩, r.2⟩
  | pb o off => exact ⟨⟨r.1, hk o (by simp [ids1])⟩, r.2⟩
  | pe o i off => exact ⟨⟨r.1, hk o (by simp [ids1])⟩, r.2⟩
  | yl o => exact ⟨⟨r.1, hk o (by simp [ids1])⟩, r.2⟩
  | ifp t o off => exact ⟨⟨r.1, hk o (by simp [ids1])⟩, r.2⟩
  | sb o z off n k => exact ⟨⟨r.1, hk o (by simp [ids1])⟩, r.2⟩
  | mr o => exact ⟨⟨r.1, hk o (by simp [ids1])⟩, r.2⟩
  | fb f caps =>
    obtain ⟨vs, e1, e2, r⟩ := r
    refine ⟨vs, e1, e2, fun i o off hi => ?_⟩
    obtain ⟨h1, h2⟩ := r i o off hi
    refine ⟨⟨h1, hk o ?_⟩, h2⟩
    simp only [ids1, List.append_nil]
    exact List.mem_map.2 ⟨(o, off), List.mem_of_getElem? hi, rfl⟩
  | fn f caps =>
    obtain ⟨vs, e1, e2, r⟩ := r
    refine ⟨vs, e1, e2, fun i o off hi => ?_⟩
    obtain ⟨h1, h2⟩ := r i o off hi
    refine ⟨⟨h1, hk o ?_⟩, h2⟩
    simp only [ids1, List.append_nil]
    exact List.mem_map.2 ⟨(o, off), List.mem_of_getElem? hi, rfl⟩
  | _ => exact r

theorem ids1_at : ∀ {l : List S1} {i : Nat} {x : S1}, l[i]? = some x → ∀ o ∈ ids1 [x], o ∈ ids1 l
  | [], i, x, h => by simp at h
  | y :: l, 0, x, h => by
    simp at h; subst h
    intro o ho
    cases y <;> simp_all [ids1]
  | y :: l, i + 1, x, h => by
    intro o ho
    have := ids1_at (l := l) (i := i) (by simpa using h) o ho
    cases y <;> simp_all [ids1]

theorem cut_s1s {E : Env} {w : World} {kp : List Nat} {l : List S1} {vs : List Value} (hk : ∀ i ∈ ids1 l, i ∈ kp) (r : S1sok E w l vs) : S1sok (E.cutTo kp) w l vs :=
  ⟨r.1, fun i x v h1 h2 => cut_s1 (fun o ho => hk o (ids1_at h1 o ho)) (r.2 i x v h1 h2)⟩

theorem idsT_at : ∀ {l : List (Bool × List S1)} {i : Nat} {x : Bool × List S1}, l[i]? = some x → ∀ o ∈ ids1 x.2, o ∈ idsT l
  | [], i, x, h => by simp at h
  | (b, m) :: l, 0, x, h => by
    simp at h; subst h
    intro o ho
    exact List.mem_append_left _ ho
  | (b, m) :: l, i + 1, x, h => fun o ho => List.mem_append_right _ (idsT_at (l := l) (i := i) (by simpa using h) o ho)

theorem cut_sv {E : Env} {w : World} {kp : List Nat} : ∀ {x : SV} {v : Value}, (∀ i ∈ idsA x, i ∈ kp) → SVok E w x v → SVok (E.cutTo kp) w x v
  | .unk, _, _, _ => trivial
  | .s _, _, hk, r => cut_s1 hk r
  | .agg _, _, hk, ⟨vs, e, r⟩ => ⟨vs, e, cut_s1s hk r⟩
  | .tup _, _, hk, ⟨vs, e, hl, r⟩ => ⟨vs, e, hl, fun i bl u h1 h2 =>
      ⟨fun hb => let ⟨us, e', r'⟩ := (r i bl u h1 h2).1 hb; ⟨us, e', cut_s1s (fun o ho => hk o (idsT_at h1 o ho)) r'⟩,
       fun hb => cut_s1s (fun o ho => hk o (idsT_at h1 o ho)) ((r i bl u h1 h2).2 hb)⟩⟩
  | .gd _ _, _, hk, r => ⟨fun hg => cut_sv hk (r.1 hg), r.2⟩

theorem chkP_ok {l : List (Nat × Nat)} {hp : List (Nat × Ob)} {r : List (Nat × Nat)} (h : chkP l hp r = true) : ∀ p ∈ r, ren l p.1 = p.2 ∧ p.1 ∈ keys hp := by
  induction r with
  | nil => intro p hp; cases hp
  | cons q r ih =>
    obtain ⟨a, b⟩ := q
    simp only [chkP, Bool.and_eq_true] at h
    intro p hp'
    rcases List.mem_cons.1 hp' with rfl | h2
    · exact ⟨by simpa using h.1.1, hasK_iff.1 h.1.2⟩
    · exact ih h.2 p h2

theorem belK_ok {n : Nat} {hp : List (Nat × Ob)} (h : belK n hp = true) : ∀ o ∈ keys hp, o < n := by
  induction hp with
  | nil => intro o ho; cases ho
  | cons q r ih =>
    obtain ⟨a, b⟩ := q
    simp only [belK, Bool.and_eq_true] at h
    intro o ho
    rcases List.mem_cons.1 ho with rfl | h2
    · simpa [Nat.blt_eq] using h.1
    · exact ih h.2 o h2

theorem fo_mem {hp : List (Nat × Ob)} {o : Nat} (h : fo hp o ≠ .dead) : (o, fo hp o) ∈ hp := by
  induction hp with
  | nil => exact absurd rfl h
  | cons q r ih =>
    obtain ⟨a, x⟩ := q
    simp only [fo_nil, fo_cons] at h ⊢
    cases hb : a == o <;> rw [hb] at h <;> simp only [cond_true, cond_false] at h ⊢
    · exact List.mem_cons_of_mem _ (ih h)
    · have e : a = o := by simpa using hb
      subst e; exact List.mem_cons_self ..

theorem livR_mem {l : List (Nat × Nat)} {hp : List (Nat × Ob)} {o : Nat} {x : Ob} (h : (o, x) ∈ hp) (hx : x ≠ .dead) : ren l o ∈ livR l hp := by
  induction hp with
  | nil => cases h
  | cons q r ih =>
    obtain ⟨a, y⟩ := q
    rcases List.mem_cons.1 h with e | h
    · cases e
      cases x with
      | dead => exact absurd rfl hx
      | box Tb cs => exact List.mem_cons_self ..
      | arr fz z e xs => exact List.mem_cons_self ..
      | lp s fr ps a b pd => exact List.mem_cons_self ..
      | it s2 p2 => exact List.mem_cons_self ..
      | mp es2 => exact List.mem_cons_self ..
    · have := ih h
      cases y with
      | dead => exact this
      | box Tb cs => exact List.mem_cons_of_mem _ this
      | arr fz z e xs => exact List.mem_cons_of_mem _ this
      | lp s fr ps a b pd => exact List.mem_cons_of_mem _ this
      | it s2 p2 => exact List.mem_cons_of_mem _ this
      | mp es2 => exact List.mem_cons_of_mem _ this

theorem livR_inj {l : List (Nat × Nat)} {hp : List (Nat × Ob)} (hn : (livR l hp).Nodup) {o o' : Nat} {x x' : Ob} (h : (o, x) ∈ hp) (h' : (o', x') ∈ hp) (hx : x ≠ .dead) (hx' : x' ≠ .dead) (he : ren l o = ren l o') : o = o' := by
  induction hp with
  | nil => cases h
  | cons q r ih =>
    obtain ⟨a, y⟩ := q
    have hcons : y ≠ .dead → livR l ((a, y) :: r) = ren l a :: livR l r := by
      intro hy
      cases y with
      | dead => exact absurd rfl hy
      | box Tb cs => rfl
      | arr fz z e xs => rfl
      | lp s fr ps a b pd => rfl
      | it s2 p2 => rfl
      | mp es2 => rfl
    have htl : (livR l r).Nodup := by
      cases y with
      | dead => exact hn
      | box Tb cs => exact (List.nodup_cons.1 hn).2
      | arr fz z e xs => exact (List.nodup_cons.1 hn).2
      | lp s fr ps a b pd => exact (List.nodup_cons.1 hn).2
      | it s2 p2 => exact (List.nodup_cons.1 hn).2
      | mp es2 => exact (List.nodup_cons.1 hn).2
    rcases List.mem_cons.1 h with e | g <;> rcases List.mem_cons.1 h' with e' | g'
    · cases e; cases e'; rfl
    · cases e
      rw [hcons hx] at hn
      exact absurd (he ▸ livR_mem g' hx') (List.nodup_cons.1 hn).1
    · cases e'
      rw [hcons hx'] at hn
      exact absurd (he ▸ livR_mem g hx) (List.nodup_cons.1 hn).1
    · exact ih htl g g'

theorem mchH_at {ob' : Nat → Ob} {hp : List (Nat × Ob)} {l : List (Nat × Nat)} : ∀ {hp' : List (Nat × Ob)} {q : Prop} {l2 : List (Nat × Nat)}, mchH ob' hp l hp' = some (q, l2) → q → ∀ o x, (o, x) ∈ hp' →
    ∃ p r, mchO ob' (fo hp (ren l o)) x = some (p, r) ∧ p ∧ ∀ u ∈ r, u ∈ l2
  | [], _, _, _, _, _, _, h => by cases h
  | (a, y) :: t, q, l2, hm, hq, o, x, h => by
    simp only [mchH] at hm
    split at hm
    · rename_i p r p' r' h1 h2
      cases hm
      rcases List.mem_cons.1 h with e | h
      · cases e
        exact ⟨p, r, h1, hq.1, fun u hu => List.mem_append_left _ hu⟩
      · obtain ⟨p2, r2, k1, k2, k3⟩ := mchH_at h2 hq.2 o x h
        exact ⟨p2, r2, k1, k2, fun u hu => List.mem_append_right _ (k3 u hu)⟩
    · cases hm

/-- The memory of the second state: the objects under their new numbers. -/
def renE (E : Env) (l : List (Nat × Nat)) (hp' : List (Nat × Ob)) : Env := ⟨fo hp', fun o => E.loc (ren l o), fun o => o ∈ keys hp' ∧ E.born (ren l o), E.bad⟩

section
variable {E : Env} {w : World} {l : List (Nat × Nat)} {hp hp' : List (Nat × Ob)}

/-- What the objects have to do with each other. -/
structure RenOk (E : Env) (l : List (Nat × Nat)) (hp' : List (Nat × Ob)) : Prop where
  unb : ∀ o, ¬ E.born o → E.ob o = .dead
  rel : ∀ o, fo hp' o ≠ .dead → ∃ p r, mchO (fo hp') (E.ob (ren l o)) (fo hp' o) = some (p, r) ∧ p ∧ ∀ u ∈ r, ren l u.1 = u.2 ∧ u.1 ∈ keys hp'

theorem mchO_dead {ob' : Nat → Ob} {x y : Ob} {p : Prop} {r : List (Nat × Nat)} (h : mchO ob' x y = some (p, r)) (hy : y ≠ .dead) : x ≠ .dead := by
  intro hx
  subst hx
  cases y <;> simp [mchO] at hy h

theorem mchO_mut {ob' : Nat → Ob} {x y : Ob} {p : Prop} {r : List (Nat × Nat)} (h : mchO ob' x y = some (p, r)) (hy : y.mut = true) : x.mut = true := by
  cases y with
  | dead => cases hy
  | box Tb cs => cases x <;> simp [mchO] at h; rfl
  | lp s' fr' ps' a' b' pd' => cases x <;> simp [mchO] at h; rfl
  | it s2 p2 => cases x <;> simp [mchO] at h; rfl
  | mp es2 =>
    cases x <;> simp [mchO] at h
    rfl
  | arr fz' z' e' xs' =>
    cases x with
    | dead => simp [mchO] at h
    | box Tb cs => simp [mchO] at h
    | lp s fr ps a b pd => simp [mchO] at h
    | it s2 p2 => simp [mchO] at h
    | mp es2 => simp [mchO] at h
    | arr fz z e xs =>
      simp only [mchO] at h
      split at h
      · have hf : fz' = false := by simpa [Ob.mut] using hy
        subst hf
        cases fz
        · rfl
        · simp at h
      · cases h

theorem RenOk.own (h : RenOk E l hp') {b : Nat} (hb : (renE E l hp').owned b) : E.owned b := by
  rcases hb with hb | ⟨o, f, h1, h2⟩
  · exact .inl hb
  · obtain ⟨p, r, k1, _, _⟩ := h.rel o (mut_ne h1)
    exact .inr ⟨ren l o, f, mchO_mut k1 h1, h2⟩

theorem RenOk.rd (h : RenOk E l hp') (t : Ty) {vs : List Value} {x : t.den} (r : Rd E.owned w t vs x) : Rd (renE E l hp').owned w t vs x :=
  Rd.mono (Nat.le_refl _) (fun _ _ hb => ⟨rfl, fun hb' => hb (h.own hb')⟩) t vs x r

theorem capM_at : ∀ {c c' : List (Nat × Nat)} {p : Prop} {q : List (Nat × Nat)}, capM c c' = some (p, q) → p → c.length = c'.length ∧ ∀ (i o f : Nat), c'[i]? = some (o, f) → ∃ o0, c[i]? = some (o0, f) ∧ (o, o0) ∈ q
  | [], [], _, _, _, _ => ⟨rfl, fun i o f h => by simp at h⟩
  | (o1, f1) :: c, (o2, f2) :: c', p, q, h, hp => by
    simp only [capM] at h
    split at h
    · rename_i p' q' h1
      cases h
      obtain ⟨k1, k2⟩ := capM_at h1 hp.2
      refine ⟨by simp [k1], fun i o f hi => ?_⟩
      cases i with
      | zero =>
        simp at hi
        obtain ⟨rfl, rfl⟩ := hi
        exact ⟨o1, by simp [hp.1], List.mem_cons_self ..⟩
      | succ i =>
        obtain ⟨o0, j1, j2⟩ := k2 i o f (by simpa using hi)
        exact ⟨o0, by simpa using j1, List.mem_cons_of_mem _ j2⟩
    · cases h
  | [], _ :: _, _, _, h, _ => by cases h
  | _ :: _, [], _, _, h, _ => by simp [capM] at h

theorem mchL_len {ob' : Nat → Ob} : ∀ {xs ys : List S1} {p : Prop} {r : List (Nat × Nat)}, mchL ob' xs ys = some (p, r) → xs.length = ys.length
  | [], [], _, _, _ => rfl
  | x :: xs, y :: ys, p, r, hm => by
    simp only [mchL] at hm
    split at hm
    · rename_i p1 q1 p2 q2 h1 h2
      simp [mchL_len h2]
    · cases hm
  | [], _ :: _, _, _, hm => by cases hm
  | _ :: _, [], _, _, hm => by simp [mchL] at hm

theorem mchB_len {ob' : Nat → Ob} {Tb T' : TypeId} {cs cs' : List S1} {p : Prop} {r : List (Nat × Nat)} (hm : mchO ob' (.box Tb cs) (.box T' cs') = some (p, r)) (hp : p) : cs.length = cs'.length := by
  simp only [mchO, cond_eq_ite] at hm
  split at hm
  · split at hm
    · cases hm
      have hp' : cs = cs' := hp
      rw [hp']
    · exact mchL_len hm
  · cases hm

theorem im_any {E E' : Env} {w w' : World} : ∀ {es : List (S1 × SV)}, isIM es = true → ∀ (i : Nat) x (kv : Value) (vv : Value), es[i]? = some x → S1ok E w x.1 kv ∧ SVok E w x.2 vv → S1ok E' w' x.1 kv ∧ SVok E' w' x.2 vv
  | [], _, i, x, _, _, h, _ => by simp at h
  | y :: es, hb, i, x, kv, vv, h, hk => by
    simp only [isIM, Bool.and_eq_true] at hb
    cases i with
    | zero =>
      simp at h
      subst h
      obtain ⟨y1, y2⟩ := y
      have h1 := hb.1
      unfold isIM1 at h1
      split at h1
      · rename_i heq
        cases heq
        exact hk
      · cases h1
    | succ i => exact im_any (E := E) (E' := E') (w := w) (w' := w') (es := es) hb.2 i x kv vv (by simpa using h) hk

theorem by_any {E E' : Env} {w w' : World} : ∀ {cs : List S1} {vs : List Value}, isBy cs = true → S1sok E w cs vs → S1sok E' w' cs vs
  | [], vs, _, h => ⟨h.1, fun i x v h1 => by simp at h1⟩
  | x :: cs, [], _, h => by have := h.1; simp at this
  | x :: cs, v :: vs, hb, h => by
    simp only [isBy, Bool.and_eq_true] at hb
    have h0 := h.2 0 x v rfl rfl
    have ih := by_any (E := E) (E' := E') (w := w) (w' := w') (cs := cs) (vs := vs) hb.2 ⟨by have := h.1; simpa using this, fun i x' v' k1 k2 => h.2 (i + 1) x' v' k1 k2⟩
    refine ⟨by simp [ih.1], fun i x' v' k1 k2 => ?_⟩
    cases i with
    | zero =>
      simp at k1 k2
      subst k1; subst k2
      cases x <;> simp only [isB1, Bool.false_eq_true, false_and] at hb
      exact h0
    | succ i => exact ih.2 i x' v' (by simpa using k1) (by simpa using k2)

theorem mch_ok (h : RenOk E l hp') {x y : S1} {v : Value} {p : Prop} {r : List (Nat × Nat)} (hm : mch (fo hp') x y = some (p, r)) (hp : p) (hr : ∀ u ∈ r, ren l u.1 = u.2 ∧ u.1 ∈ keys hp') (hx : S1ok E w x v) :
    S1ok (renE E l hp') w y v := by
  cases y with
  | unk => trivial
  | int k' n' =>
    cases x <;> simp [mch, cond_eq_ite] at hm
    rename_i k n
    obtain ⟨h1, h2, _⟩ := hm
    have hk : k = k' := by cases k <;> cases k' <;> simp [keq] at h1 <;> rfl
    rw [← h2] at hp
    subst hk; subst hp; exact hx
  | bool b' => cases x <;> simp [mch] at hm; rw [← hm.1] at hp; subst hp; exact hx
  | str s' => cases x <;> simp [mch] at hm; rw [← hm.1] at hp; subst hp; exact hx
  | mb t' f' =>
    cases x <;> simp only [mch, reduceCtorEq, Option.some.injEq, Prod.mk.injEq] at hm
    obtain ⟨rfl, rfl⟩ := hm
    obtain ⟨rfl, rfl⟩ := hp
    exact hx
  | nils => cases x <;> simp [mch] at hm; exact hx
  | val v' => cases x <;> simp [mch] at hm; rw [← hm.1] at hp; subst hp; exact hx
  | ro t' x' =>
    cases x <;> simp only [mch, reduceCtorEq] at hm
    rename_i t x
    unfold Ty.cast at hm
    split at hm
    · rename_i z hz
      split at hz
      · rename_i e
        subst e
        cases hz; cases hm
        have hp' : x = x' := hp
        subst hp'
        exact h.rd _ hx
      · cases hz
    · cases hm
  | pr t' x' f' =>
    cases x <;> simp only [mch, reduceCtorEq] at hm
    rename_i t x f
    unfold Ty.cast at hm
    split at hm
    · rename_i z hz
      split at hz
      · rename_i e
        subst e
        cases hz; cases hm
        have hp' : x = x' ∧ f = f' := hp
        obtain ⟨rfl, rfl⟩ := hp'
        obtain ⟨b, g, us, h1, h2, h3, h4, h5, h6⟩ := hx
        exact ⟨b, g, us, h1, fun hb => h2 (h.own hb), h3, h4, h5, h.rd _ h6⟩
      · cases hz
    · cases hm
  | sub o' lo' hi' =>
    cases x <;> simp only [mch, reduceCtorEq] at hm
    case nils =>
      have hx' : v = .slice none 0 0 := hx
      subst hx'
      cases ho : fo hp' o' with
      | dead => rw [ho] at hm; cases hm
      | box Tb cs => rw [ho] at hm; cases hm
      | lp s fr ps a b pd => rw [ho] at hm; cases hm
      | it s2 p2 => rw [ho] at hm; cases hm
      | mp es2 => rw [ho] at hm; cases hm
      | arr fz' z' e' xs' =>
        rw [ho] at hm
        cases hm
        obtain ⟨rfl, rfl, rfl⟩ := hp
        obtain ⟨r1, r2⟩ := hr (o', o') (List.mem_cons_self ..)
        simp only at r1 r2
        obtain ⟨p2, q2, k1, k2, k3⟩ := h.rel o' (by rw [ho]; simp)
        have hd : E.ob (ren l o') ≠ .dead := mchO_dead k1 (by rw [ho]; simp)
        refine ⟨⟨r2, Classical.byContradiction fun hb => hd (h.unb _ hb)⟩, ?_⟩
        show match fo hp' o' with | .arr _ _ e xs => _ | _ => _
        rw [ho]
        refine ⟨Nat.le_refl _, Nat.le_refl _, ?_⟩
        show match E.loc (ren l o') with | none => _ | some (b, off) => _
        cases E.loc (ren l o') with
        | none => exact ⟨rfl, rfl⟩
        | some p => exact .inr ⟨Nat.le_refl _, none, rfl⟩
    rename_i o lo hi
    simp only [Option.some.injEq, Prod.mk.injEq] at hm
    obtain ⟨h1, h2⟩ := hm
    rw [← h1] at hp
    obtain ⟨rfl, rfl⟩ := hp
    obtain ⟨r1, r2⟩ := hr (o', o) (by rw [← h2]; exact List.mem_cons_self ..)
    simp only at r1 r2
    have hone := ref_one (.inl ⟨_, _, _, rfl⟩) hx
    obtain ⟨hb, hx⟩ := hx
    refine ⟨⟨r2, by rw [r1]; exact hb⟩, ?_⟩
    show match fo hp' o' with | .arr _ _ e xs => _ | _ => _
    cases ho : fo hp' o' with
    | dead => exact hone
    | box Tb cs => exact hone
    | lp s fr ps a b pd => exact hone
    | it s2 p2 => exact hone
    | mp es2 => exact hone
    | arr fz' z' e' xs' =>
      obtain ⟨p2, q2, k1, k2, k3⟩ := h.rel o' (by rw [ho]; simp)
      rw [ho, r1] at k1
      cases ho2 : E.ob o with
      | dead => rw [ho2] at k1; simp [mchO] at k1
      | box Tb cs => rw [ho2] at k1; simp [mchO] at k1
      | lp s fr ps a b pd => rw [ho2] at k1; simp [mchO] at k1
      | it s2 p2 => rw [ho2] at k1; simp [mchO] at k1
      | mp es2 => rw [ho2] at k1; simp [mchO] at k1
      | arr fz z e xs =>
        rw [ho2] at k1 hx
        simp only [mchO] at k1
        unfold Ty.cast at k1
        split at k1
        · rename_i ys hys
          split at hys
          · rename_i e1
            cases e1
            cases hys
            simp only [cond_eq_ite] at k1
            split at k1
            · cases k1
              have k2' : xs = xs' := k2
              subst k2'
              show lo ≤ hi ∧ hi ≤ xs.length ∧ match E.loc (ren l o') with | none => _ | some (b, off) => _
              rw [r1]; exact hx
            · cases k1
          · cases hys
        · cases k1
  | pb o' f' =>
    cases x <;> simp [mch] at hm
    rename_i o f
    obtain ⟨h1, h2⟩ := hm
    rw [← h1] at hp
    subst hp
    obtain ⟨r1, r2⟩ := hr (o', o) (by rw [← h2]; exact List.mem_cons_self ..)
    simp only at r1 r2
    have hone := ref_one (.inr (.inl ⟨_, _, rfl⟩)) hx
    obtain ⟨hb, hx⟩ := hx
    refine ⟨⟨r2, by rw [r1]; exact hb⟩, ?_⟩
    show match fo hp' o' with | .box _ _ => _ | _ => _
    cases ho : fo hp' o' with
    | dead => exact hone
    | arr fz' z' e' xs' => exact hone
    | lp s fr ps a b pd => exact hone
    | it s2 p2 => exact hone
    | mp es2 => exact hone
    | box T' cs' =>
      obtain ⟨p2, q2, k1, k2, k3⟩ := h.rel o' (by rw [ho]; simp)
      rw [ho, r1] at k1
      cases ho2 : E.ob o with
      | dead => rw [ho2] at k1; simp [mchO] at k1
      | arr fz z e xs => rw [ho2] at k1; simp [mchO] at k1
      | lp s fr ps a b pd => rw [ho2] at k1; simp [mchO] at k1
      | it s2 p2 => rw [ho2] at k1; simp [mchO] at k1
      | mp es2 => rw [ho2] at k1; simp [mchO] at k1
      | box Tb cs =>
        rw [ho2] at hx
        show ∃ b, E.loc (ren l o') = some (b, 0) ∧ _
        rw [r1]; exact hx
  | ifp t' o' f' =>
    cases x <;> simp [mch] at hm
    rename_i t o f
    obtain ⟨h1, h2⟩ := hm
    rw [← h1] at hp
    obtain ⟨rfl, rfl⟩ := hp
    obtain ⟨r1, r2⟩ := hr (o', o) (by rw [← h2]; exact List.mem_cons_self ..)
    simp only at r1 r2
    have hone := ref_one (.inr (.inr (.inr (.inr (.inl ⟨_, _, _, rfl⟩))))) hx
    obtain ⟨hb, hx⟩ := hx
    refine ⟨⟨r2, by rw [r1]; exact hb⟩, ?_⟩
    show match fo hp' o' with | .box _ _ => _ | _ => _
    cases ho : fo hp' o' with
    | dead => exact hone
    | arr fz' z' e' xs' => exact hone
    | lp s fr ps a b pd => exact hone
    | it s2 p2 => exact hone
    | mp es2 => exact hone
    | box T' cs' =>
      obtain ⟨p2, q2, k1, k2, k3⟩ := h.rel o' (by rw [ho]; simp)
      rw [ho, r1] at k1
      cases ho2 : E.ob o with
      | dead => rw [ho2] at k1; simp [mchO] at k1
      | arr fz z e xs => rw [ho2] at k1; simp [mchO] at k1
      | lp s fr ps a b pd => rw [ho2] at k1; simp [mchO] at k1
      | it s2 p2 => rw [ho2] at k1; simp [mchO] at k1
      | mp es2 => rw [ho2] at k1; simp [mchO] at k1
      | box Tb cs =>
        rw [ho2] at hx
        show ∃ b, E.loc (ren l o') = some (b, 0) ∧ _
        rw [r1]; exact hx
  | ifi t' k' n' =>
    cases x <;> simp only [mch, reduceCtorEq] at hm
    rename_i t k n
    cases hk : keq k k' <;> rw [hk] at hm <;> simp only [cond_true, cond_false, reduceCtorEq, Option.some.injEq, Prod.mk.injEq] at hm
    have := keq_eq hk
    subst this
    obtain ⟨h1, _⟩ := hm
    rw [← h1] at hp
    obtain ⟨rfl, rfl⟩ := hp
    exact hx
  | pe o' i' f' =>
    cases x <;> simp [mch] at hm
    rename_i o i f
    obtain ⟨h1, h2⟩ := hm
    rw [← h1] at hp
    obtain ⟨rfl, rfl⟩ := hp
    obtain ⟨r1, r2⟩ := hr (o', o) (by rw [← h2]; exact List.mem_cons_self ..)
    simp only at r1 r2
    have hone := ref_one (.inr (.inr (.inl ⟨_, _, _, rfl⟩))) hx
    obtain ⟨hb, hx⟩ := hx
    refine ⟨⟨r2, by rw [r1]; exact hb⟩, ?_⟩
    show match fo hp' o' with | .arr _ _ e xs => _ | _ => _
    cases ho : fo hp' o' with
    | dead => exact hone
    | box Tb cs => exact hone
    | lp s fr ps a b pd => exact hone
    | it s2 p2 => exact hone
    | mp es2 => exact hone
    | arr fz' z' e' xs' =>
      obtain ⟨p2, q2, k1, k2, k3⟩ := h.rel o' (by rw [ho]; simp)
      rw [ho, r1] at k1
      cases ho2 : E.ob o with
      | dead => rw [ho2] at k1; simp [mchO] at k1
      | box Tb cs => rw [ho2] at k1; simp [mchO] at k1
      | lp s fr ps a b pd => rw [ho2] at k1; simp [mchO] at k1
      | it s2 p2 => rw [ho2] at k1; simp [mchO] at k1
      | mp es2 => rw [ho2] at k1; simp [mchO] at k1
      | arr fz z e xs =>
        rw [ho2] at k1 hx
        simp only [mchO] at k1
        unfold Ty.cast at k1
        split at k1
        · rename_i ys hys
          split at hys
          · rename_i e1
            cases e1
            cases hys
            simp only [cond_eq_ite] at k1
            split at k1
            · cases k1
              have k2' : xs = xs' := k2
              subst k2'
              show i < xs.length ∧ ∃ b g, E.loc (ren l o') = some (b, g) ∧ _
              rw [r1]; exact hx
            · cases k1
          · cases hys
        · cases k1
  | fn g' cs' =>
    cases x <;> simp only [mch, reduceCtorEq] at hm
    rename_i g cs
    split at hm
    · rename_i p' q' hcap
      cases hm
      obtain ⟨rfl, hp⟩ := hp
      obtain ⟨k1, k2⟩ := capM_at hcap hp
      obtain ⟨vs, e1, e2, hx⟩ := hx
      refine ⟨vs, e1, e2.trans k1, fun i o f hi => ?_⟩
      obtain ⟨o0, j1, j2⟩ := k2 i o f hi
      obtain ⟨r1, r2⟩ := hr _ j2
      simp only at r1 r2
      obtain ⟨hb, hx⟩ := hx i o0 f j1
      refine ⟨⟨r2, by rw [r1]; exact hb⟩, ?_⟩
      show match fo hp' o with | .box _ _ => _ | _ => _
      cases ho : fo hp' o with
      | dead => trivial
      | arr fz' z' e' xs' => trivial
      | lp s fr ps a b pd => trivial
      | it s2 p2 => trivial
      | mp es2 => trivial
      | box T' c' =>
        obtain ⟨p2, q2, m1, m2, m3⟩ := h.rel o (by rw [ho]; simp)
        rw [ho, r1] at m1
        cases ho2 : E.ob o0 with
        | dead => rw [ho2] at m1; simp [mchO] at m1
        | arr fz z e xs => rw [ho2] at m1; simp [mchO] at m1
        | lp s fr ps a b pd => rw [ho2] at m1; simp [mchO] at m1
        | it s2 p2 => rw [ho2] at m1; simp [mchO] at m1
        | mp es2 => rw [ho2] at m1; simp [mchO] at m1
        | box Tb c =>
          rw [ho2] at hx
          show ∃ b, E.loc (ren l o) = some (b, 0) ∧ _
          rw [r1]; exact hx
    · cases hm
  | yl o' =>
    cases x <;> simp [mch] at hm
    rename_i o
    obtain ⟨h1, h2⟩ := hm
    obtain ⟨r1, r2⟩ := hr (o', o) (by rw [← h2]; exact List.mem_cons_self ..)
    simp only at r1 r2
    have hone := ref_one (.inr (.inr (.inr (.inl ⟨_, rfl⟩)))) hx
    obtain ⟨hb, hx⟩ := hx
    refine ⟨⟨r2, by rw [r1]; exact hb⟩, ?_⟩
    show match fo hp' o' with | .lp .. => _ | .it .. => _ | _ => _
    cases ho : fo hp' o' with
    | dead => exact hone
    | arr fz' z' e' xs' => exact hone
    | box T' cs' => exact hone
    | lp s' fr' ps' a' b' pd' =>
      obtain ⟨p2, q2, k1, k2, k3⟩ := h.rel o' (by rw [ho]; simp)
      rw [ho, r1] at k1
      cases ho2 : E.ob o with
      | dead => rw [ho2] at k1; simp [mchO] at k1
      | arr fz z e xs => rw [ho2] at k1; simp [mchO] at k1
      | box Tb cs => rw [ho2] at k1; simp [mchO] at k1
      | it s2 p2 => rw [ho2] at k1; simp [mchO] at k1
      | mp es2 => rw [ho2] at k1; simp [mchO] at k1
      | lp s fr ps a b pd =>
        rw [ho2] at hx
        show ∃ b, E.loc (ren l o') = some (b, 0) ∧ _
        rw [r1]; exact hx
    | it s' p' =>
      obtain ⟨p2, q2, k1, k2, k3⟩ := h.rel o' (by rw [ho]; simp)
      rw [ho, r1] at k1
      cases ho2 : E.ob o with
      | dead => rw [ho2] at k1; simp [mchO] at k1
      | arr fz z e xs => rw [ho2] at k1; simp [mchO] at k1
      | box Tb cs => rw [ho2] at k1; simp [mchO] at k1
      | lp s fr ps a b pd => rw [ho2] at k1; simp [mchO] at k1
      | it s2 p2 =>
        rw [ho2] at hx
        show ∃ b, E.loc (ren l o') = some (b, 0) ∧ _
        rw [r1]; exact hx
      | mp es2 => rw [ho2] at k1; simp [mchO] at k1
    | mp es' => exact hone
  | sb o' z' f' n' k' =>
    cases x <;> simp only [mch, reduceCtorEq, Option.some.injEq, Prod.mk.injEq] at hm
    rename_i o z f n k
    obtain ⟨h1, h2⟩ := hm
    rw [← h1] at hp
    obtain ⟨rfl, rfl, rfl, rfl⟩ := hp
    obtain ⟨r1, r2⟩ := hr (o', o) (by rw [← h2]; exact List.mem_cons_self ..)
    simp only at r1 r2
    have hone := ref_one (.inr (.inr (.inr (.inr (.inr (.inl ⟨_, _, _, _, _, rfl⟩)))))) hx
    obtain ⟨hb, hx⟩ := hx
    refine ⟨⟨r2, by rw [r1]; exact hb⟩, ?_⟩
    show match fo hp' o' with | .box _ cs => _ | _ => _
    cases ho : fo hp' o' with
    | dead => exact hone
    | arr fz' z' e' xs' => exact hone
    | lp s fr ps a b pd => exact hone
    | it s2 p2 => exact hone
    | mp es2 => exact hone
    | box T' cs' =>
      obtain ⟨p2, q2, k1, k2, k3⟩ := h.rel o' (by rw [ho]; simp)
      rw [ho, r1] at k1
      cases ho2 : E.ob o with
      | dead => rw [ho2] at k1; simp [mchO] at k1
      | arr fz z e xs => rw [ho2] at k1; simp [mchO] at k1
      | lp s fr ps a b pd => rw [ho2] at k1; simp [mchO] at k1
      | it s2 p2 => rw [ho2] at k1; simp [mchO] at k1
      | mp es2 => rw [ho2] at k1; simp [mchO] at k1
      | box Tb cs =>
        rw [ho2] at k1 hx
        have hlen := mchB_len k1 k2
        show ∃ b off' c, E.loc (ren l o') = some (b, 0) ∧ _
        rw [r1, ← hlen]; exact hx
  | mr o' =>
    cases x <;> simp only [mch, reduceCtorEq, Option.some.injEq, Prod.mk.injEq] at hm
    rename_i o
    obtain ⟨h1, h2⟩ := hm
    obtain ⟨r1, r2⟩ := hr (o', o) (by rw [← h2]; exact List.mem_cons_self ..)
    simp only at r1 r2
    have hone := ref_one (.inr (.inr (.inr (.inr (.inr (.inr ⟨_, rfl⟩)))))) hx
    obtain ⟨hb, hx⟩ := hx
    refine ⟨⟨r2, by rw [r1]; exact hb⟩, ?_⟩
    show match fo hp' o' with | .mp _ => _ | _ => _
    cases ho : fo hp' o' with
    | dead => exact hone
    | arr fz' z' e' xs' => exact hone
    | box T' cs' => exact hone
    | lp s fr ps a b pd => exact hone
    | it s2 p2 => exact hone
    | mp es' =>
      obtain ⟨p2, q2, k1, k2, k3⟩ := h.rel o' (by rw [ho]; simp)
      rw [ho, r1] at k1
      cases ho2 : E.ob o with
      | dead => rw [ho2] at k1; simp [mchO] at k1
      | arr fz z e xs => rw [ho2] at k1; simp [mchO] at k1
      | box Tb cs => rw [ho2] at k1; simp [mchO] at k1
      | lp s fr ps a b pd => rw [ho2] at k1; simp [mchO] at k1
      | it s2 p2 => rw [ho2] at k1; simp [mchO] at k1
      | mp es2 =>
        rw [ho2] at hx
        show ∃ b, E.loc (ren l o') = some (b, 0) ∧ _
        rw [r1]; exact hx
  | fb g' cs' =>
    cases x <;> simp only [mch, reduceCtorEq] at hm
    rename_i g cs
    split at hm
    · rename_i p' q' hcap
      cases hm
      obtain ⟨rfl, hp⟩ := hp
      obtain ⟨k1, k2⟩ := capM_at hcap hp
      obtain ⟨vs, e1, e2, hx⟩ := hx
      refine ⟨vs, e1, e2.trans k1, fun i o f hi => ?_⟩
      obtain ⟨o0, j1, j2⟩ := k2 i o f hi
      obtain ⟨r1, r2⟩ := hr _ j2
      simp only at r1 r2
      obtain ⟨hb, hx⟩ := hx i o0 f j1
      refine ⟨⟨r2, by rw [r1]; exact hb⟩, ?_⟩
      show match fo hp' o with | .box _ _ => _ | _ => _
      cases ho : fo hp' o with
      | dead => trivial
      | arr fz' z' e' xs' => trivial
      | lp s fr ps a b pd => trivial
      | it s2 p2 => trivial
      | mp es2 => trivial
      | box T' c' =>
        obtain ⟨p2, q2, m1, m2, m3⟩ := h.rel o (by rw [ho]; simp)
        rw [ho, r1] at m1
        cases ho2 : E.ob o0 with
        | dead => rw [ho2] at m1; simp [mchO] at m1
        | arr fz z e xs => rw [ho2] at m1; simp [mchO] at m1
        | lp s fr ps a b pd => rw [ho2] at m1; simp [mchO] at m1
        | it s2 p2 => rw [ho2] at m1; simp [mchO] at m1
        | mp es2 => rw [ho2] at m1; simp [mchO] at m1
        | box Tb c =>
          rw [ho2] at hx
          show ∃ b, E.loc (ren l o) = some (b, 0) ∧ _
          rw [r1]; exact hx
    · cases hm

theorem mchL_ok (h : RenOk E l hp') : ∀ {xs ys : List S1} {vs : List Value} {p : Prop} {r : List (Nat × Nat)}, mchL (fo hp') xs ys = some (p, r) → p → (∀ u ∈ r, ren l u.1 = u.2 ∧ u.1 ∈ keys hp') → S1sok E w xs vs →
    S1sok (renE E l hp') w ys vs
  | [], [], vs, _, _, _, _, _, hx => ⟨hx.1, fun i x v h1 => by simp at h1⟩
  | x :: xs, y :: ys, [], _, _, _, _, _, hx => by have := hx.1; simp at this
  | x :: xs, y :: ys, v :: vs, p, r, hm, hp, hr, hx => by
    simp only [mchL] at hm
    split at hm
    · rename_i p1 q1 p2 q2 h1 h2
      cases hm
      have hx0 := hx.2 0 x v rfl rfl
      have ih := mchL_ok h h2 hp.2 (fun u hu => hr u (List.mem_append_right _ hu)) (vs := vs) ⟨by have := hx.1; simpa using this, fun i x' v' k1 k2 => hx.2 (i + 1) x' v' k1 k2⟩
      refine ⟨by simp [ih.1], fun i x' v' k1 k2 => ?_⟩
      cases i with
      | zero =>
        simp at k1 k2
        subst k1; subst k2
        exact mch_ok h h1 hp.1 (fun u hu => hr u (List.mem_append_left _ hu)) hx0
      | succ i => exact ih.2 i x' v' (by simpa using k1) (by simpa using k2)
    · cases hm
  | [], _ :: _, _, _, _, hm, _, _, _ => by cases hm
  | _ :: _, [], _, _, _, hm, _, _, _ => by simp [mchL] at hm

theorem mchV_ok (h : RenOk E l hp') {x y : SV} {v : Value} {p : Prop} {r : List (Nat × Nat)} (hm : mchV (fo hp') x y = some (p, r)) (hp : p) (hr : ∀ u ∈ r, ren l u.1 = u.2 ∧ u.1 ∈ keys hp') (hx : SVok E w x v) :
    SVok (renE E l hp') w y v := by
  cases y with
  | unk => trivial
  | s y => cases x <;> simp only [mchV, reduceCtorEq] at hm; exact mch_ok h hm hp hr hx
  | agg ys =>
    cases x <;> simp only [mchV, reduceCtorEq] at hm
    obtain ⟨vs, e, hx⟩ := hx
    exact ⟨vs, e, mchL_ok h hm hp hr hx⟩
  | tup _ => cases x <;> simp [mchV] at hm
  | gd _ _ => cases x <;> simp [mchV] at hm

theorem mchM_ok (h : RenOk E l hp') : ∀ {xs ys : List (S1 × SV)} {ents : List MapEntry} {p : Prop} {r : List (Nat × Nat)}, mchM (fo hp') xs ys = some (p, r) → p → (∀ u ∈ r, ren l u.1 = u.2 ∧ u.1 ∈ keys hp') → ents.length = xs.length →
    (∀ (i : Nat) x e, xs[i]? = some x → ents[i]? = some e → S1ok E w x.1 e.key ∧ SVok E w x.2 e.val) →
    ents.length = ys.length ∧ ∀ (i : Nat) y e, ys[i]? = some y → ents[i]? = some e → S1ok (renE E l hp') w y.1 e.key ∧ SVok (renE E l hp') w y.2 e.val
  | [], [], ents, _, _, _, _, _, hl, _ => ⟨hl, fun i y e h1 => by simp at h1⟩
  | x :: xs, y :: ys, [], _, _, _, _, _, hl, _ => by simp at hl
  | x :: xs, y :: ys, e :: ents, p, r, hm, hp, hr, hl, hx => by
    simp only [mchM] at hm
    split at hm
    · rename_i p1 q1 p2 q2 p3 q3 h1 h2 h3
      cases hm
      obtain ⟨a1, a2⟩ := hx 0 x e rfl rfl
      obtain ⟨b1, b2⟩ := mchM_ok h h3 hp.2.2 (fun u hu => hr u (List.mem_append_right _ (List.mem_append_right _ hu))) (ents := ents) (by simpa using hl) fun i x' e' k1 k2 => hx (i + 1) x' e' (by simpa using k1) (by simpa using k2)
      refine ⟨by simp [b1], fun i y' e' k1 k2 => ?_⟩
      cases i with
      | zero =>
        simp at k1 k2
        subst k1; subst k2
        exact ⟨mch_ok h h1 hp.1 (fun u hu => hr u (List.mem_append_left _ hu)) a1, mchV_ok h h2 hp.2.1 (fun u hu => hr u (List.mem_append_right _ (List.mem_append_left _ hu))) a2⟩
      | succ i => exact b2 i y' e' (by simpa using k1) (by simpa using k2)
    · cases hm
  | [], _ :: _, _, _, _, hm, _, _, _, _ => by cases hm
  | _ :: _, [], _, _, _, hm, _, _, _, _ => by simp [mchM] at hm

theorem mchF_at {ob' : Nat → Ob} : ∀ {xs ys : List SV} {p : Prop} {r : List (Nat × Nat)}, mchF ob' xs ys = some (p, r) → p → xs.length = ys.length ∧ ∀ i, ∃ p' r', mchV ob' (gl xs i) (gl ys i) = some (p', r') ∧ p' ∧ ∀ u ∈ r', u ∈ r
  | [], [], _, _, hm, _ => ⟨rfl, fun i => ⟨True, [], rfl, trivial, fun u hu => by cases hu⟩⟩
  | x :: xs, y :: ys, p, r, hm, hp => by
    simp only [mchF] at hm
    split at hm
    · rename_i p1 q1 p2 q2 h1 h2
      cases hm
      obtain ⟨k1, k2⟩ := mchF_at h2 hp.2
      refine ⟨by simp [k1], fun i => ?_⟩
      cases i with
      | zero => exact ⟨p1, q1, h1, hp.1, fun u hu => List.mem_append_left _ hu⟩
      | succ i =>
        obtain ⟨p', r', j1, j2, j3⟩ := k2 i
        exact ⟨p', r', j1, j2, fun u hu => List.mem_append_right _ (j3 u hu)⟩
    · cases hm
  | [], _ :: _, _, _, hm, _ => by cases hm
  | _ :: _, [], _, _, hm, _ => by simp [mchF] at hm

end

variable [FactG]
/-- What waits names nothing but kp. -/
def KpOk (G : Ctx) (kp : List Nat) : Prop := (∀ p ∈ G.sus, ∀ i ∈ idsA p.1, i ∈ kp) ∧ (∀ p ∈ G.rds, p.1 ∈ kp) ∧ (∀ E0 w1, G.st0 = some (E0, w1) → ∀ o, E0.born o → o ∈ kp) ∧ FactG.F G.core

theorem sub_ok {P : Program} {G : Ctx} {kp : List Nat} (hs : KpOk G kp) {st st' : St} (h : SubQ kp st st') {E : Env} {a : Act} {w : World} (hc : Conc P G st E a w) : ∃ E', Conc P G st' E' a w := by
  unfold SubQ at h
  split at h
  · rename_i p l0 hf
    generalize clo1 (fo st'.hp) st.hp st'.hp (clo1 (fo st'.hp) st.hp st'.hp l0) = l at h
    dsimp only at h
    split at h
    · rename_i q l2 hh
      obtain ⟨hp, hq, h1, h2, h3, h4, h5⟩ := h
      have hob := hc.pre.ob
      have m := hc.pre.mem
      have hchk := chkP_ok h1
      have hR : RenOk E l st'.hp := ⟨m.unb, fun o ho => by
        obtain ⟨p', r', k1, k2, k3⟩ := mchH_at hh hq o _ (fo_mem ho)
        exact ⟨p', r', by rw [hob]; exact k1, k2, fun u hu => hchk u (List.mem_append_right _ (k3 u hu))⟩⟩
      obtain ⟨hl, hv⟩ := mchF_at hf hp
      have hbel := belK_ok h4
      refine ⟨renE E l st'.hp, ⟨⟨⟨fun o ho => ?_, fun o ho => ?_, fun o o' b f f' k1 k2 k3 k4 => ?_, fun o b f k1 k2 => ?_, m.bad, m.bd, m.os, m.tape, m.output, m.size, m.old, fun p hp => ?_, fun p hp => ?_, m.mks, m.gl, fun E0 w1 h0 => ?_⟩, fun _ => rfl, fun i => ?_⟩, fun i hi => hbel i hi.1, by rw [hc.len, hl], hc.dfr, hc.rd⟩⟩
      · show ObOk (renE E l st'.hp) w o (fo st'.hp o)
        cases ho' : fo st'.hp o with
        | dead => trivial
        | box T' cs' =>
          obtain ⟨p', r', k1, k2, k3⟩ := hR.rel o (by rw [ho']; simp)
          have hm := m.hp _ ho.2
          rw [ho'] at k1
          cases hx : E.ob (ren l o) with
          | dead => rw [hx] at k1; simp [mchO] at k1
          | arr fz z e xs => rw [hx] at k1; simp [mchO] at k1
          | lp s fr ps a b pd => rw [hx] at k1; simp [mchO] at k1
          | it s2 p2 => rw [hx] at k1; simp [mchO] at k1
          | mp es2 => rw [hx] at k1; simp [mchO] at k1
          | box Tb cs =>
            rw [hx] at k1 hm
            simp only [mchO] at k1
            cases hT : Nat.beq Tb T' with
            | false => rw [hT] at k1; cases k1
            | true =>
              rw [hT] at k1
              have hT' := Nat.eq_of_beq_eq_true hT
              subst hT'
              obtain ⟨b, vs, T, j1, j2, j3⟩ := hm
              simp only [cond_true] at k1
              cases hB : isBy cs' with
              | false =>
                rw [hB] at k1
                exact ⟨b, vs, T, j1, j2, mchL_ok hR k1 k2 k3 j3⟩
              | true =>
                rw [hB] at k1
                cases k1
                have k2' : cs = cs' := k2
                subst k2'
                exact ⟨b, vs, T, j1, j2, by_any hB j3⟩
        | arr fz' z' e' xs' =>
          obtain ⟨p', r', k1, k2, k3⟩ := hR.rel o (by rw [ho']; simp)
          have hm := m.hp _ ho.2
          rw [ho'] at k1
          cases hx : E.ob (ren l o) with
          | dead => rw [hx] at k1; simp [mchO] at k1
          | box Tb cs => rw [hx] at k1; simp [mchO] at k1
          | lp s fr ps a b pd => rw [hx] at k1; simp [mchO] at k1
          | it s2 p2 => rw [hx] at k1; simp [mchO] at k1
          | mp es2 => rw [hx] at k1; simp [mchO] at k1
          | arr fz z e xs =>
            rw [hx] at k1 hm
            simp only [mchO] at k1
            unfold Ty.cast at k1
            split at k1
            · rename_i ys hys
              split at hys
              · rename_i e1
                cases e1
                cases hys
                simp only [cond_eq_ite] at k1
                split at k1
                · rename_i hfz
                  cases k1
                  have k2' : xs = xs' := k2
                  subst k2'
                  obtain ⟨a1, a2⟩ := hm
                  refine ⟨a1, ?_⟩
                  show match E.loc (ren l o) with | none => _ | some (b, off) => _
                  cases hloc : E.loc (ren l o) with
                  | none => rw [hloc] at a2; exact a2
                  | some p =>
                    obtain ⟨b, off⟩ := p
                    rw [hloc] at a2
                    obtain ⟨vs, T, fzz, b1, b2, b3, b4⟩ := a2
                    refine ⟨vs, T, fzz, b1, fun hf => b2 ?_, b3, fun i hi => hR.rd _ (b4 i hi)⟩
                    subst hf
                    cases fz
                    · rfl
                    · simp at hfz
                · cases k1
              · cases hys
            · cases k1
        | lp s' fr' ps' a' b' pd' =>
          obtain ⟨p', r', k1, k2, k3⟩ := hR.rel o (by rw [ho']; simp)
          have hm := m.hp _ ho.2
          rw [ho'] at k1
          cases hx : E.ob (ren l o) with
          | dead => rw [hx] at k1; simp [mchO] at k1
          | arr fz z e xs => rw [hx] at k1; simp [mchO] at k1
          | box Tb cs => rw [hx] at k1; simp [mchO] at k1
          | it s2 p2 => rw [hx] at k1; simp [mchO] at k1
          | mp es2 => rw [hx] at k1; simp [mchO] at k1
          | lp s fr ps a b pd =>
            rw [hx] at k1 hm
            simp only [mchO] at k1
            split at k1
            · rename_i p3 q3 hf3
              cases k1
              obtain ⟨⟨rfl, rfl, rfl, rfl, rfl⟩, k2⟩ := k2
              obtain ⟨bl, rr, j1, j2, j3, j4, j5, j6, j7, j8, j9⟩ := hm
              obtain ⟨hl3, hv3⟩ := mchF_at hf3 k2
              refine ⟨bl, rr, j1, j2, j3, j4, j5, j6, j7, by rw [j8, hl3], fun i => ?_⟩
              obtain ⟨p4, r4, m1, m2, m3⟩ := hv3 i
              exact mchV_ok hR m1 m2 (fun u hu => k3 u (m3 u hu)) (j9 i)
            · cases k1
        | it s' p' =>
          obtain ⟨pp, r', k1, k2, k3⟩ := hR.rel o (by rw [ho']; simp)
          have hm := m.hp _ ho.2
          rw [ho'] at k1
          cases hx : E.ob (ren l o) with
          | dead => rw [hx] at k1; simp [mchO] at k1
          | arr fz z e xs => rw [hx] at k1; simp [mchO] at k1
          | box Tb cs => rw [hx] at k1; simp [mchO] at k1
          | lp s fr ps a b pd => rw [hx] at k1; simp [mchO] at k1
          | it s2 p2 =>
            rw [hx] at k1 hm
            simp only [mchO, Option.some.injEq, Prod.mk.injEq] at k1
            obtain ⟨rfl, rfl⟩ := k1
            obtain ⟨rfl, rfl⟩ := k2
            exact hm
          | mp es2 => rw [hx] at k1; simp [mchO] at k1
        | mp es' =>
          obtain ⟨pp, r', k1, k2, k3⟩ := hR.rel o (by rw [ho']; simp)
          have hm := m.hp _ ho.2
          rw [ho'] at k1
          cases hx : E.ob (ren l o) with
          | dead => rw [hx] at k1; simp [mchO] at k1
          | arr fz z e xs => rw [hx] at k1; simp [mchO] at k1
          | box Tb cs => rw [hx] at k1; simp [mchO] at k1
          | lp s fr ps a b pd => rw [hx] at k1; simp [mchO] at k1
          | it s2 p2 => rw [hx] at k1; simp [mchO] at k1
          | mp es =>
            rw [hx] at k1 hm
            simp only [mchO] at k1
            cases hB : isIM es' with
            | false =>
              rw [hB] at k1
              have k1' : mchM (fo st'.hp) es es' = some (pp, r') := k1
              obtain ⟨b, ents, c, j1, j2, j3, j4⟩ := hm
              obtain ⟨g1, g2⟩ := mchM_ok hR k1' k2 k3 (ents := ents.toList) (by simpa using j3) fun i x e h1 h2 => j4 i x e h1 (by simpa using h2)
              exact ⟨b, ents, c, j1, j2, by simpa using g1, fun i x e h1 h2 => g2 i x e h1 (by simpa using h2)⟩
            | true =>
              rw [hB] at k1
              cases k1
              have k2' : es = es' := k2
              subst k2'
              obtain ⟨b, ents, c, j1, j2, j3, j4⟩ := hm
              exact ⟨b, ents, c, j1, j2, j3, fun i x e h1 h2 => im_any hB i x e.key e.val h1 (j4 i x e h1 h2)⟩
      · show fo st'.hp o = .dead
        refine Classical.byContradiction fun hd => ho ⟨?_, ?_⟩
        · exact List.mem_map.2 ⟨_, fo_mem hd, rfl⟩
        · obtain ⟨p', r', k1, _, _⟩ := hR.rel o hd
          exact Classical.byContradiction fun hb => mchO_dead k1 hd (m.unb _ hb)
      · obtain ⟨p', r', j1, _, _⟩ := hR.rel o k1
        obtain ⟨p2, r2, j2, _, _⟩ := hR.rel o' k2
        have e := m.sep _ _ b f f' (mchO_dead j1 k1) (mchO_dead j2 k2) k3 k4
        exact livR_inj (nodupN_ok h2) (fo_mem k1) (fo_mem k2) k1 k2 e
      · obtain ⟨p', r', j1, _, _⟩ := hR.rel o k1
        exact m.new _ b f (mchO_dead j1 k1) k2
      · have hev : Evo (E.cutTo kp) (renE E l st'.hp) w w := by
          refine ⟨fun o ho => ?_, fun o ho => ?_, fun b _ hb => hR.own hb, fun _ _ _ => rfl, fun b cs T fz h => ⟨cs, fz, h, rfl⟩, Nat.le_refl _, rfl, fun b y hy => by rw [hy]; exact OthK.same⟩
          · obtain ⟨g1, g2, _⟩ := keepP_ok h5 o ho.2
            exact ⟨g2, by rw [g1]; exact ho.1⟩
          · obtain ⟨g1, g2, g3⟩ := keepP_ok h5 o ho.2
            rcases g3 with g3 | g3
            · exact .inl g3
            · refine .inr ⟨?_, ?_⟩
              · show same (E.ob o) (fo st'.hp o)
                rw [hob]; exact g3
              · show E.loc (ren l o) = E.loc o
                rw [g1]
        exact hev.sv (cut_sv (hs.1 p hp) (m.sus p hp))
      · obtain ⟨k1, k2, k3⟩ := m.rdk p hp
        obtain ⟨g1, g2, g3⟩ := keepP_ok h5 p.1 (hs.2.1 p hp)
        refine ⟨⟨g2, by rw [g1]; exact k1⟩, ?_, k3⟩
        rcases g3 with g3 | g3
        · exact .inl g3
        · refine .inr ?_
          show E.loc (ren l p.1) = _
          rw [g1]
          rcases k2 with k2 | k2
          · rw [← hob, k2] at g3; exact g3.elim
          · exact k2
      · obtain ⟨e1, e2⟩ := m.ev E0 w1 h0
        refine ⟨e1, fun o ho => ?_, fun o ho => ?_, fun b hlt hb => e2.own b hlt (hR.own hb), e2.mem, e2.blk, e2.size, e2.bad, e2.oth⟩
        · obtain ⟨g1, g2, _⟩ := keepP_ok h5 o (hs.2.2.1 E0 w1 h0 o ho)
          exact ⟨g2, by rw [g1]; exact e2.born o ho⟩
        · obtain ⟨g1, g2, g3⟩ := keepP_ok h5 o (hs.2.2.1 E0 w1 h0 o ho)
          rcases g3 with g3 | g3
          · exact .inl g3
          · rw [← hob] at g3
            rcases e2.keep o ho with k | ⟨k1, k2⟩
            · rw [k] at g3; exact g3.elim
            · refine .inr ⟨k1.trans g3, ?_⟩
              show E.loc (ren l o) = _
              rw [g1]; exact k2
      · obtain ⟨p', r', j1, j2, j3⟩ := hv i
        exact mchV_ok hR j1 j2 (fun u hu => hchk u (List.mem_append_left _ (j3 u hu))) (hc.pre.fr i)
    · exact h.elim
  · exact h.elim

/-- These slots are written before they are read again. -/
def forget (fr : List SV) : List Nat → List SV
  | [] => fr
  | i :: l => forget (sl fr i .unk) l

def upds (fr : List SV) : List (Nat × SV) → List SV
  | [] => fr
  | (i, v) :: l => upds (sl fr i v) l

theorem least {p : Nat → Prop} (n : Nat) (h : p n) : ∃ m, p m ∧ ∀ k, p k → m ≤ k := by
  induction n using Nat.strongRecOn with
  | _ n ih =>
    rcases Classical.em (∃ m, m < n ∧ p m) with ⟨m, h1, h2⟩ | hno
    · exact ih m h1 h2
    · exact ⟨n, h, fun k hk => Classical.byContradiction fun hlt => hno ⟨k, by omega, hk⟩⟩

section
variable {P : Program} {G : Ctx} {B : Exit → Act → World → Prop}

theorem Ok.sub {kp : List Nat} (hs : KpOk G kp) {k : List It} {st st' : St} (h : SubQ kp st st') (hk : Ok P G B k st') : Ok P G B k st := fun E a w hc => by
  obtain ⟨E', hc'⟩ := sub_ok hs h hc
  exact hk E' a w hc'

/-- A LOOP: what holds at its head, of what is held of a datum. -/
theorem Ok.loop {kp : List Nat} (hs : KpOk G kp) {α : Type} (I : α → St) (Pr : α → Prop) (μ : α → Nat) {c : Code} {k : List It} {st : St} (h0 : ∃ x, Pr x ∧ SubQ kp st (I x))
    (hr : ∀ x, Pr x → Ok P G B (.c c :: .fin (fun st' => ∃ y, Pr y ∧ μ y < μ x ∧ SubQ kp st' (I y)) :: k) (I x)) : Ok P G B (.c (.loop c) :: k) st := by
  intro E a w hc
  obtain ⟨x0, hp0, hs0⟩ := h0
  let Inv : Act → World → Nat → Prop := fun a w n => ∃ x E, Pr x ∧ Conc P G (I x) E a w ∧ μ x = n
  have hI0 : ∃ n, Inv a w n := by
    obtain ⟨E', hc'⟩ := sub_ok hs hs0 hc
    exact ⟨_, x0, E', hp0, hc', rfl⟩
  have hmin : ∀ a w, ∃ m, (∃ n, Inv a w n) → Inv a w m ∧ ∀ n, Inv a w n → m ≤ n := by
    intro a w
    rcases Classical.em (∃ n, Inv a w n) with ⟨n, hn⟩ | hno
    · obtain ⟨m, h1, h2⟩ := least n hn
      exact ⟨m, fun _ => ⟨h1, h2⟩⟩
    · exact ⟨0, fun h => absurd h hno⟩
  let M : Act → World → Nat := fun a w => Classical.choose (hmin a w)
  have hM : ∀ {a w n}, Inv a w n → M a w ≤ n := fun {a w n} h => (Classical.choose_spec (hmin a w) ⟨n, h⟩).2 n h
  have hMat : ∀ {a w}, (∃ n, Inv a w n) → Inv a w (M a w) := fun {a w} h => (Classical.choose_spec (hmin a w) h).1
  show cwp P G (.loop c) (kont P G B k) a w
  refine wpIn_loop (fun a w => ∃ n, Inv a w n) M hI0 fun a w hI => ?_
  obtain ⟨x, E, hp, hc, he⟩ := hMat hI
  refine Code.wpIn_mono ?_ (hr x hp E a w hc)
  intro e a' w' hq
  cases e with
  | normal =>
    obtain ⟨st', E', hc', y, hy, hlt, hsub⟩ := hq
    obtain ⟨E2, hc2⟩ := sub_ok hs hsub hc'
    have hin : Inv a' w' (μ y) := ⟨y, E2, hy, hc2, rfl⟩
    exact ⟨⟨_, hin⟩, by have := hM hin; omega⟩
  | _ => exact hq

end
end
end Go.Proofs.YtaoplfeohffbiaaGreatDoor.Sx

/-! What a symbolic step looks at. -/
namespace Go.Proofs.YtaoplfeohffbiaaGreatDoor.Sx
set_option linter.unusedSimpArgs false
set_option linter.unusedVariables false
set_option linter.unusedSectionVars false
noncomputable section

section
variable {P : Program} {Cs : List Con} {nx : Nat} {ob ob' : Nat → Ob} {fr fr' : List SV}

/-! ### The slots -/
theorem pkPs_fr : ∀ (l : List Operand), (∀ x ∈ l, ev fr x = ev fr' x) → pkPs fr l = pkPs fr' l
  | [], _ => rfl
  | x :: l, h => by simp only [pkPs, h x (List.mem_cons_self ..), pkPs_fr l fun y hy => h y (List.mem_cons_of_mem _ hy)]
theorem pkVs_fr : ∀ (l : List Operand), (∀ x ∈ l, ev fr x = ev fr' x) → pkVs fr l = pkVs fr' l
  | [], _ => rfl
  | x :: l, h => by simp only [pkVs, h x (List.mem_cons_self ..), pkVs_fr l fun y hy => h y (List.mem_cons_of_mem _ hy)]
theorem idsO_fr : ∀ (l : List Operand), (∀ x ∈ l, ev fr x = ev fr' x) → idsO fr l = idsO fr' l
  | [], _ => rfl
  | x :: l, h => by simp only [idsO, h x (List.mem_cons_self ..), idsO_fr l fun y hy => h y (List.mem_cons_of_mem _ hy)]
theorem capsOf_fr : ∀ (l : List Operand), (∀ x ∈ l, ev fr x = ev fr' x) → capsOf fr l = capsOf fr' l
  | [], _ => rfl
  | x :: l, h => by simp only [capsOf, h x (List.mem_cons_self ..), capsOf_fr l fun y hy => h y (List.mem_cons_of_mem _ hy)]
theorem sParts_fr (e : Ty) : ∀ (l : List (Nat × Operand)) (i : Nat), (∀ x ∈ l, ev fr x.2 = ev fr' x.2) → sParts ob e fr l i = sParts ob e fr' l i
  | [], _, _ => rfl
  | (j, x) :: l, i, h => by simp only [sParts, h (j, x) (List.mem_cons_self ..), sParts_fr e l (i + 1) fun y hy => h y (List.mem_cons_of_mem _ hy)]
theorem idsParts_fr : ∀ (l : List (Nat × Operand)), (∀ x ∈ l, ev fr x.2 = ev fr' x.2) → idsParts fr l = idsParts fr' l
  | [], _ => rfl
  | (j, x) :: l, h => by simp only [idsParts, h (j, x) (List.mem_cons_self ..), idsParts_fr l fun y hy => h y (List.mem_cons_of_mem _ hy)]
theorem sFill_fr (pl : List (Nat × Nat)) : ∀ (l : List (Nat × Operand)) (cs : List S1), (∀ x ∈ l, ev fr x.2 = ev fr' x.2) → sFill pl fr l cs = sFill pl fr' l cs
  | [], _, _ => rfl
  | (j, x) :: l, cs, h => by
    have hx := h (j, x) (List.mem_cons_self ..)
    simp only at hx
    simp only [sFill, hx, sFill_fr pl l _ fun y hy => h y (List.mem_cons_of_mem _ hy)]

theorem sCall_fr {c : Call} (h : ∀ x ∈ c.operands.toList, ev fr x = ev fr' x) : sCall P Cs ob nx fr c = sCall P Cs ob nx fr' c := by
  have ha : ∀ x ∈ c.args.toList, ev fr x = ev fr' x := fun x hx => h x (by simp [Call.operands, Array.toList_append]; exact .inr (by simpa using hx))
  have hf : ∀ f, c.callee = .value f → ev fr f = ev fr' f := fun f hf => h f (by simp [Call.operands, hf])
  obtain ⟨callee, args, at'⟩ := c
  simp only at ha hf
  cases callee with
  | value f =>
    simp only [sCall, hf f rfl, pkVs_fr _ ha, pkPs_fr _ ha]
  | invoke r s => rfl
  | builtin b =>
    simp only [sCall]
    generalize args.toList = l at ha
    match l, ha with
    | [], _ => cases b <;> rfl
    | [x], ha => have h1 := ha x (by simp); cases b <;> first | rfl | (cases at'.toList <;> first | rfl | simp only [h1])
    | [x, y], ha =>
      have h1 := ha x (by simp)
      have h2 := ha y (by simp)
      generalize at'.toList = tl
      cases b <;> first | rfl | (simp only [h1, h2]; done) | (rcases tl with _ | ⟨t, _ | ⟨t', _ | ⟨t3, tl⟩⟩⟩ <;> first | rfl | simp only [h1, h2])
    | _ :: _ :: _ :: _, _ => cases b <;> rfl

theorem stepU_fr {op : Op} (h : ∀ x ∈ op.operands.toList, ev fr x = ev fr' x) : stepU P Cs ob nx fr op = stepU P Cs ob nx fr' op := by
  cases op
  case call c => exact sCall_fr h
  case makeFunc f first caps =>
    cases f <;> try rfl
    rename_i f
    simp only [stepU, uPick, uAlloc, uBox, uLoad, uStore, uBin, uUn, uConv, uExt, uField, uFAddr, uIAddr, uIndex, uSlice, uBSl, uBuild, uNil, uMk, uIfc, uRng]
    rw [capsOf_fr _ fun x hx => h x (by simp [Op.operands]; exact .inr (by simpa using hx))]
  case slice t x lo hi mx =>
    cases mx <;> try rfl
    have h1 := h x (by simp [Op.operands])
    cases lo <;> cases hi <;> simp [Op.operands] at h <;> simp [stepU, uPick, uAlloc, uBox, uLoad, uStore, uBin, uUn, uConv, uExt, uField, uFAddr, uIAddr, uIndex, uSlice, uBSl, uBuild, uNil, uMk, uIfc, uRng, pkPs, h]
  case buildSlice t n ps =>
    have hp : ∀ x ∈ ps.toList, ev fr x.2 = ev fr' x.2 := fun x hx => h x.2 (by simp [Op.operands]; exact ⟨x.1, by simpa using hx⟩)
    simp only [stepU, uPick, uAlloc, uBox, uLoad, uStore, uBin, uUn, uConv, uExt, uField, uFAddr, uIAddr, uIndex, uSlice, uBSl, uBuild, uNil, uMk, uIfc, uRng]
    split
    · rw [sParts_fr _ _ _ hp, idsParts_fr _ hp]
    · rfl
  case build t ps =>
    have hp : ∀ x ∈ ps.toList, ev fr x.2 = ev fr' x.2 := fun x hx => h x.2 (by simp [Op.operands]; exact ⟨x.1, by simpa using hx⟩)
    simp only [stepU, uPick, uAlloc, uBox, uLoad, uStore, uBin, uUn, uConv, uExt, uField, uFAddr, uIAddr, uIndex, uSlice, uBSl, uBuild, uNil, uMk, uIfc, uRng]
    split
    · rw [sFill_fr _ _ _ hp]
    · rfl
  all_goals try rfl
  all_goals
    simp [Op.operands] at h
    simp only [stepU, uPick, uAlloc, uBox, uLoad, uStore, uBin, uUn, uConv, uExt, uField, uFAddr, uIAddr, uIndex, uSlice, uBSl, uBuild, uNil, uMk, uIfc, uRng, h]

/-! ### The objects -/
theorem idsV_pk (v : SV) : idsV (pkV v) = idsV v := by
  induction v with
  | gd g x ih => exact ih
  | _ => rfl

theorem ids_sub : ∀ (l : List S1), ∀ i ∈ ids l, i ∈ ids1 l
  | [], i, h => by cases h
  | x :: l, i, h => by
    cases x <;> simp only [ids, ids1] at h ⊢
    case sub o lo hi =>
      rcases List.mem_cons.1 h with e | h
      · subst e; exact List.mem_cons_self ..
      · exact List.mem_cons_of_mem _ (ids_sub l i h)
    case pb => exact List.mem_cons_of_mem _ (ids_sub l i h)
    case pe => exact List.mem_cons_of_mem _ (ids_sub l i h)
    case fn => exact List.mem_append_right _ (ids_sub l i h)
    case yl => exact List.mem_cons_of_mem _ (ids_sub l i h)
    case ifp => exact List.mem_cons_of_mem _ (ids_sub l i h)
    case sb => exact List.mem_cons_of_mem _ (ids_sub l i h)
    case mr => exact List.mem_cons_of_mem _ (ids_sub l i h)
    case fb => exact List.mem_append_right _ (ids_sub l i h)
    all_goals exact ids_sub l i h

theorem cells_ids (v : SV) : ∀ i ∈ ids1 v.cells, i ∈ idsV v := by
  cases v <;> intro i h
  case s x => exact h
  case agg l => exact h
  all_goals cases h

theorem freeze_ob : ∀ (l : List Nat), (∀ i ∈ l, ob i = ob' i) → freeze ob l = freeze ob' l
  | [], _ => rfl
  | o :: l, h => by simp only [freeze, h o (List.mem_cons_self ..), freeze_ob l fun y hy => h y (List.mem_cons_of_mem _ hy)]

theorem rdS_rest : ∀ (t : Ty) (l : List S1) (x : t.den) (r : List S1), rdS ob t l = some (x, r) → ∀ i ∈ ids1 r, i ∈ ids1 l := by
  intro t
  induction t with
  | pair a b iha ihb =>
    intro l x r h i hi
    simp only [rdS] at h
    split at h
    · rename_i y l' h1
      split at h
      · rename_i z l'' h2
        cases h
        exact iha _ _ _ h1 i (ihb _ _ _ h2 i hi)
      · cases h
    · cases h
  | unit => intro l x r h i hi; simp only [rdS] at h; cases h; exact hi
  | _ =>
    intro l x r h i hi
    cases l with
    | nil => simp [rdS] at h
    | cons y l =>
      have hsub : ∀ i, i ∈ ids1 l → i ∈ ids1 (y :: l) := by
        intro i hi
        cases y <;> simp only [ids1] <;> first | exact hi | exact List.mem_cons_of_mem _ hi | exact List.mem_append_right _ hi
      have : r = l := by
        cases y <;> first
          | (simp only [rdS, cond_eq_ite] at h <;> (repeat' (split at h)) <;> first | (cases h; done) | (cases h; rfl))
          | (rename_i f caps; cases caps <;> simp only [rdS] at h <;> first | (cases h; done) | (cases h; rfl))
      rw [this] at hi
      exact hsub i hi

theorem rdS_ob : ∀ (t : Ty) (l : List S1), (∀ i ∈ ids1 l, ob i = ob' i) → rdS ob t l = rdS ob' t l := by
  intro t
  induction t with
  | pair a b iha ihb =>
    intro l h
    simp only [rdS]
    rw [iha l h]
    split
    · rename_i y l' h1
      rw [ihb l' fun i hi => h i (rdS_rest _ _ _ _ h1 i hi)]
    · rfl
  | slice z e _ =>
    intro l h
    cases l with
    | nil => rfl
    | cons y l =>
      cases y <;> try rfl
      rename_i o lo hi
      simp only [rdS, h o (List.mem_cons_self ..)]
  | _ => intro l h; cases l <;> first | rfl | (rename_i y l; cases y <;> first | rfl | (rename_i f caps; cases caps <;> rfl))

theorem sLoad_ob (agg : Bool) (n : Nat) (v : SV) (h : ∀ i ∈ idsV v, ob i = ob' i) : sLoad ob agg n v = sLoad ob' agg n v := by
  cases v <;> try rfl
  rename_i x
  cases x <;> try rfl
  all_goals simp only [idsV, ids1, List.mem_cons, List.not_mem_nil, or_false, forall_eq] at h
  all_goals simp only [sLoad, h]

theorem sStore_ob (n : Nat) (vs : List S1) (v : SV) (h : ∀ i ∈ idsV v, ob i = ob' i) (h2 : ∀ i ∈ ids1 vs, ob i = ob' i) : sStore ob n vs v = sStore ob' n vs v := by
  cases v <;> try rfl
  rename_i x
  cases x <;> try rfl
  case pb o off =>
    simp only [idsV, ids1, List.mem_cons, List.not_mem_nil, or_false, forall_eq] at h
    simp only [sStore, h]
  case pe o i off =>
    simp only [idsV, ids1, List.mem_cons, List.not_mem_nil, or_false, forall_eq] at h
    simp only [sStore, h]
    cases ho : ob' o with
    | dead => rfl
    | box Tb cs => rfl
    | lp s fr ps a b pd => rfl
    | it s2 p2 => rfl
    | mp es2 => rfl
    | arr fz z e xs =>
      cases fz
      · have hl : ∀ j ∈ ids1 (lay (cellsS e (xs.getD i e.zero)) off vs), ob j = ob' j := by
          intro j hj
          have key : ∀ (cs : List S1) (off : Nat) (ws : List S1), (∀ j ∈ ids1 cs, ob j = ob' j) → (∀ j ∈ ids1 ws, ob j = ob' j) → ∀ j ∈ ids1 (lay cs off ws), ob j = ob' j := by
            intro cs
            have ids1_cons : ∀ (y : S1) (l : List S1) j, j ∈ ids1 (y :: l) ↔ j ∈ ids1 [y] ∨ j ∈ ids1 l := by
              intro y l j
              cases y <;> simp [ids1]
            induction cs with
            | nil => intro off ws h1 h2 j hj; cases ws <;> simp [lay, ids1] at hj
            | cons y cs ih =>
              intro off ws h1 h2 j hj
              cases ws with
              | nil => simp only [lay] at hj; exact h1 j hj
              | cons w ws =>
                cases off with
                | zero =>
                  simp only [lay] at hj
                  rcases (ids1_cons _ _ _).1 hj with hj | hj
                  · exact h2 j ((ids1_cons _ _ _).2 (.inl hj))
                  · exact ih 0 ws (fun j hj => h1 j ((ids1_cons _ _ _).2 (.inr hj))) (fun j hj => h2 j ((ids1_cons _ _ _).2 (.inr hj))) j hj
                | succ off =>
                  simp only [lay] at hj
                  rcases (ids1_cons _ _ _).1 hj with hj | hj
                  · exact h1 j ((ids1_cons _ _ _).2 (.inl hj))
                  · exact ih off (w :: ws) (fun j hj => h1 j ((ids1_cons _ _ _).2 (.inr hj))) h2 j hj
          refine key _ _ _ ?_ h2 j hj
          have cl : ∀ (t : Ty) (x : t.den), ids1 (cellsS t x) = [] := by
            intro t
            induction t with
            | pair a b iha ihb =>
              intro x
              have app : ∀ l m : List S1, ids1 (l ++ m) = ids1 l ++ ids1 m := by
                intro l m
                induction l with
                | nil => rfl
                | cons y l ih => cases y <;> simp [ids1, ih]
              simp [cellsS, app, iha, ihb]
            | _ => intro x; rfl
          intro j hj
          rw [cl] at hj; cases hj
        simp only [rdS_ob _ _ hl, freeze_ob _ fun j hj => h2 j (ids_sub _ j hj)]
      · rfl

theorem sIndex_ob (t : TypeId) (i : Int) (v : SV) (h : ∀ i ∈ idsV v, ob i = ob' i) : sIndex P ob t i v = sIndex P ob' t i v := by
  cases v <;> try rfl
  rename_i x
  cases x <;> try rfl
  case sub o l k =>
    simp only [idsV, ids1, List.mem_cons, List.not_mem_nil, or_false, forall_eq] at h
    simp only [sIndex, h]
  case pb o l =>
    simp only [idsV, ids1, List.mem_cons, List.not_mem_nil, or_false, forall_eq] at h
    simp only [sIndex, h]
  case ro t x => cases t <;> rfl

theorem nilB_ob (x : S1) (h : ∀ i ∈ ids1 [x], ob i = ob' i) : nilB ob x = nilB ob' x := by
  cases x <;> try rfl
  case sub o l k =>
    simp only [ids1, List.mem_cons, List.not_mem_nil, or_false, forall_eq] at h
    simp only [nilB, h]
  case ro t x => cases t <;> rfl

theorem ptrB_ob (x : S1) (h : ∀ i ∈ ids1 [x], ob i = ob' i) : ptrB ob x = ptrB ob' x := by
  cases x <;> try rfl
  case pb o l =>
    simp only [ids1, List.mem_cons, List.not_mem_nil, or_false, forall_eq] at h
    simp only [ptrB, h]
  case pe o l k =>
    simp only [ids1, List.mem_cons, List.not_mem_nil, or_false, forall_eq] at h
    simp only [ptrB, h]
  case val v => cases v <;> rfl

theorem ifB_ob (x : S1) (h : ∀ i ∈ ids1 [x], ob i = ob' i) : ifB ob x = ifB ob' x := by
  cases x <;> try rfl
  case ifp t o l =>
    simp only [ids1, List.mem_cons, List.not_mem_nil, or_false, forall_eq] at h
    simp only [ifB, h]
  case ro t x => cases t <;> rfl

theorem sConv_ob (src dst : TypeId) (x : SV) (h : ∀ i ∈ idsV x, ob i = ob' i) : sConv P ob src dst x = sConv P ob' src dst x := by
  cases x <;> try rfl
  rename_i y
  have e : ∀ z, sList ob z (.int .u8) (.s y) = sList ob' z (.int .u8) (.s y) := fun z => by simp only [sList, rdS_ob _ [y] h]
  cases y <;> try rfl
  all_goals simp only [sConv, e]

theorem sRun_ob (src dst : TypeId) (x : SV) (h : ∀ i ∈ idsV x, ob i = ob' i) : sRun P ob src dst x = sRun P ob' src dst x := by
  cases x <;> try rfl
  rename_i y
  have e : ∀ z, sList ob z (.int .i32) (.s y) = sList ob' z (.int .i32) (.s y) := fun z => by simp only [sList, rdS_ob _ [y] h]
  simp only [sRun, e]

theorem sNil_ob (op : BinOp) (t : TypeId) (v y : SV) (h : ∀ i ∈ idsV v, ob i = ob' i) : sNil P ob op t v y = sNil P ob' op t v y := by
  cases v <;> try rfl
  rename_i x
  have e := nilB_ob x h
  have e2 := ptrB_ob x h
  cases y <;> try rfl
  rename_i y
  cases y <;> try rfl
  · cases x <;> simp only [sNil, e]
  · rename_i v
    cases v <;> try (cases x <;> rfl)
    rename_i q
    cases q
    · cases x <;> simp only [sNil, e2]
    · cases x <;> rfl

theorem sIf_ob (op : BinOp) (t : TypeId) (v : SV) (y : Operand) (h : ∀ i ∈ idsV v, ob i = ob' i) : sIf P ob op t v y = sIf P ob' op t v y := by
  cases v <;> try rfl
  rename_i x
  have e := ifB_ob x h
  cases y <;> try rfl
  rename_i v
  cases v <;> simp only [sIf, e]

theorem sSlice_ob (t : TypeId) (lo hi : Option SV) (v : SV) (h : ∀ i ∈ idsV v, ob i = ob' i) : sSlice P ob t lo hi v = sSlice P ob' t lo hi v := by
  cases v <;> try rfl
  rename_i x
  cases x <;> try rfl
  case sub o l k =>
    simp only [idsV, ids1, List.mem_cons, List.not_mem_nil, or_false, forall_eq] at h
    simp only [sSlice, h]
  case ro t x => cases t <;> rfl

theorem sLen_ob (t : TypeId) (v : SV) (h : ∀ i ∈ idsV v, ob i = ob' i) : sLen P ob t v = sLen P ob' t v := by
  cases v <;> try rfl
  rename_i x
  cases x <;> try rfl
  case sub o l k =>
    simp only [idsV, ids1, List.mem_cons, List.not_mem_nil, or_false, forall_eq] at h
    simp only [sLen, h]
  case ro t x => cases t <;> rfl

theorem sAppend_ob (t : TypeId) (s x : SV) (h : ∀ i ∈ idsV s, ob i = ob' i) (h2 : ∀ i ∈ idsV x, ob i = ob' i) : sAppend P ob nx t s x = sAppend P ob' nx t s x := by
  unfold sAppend
  split
  · rename_i e z _
    have h3 : sOwn ob z e s = sOwn ob' z e s := by
      cases s <;> try rfl
      rename_i y
      cases y <;> try rfl
      simp only [idsV, ids1, List.mem_cons, List.not_mem_nil, or_false, forall_eq] at h
      simp only [sOwn, h]
    have h4 : sList ob z e x = sList ob' z e x := by
      cases x <;> try rfl
      rename_i y
      simp only [sList, rdS_ob _ [y] h2]
    rw [h3, h4]
  · rfl

theorem sArgs_ob : ∀ (as : List (Bool × Ty)) (xs : List SV), (∀ x ∈ xs, ∀ i ∈ idsV x, ob i = ob' i) → sArgs ob as xs = sArgs ob' as xs
  | [], [], _ => rfl
  | [], _ :: _, _ => rfl
  | _ :: _, [], _ => rfl
  | (b, t) :: as, x :: xs, h => by
    simp only [sArgs, rdS_ob t x.cells fun i hi => h x (List.mem_cons_self ..) i (cells_ids x i hi), sArgs_ob as xs fun y hy => h y (List.mem_cons_of_mem _ hy)]

theorem idsO_mem {l : List Operand} {x : Operand} (hx : x ∈ l) {i : Nat} (hi : i ∈ idsV (ev fr x)) : i ∈ idsO fr l := by
  induction l with
  | nil => cases hx
  | cons y l ih =>
    rcases List.mem_cons.1 hx with e | h
    · subst e; exact List.mem_append_left _ hi
    · exact List.mem_append_right _ (ih h)

theorem pkVs_mem : ∀ {l : List Operand} {y : SV}, y ∈ pkVs fr l → ∃ x ∈ l, y = pkV (ev fr x)
  | x :: l, y, h => by
    rcases List.mem_cons.1 h with e | h
    · exact ⟨x, List.mem_cons_self .., e⟩
    · obtain ⟨z, h1, h2⟩ := pkVs_mem h
      exact ⟨z, List.mem_cons_of_mem _ h1, h2⟩

theorem allIds_mem : ∀ {l : List SV} {i : Nat}, i ∈ allIds l → ∃ y ∈ l, i ∈ ids1 y.cells
  | x :: l, i, h => by
    rcases List.mem_append.1 h with h | h
    · exact ⟨x, List.mem_cons_self .., ids_sub _ i h⟩
    · obtain ⟨y, h1, h2⟩ := allIds_mem h
      exact ⟨y, List.mem_cons_of_mem _ h1, h2⟩

theorem sCall_ob {c : Call} (h : ∀ x ∈ c.operands.toList, ∀ i ∈ idsV (ev fr x), ob i = ob' i) : sCall P Cs ob nx fr c = sCall P Cs ob' nx fr c := by
  have ha : ∀ x ∈ c.args.toList, ∀ i ∈ idsV (pkV (ev fr x)), ob i = ob' i := fun x hx => by
    rw [idsV_pk]
    exact h x (by simp [Call.operands, Array.toList_append]; exact .inr (by simpa using hx))
  obtain ⟨callee, args, at'⟩ := c
  simp only at ha
  cases callee with
  | value f =>
    have h1 : ∀ as, sArgs ob as (pkVs fr args.toList) = sArgs ob' as (pkVs fr args.toList) := fun as => sArgs_ob as _ fun y hy => by
      obtain ⟨x, hx, e⟩ := pkVs_mem hy
      rw [e]; exact ha x hx
    have h2 : freeze ob (allIds (pkVs fr args.toList)) = freeze ob' (allIds (pkVs fr args.toList)) := freeze_ob _ fun i hi => by
      obtain ⟨y, hy, hi⟩ := allIds_mem hi
      obtain ⟨x, hx, e⟩ := pkVs_mem hy
      exact ha x hx i (by rw [← e]; exact cells_ids y i hi)
    simp only [sCall, h1, h2]
  | invoke r s => rfl
  | builtin b =>
    simp only [sCall]
    generalize args.toList = l at ha
    match l, ha with
    | [], _ => cases b <;> rfl
    | [x], ha =>
      cases b <;> try rfl
      cases at'.toList <;> try rfl
      simp only [sLen_ob _ _ (ha x (by simp))]
    | [x, y], ha =>
      cases b <;> try rfl
      generalize at'.toList = tl
      match tl with
      | [] => rfl
      | [_] => rfl
      | [t, t'] => simp only [sAppend_ob t _ _ (ha x (by simp)) (ha y (by simp))]
      | _ :: _ :: _ :: _ => rfl
    | _ :: _ :: _ :: _, _ => cases b <;> rfl

theorem boxes_ob : ∀ (l : List (Nat × Nat)), (∀ i ∈ l.map (·.1), ob i = ob' i) → boxes ob l = boxes ob' l
  | [], _ => rfl
  | (o, f) :: l, h => by
    simp only [boxes, h o (by simp), boxes_ob l fun i hi => h i (List.mem_cons_of_mem _ hi)]

theorem capsOf_ids : ∀ {l : List Operand} {cs : List (Nat × Nat)}, capsOf fr l = some cs → ∀ i ∈ cs.map (·.1), ∃ x ∈ l, i ∈ idsV (ev fr x)
  | [], cs, h, i, hi => by cases h; cases hi
  | x :: l, cs, h, i, hi => by
    simp only [capsOf] at h
    split at h
    · rename_i o off r h1 h2
      cases h
      rcases List.mem_cons.1 hi with e | hi
      · exact ⟨x, List.mem_cons_self .., by rw [h1, e]; simp [idsV, ids1]⟩
      · obtain ⟨y, k1, k2⟩ := capsOf_ids h2 i hi
        exact ⟨y, List.mem_cons_of_mem _ k1, k2⟩
    · cases h

theorem sParts_ob (e : Ty) : ∀ (l : List (Nat × Operand)) (i : Nat), (∀ x ∈ l, ∀ i ∈ idsV (ev fr x.2), ob i = ob' i) → sParts ob e fr l i = sParts ob' e fr l i
  | [], _, _ => rfl
  | (j, x) :: l, i, h => by
    have hx := h (j, x) (List.mem_cons_self ..)
    simp only [sParts, rdS_ob _ _ fun i hi => hx i (cells_ids _ i hi), sParts_ob e l (i + 1) fun y hy => h y (List.mem_cons_of_mem _ hy)]

theorem idsParts_mem : ∀ {l : List (Nat × Operand)} {i : Nat}, i ∈ idsParts fr l → ∃ x ∈ l, i ∈ idsV (ev fr x.2)
  | (j, x) :: l, i, h => by
    rcases List.mem_append.1 h with h | h
    · exact ⟨(j, x), List.mem_cons_self .., cells_ids _ i (ids_sub _ i h)⟩
    · obtain ⟨y, h1, h2⟩ := idsParts_mem h
      exact ⟨y, List.mem_cons_of_mem _ h1, h2⟩

theorem stepU_ob {op : Op} (h : obFree op = false → ∀ i ∈ idsO fr op.operands.toList, ob i = ob' i) : stepU P Cs ob nx fr op = stepU P Cs ob' nx fr op := by
  have hV : obFree op = false → ∀ x ∈ op.operands.toList, ∀ i ∈ idsV (pkV (ev fr x)), ob i = ob' i := fun hf x hx i hi => h hf i (idsO_mem hx (by rw [idsV_pk] at hi; exact hi))
  cases op
  case call c => exact sCall_ob fun x hx i hi => h rfl i (idsO_mem hx hi)
  case makeFunc f first caps =>
    cases f <;> try rfl
    rename_i f
    simp only [stepU, uPick, uAlloc, uBox, uLoad, uStore, uBin, uUn, uConv, uExt, uField, uFAddr, uIAddr, uIndex, uSlice, uBSl, uBuild, uNil, uMk, uIfc, uRng]
    split
    · rename_i l _ hc
      rw [boxes_ob l fun i hi => by
        obtain ⟨x, h1, h2⟩ := capsOf_ids hc i hi
        exact h rfl i (idsO_mem (by simp [Op.operands]; exact .inr (by simpa using h1)) h2)]
    · rfl
  case slice t x lo hi mx =>
    cases mx <;> try rfl
    simp only [stepU, uPick, uAlloc, uBox, uLoad, uStore, uBin, uUn, uConv, uExt, uField, uFAddr, uIAddr, uIndex, uSlice, uBSl, uBuild, uNil, uMk, uIfc, uRng, sSlice_ob t _ _ _ (hV rfl x (by simp [Op.operands]))]
  case buildSlice t n ps =>
    have hp : ∀ x ∈ ps.toList, ∀ i ∈ idsV (ev fr x.2), ob i = ob' i := fun x hx i hi => h rfl i (idsO_mem (x := x.2) (by simp [Op.operands]; exact ⟨x.1, by simpa using hx⟩) hi)
    simp only [stepU, uPick, uAlloc, uBox, uLoad, uStore, uBin, uUn, uConv, uExt, uField, uFAddr, uIAddr, uIndex, uSlice, uBSl, uBuild, uNil, uMk, uIfc, uRng]
    split
    · rw [sParts_ob _ _ _ hp, freeze_ob _ fun i hi => by
        obtain ⟨x, h1, h2⟩ := idsParts_mem hi
        exact hp x h1 i h2]
    · rfl
  case makeInterface t x =>
    have hx := hV rfl x (by simp [Op.operands])
    simp only [stepU, uPick, uAlloc, uBox, uLoad, uStore, uBin, uUn, uConv, uExt, uField, uFAddr, uIAddr, uIndex, uSlice, uBSl, uBuild, uNil, uMk, uIfc, uRng]
    split
    · rfl
    · split
      · rename_i hv; rw [hv] at hx; simp only [hx _ (List.mem_cons_self ..)]
      · rfl
      · rfl
  case convert src dst x => simp only [stepU, uPick, uAlloc, uBox, uLoad, uStore, uBin, uUn, uConv, uExt, uField, uFAddr, uIAddr, uIndex, uSlice, uBSl, uBuild, uNil, uMk, uIfc, uRng, sConv_ob src dst _ (hV rfl x (by simp [Op.operands])), sRun_ob src dst _ (hV rfl x (by simp [Op.operands]))]
  case load t a => simp only [stepU, uPick, uAlloc, uBox, uLoad, uStore, uBin, uUn, uConv, uExt, uField, uFAddr, uIAddr, uIndex, uSlice, uBSl, uBuild, uNil, uMk, uIfc, uRng, sLoad_ob _ _ _ (hV rfl a (by simp [Op.operands]))]
  case store t a v => simp only [stepU, uPick, uAlloc, uBox, uLoad, uStore, uBin, uUn, uConv, uExt, uField, uFAddr, uIAddr, uIndex, uSlice, uBSl, uBuild, uNil, uMk, uIfc, uRng, sStore_ob _ _ _ (hV rfl a (by simp [Op.operands])) fun i hi => hV rfl v (by simp [Op.operands]) i (cells_ids _ i hi)]
  case indexAddr t x i => simp only [stepU, uPick, uAlloc, uBox, uLoad, uStore, uBin, uUn, uConv, uExt, uField, uFAddr, uIAddr, uIndex, uSlice, uBSl, uBuild, uNil, uMk, uIfc, uRng, sIndex_ob t _ _ (hV rfl x (by simp [Op.operands]))]
  case fieldAddr t x f =>
    have hx := hV rfl x (by simp [Op.operands])
    simp only [stepU, uPick, uAlloc, uBox, uLoad, uStore, uBin, uUn, uConv, uExt, uField, uFAddr, uIAddr, uIndex, uSlice, uBSl, uBuild, uNil, uMk, uIfc, uRng]
    split
    · split
      · rename_i hv; rw [hv] at hx; simp only [hx _ (List.mem_cons_self ..)]
      · rename_i hv; rw [hv] at hx; simp only [hx _ (List.mem_cons_self ..)]
      · rfl
      · rfl
    · rfl
  case nilCheck x =>
    have hx := hV rfl x (by simp [Op.operands])
    simp only [stepU, uPick, uAlloc, uBox, uLoad, uStore, uBin, uUn, uConv, uExt, uField, uFAddr, uIAddr, uIndex, uSlice, uBSl, uBuild, uNil, uMk, uIfc, uRng]
    split
    · rename_i hv; rw [hv] at hx; simp only [hx _ (List.mem_cons_self ..)]
    · rename_i hv; rw [hv] at hx; simp only [hx _ (List.mem_cons_self ..)]
    · rfl
    · rfl
    · rfl
  case binOp op t x y t' =>
    have hx := hV rfl x (by simp [Op.operands])
    simp only [stepU, uPick, uAlloc, uBox, uLoad, uStore, uBin, uUn, uConv, uExt, uField, uFAddr, uIAddr, uIndex, uSlice, uBSl, uBuild, uNil, uMk, uIfc, uRng]
    rw [sNil_ob op t _ _ hx, sIf_ob op t _ _ hx]
  all_goals rfl

theorem yCall_fr {c : Call} (h : ∀ x ∈ c.args.toList, ev fr x = ev fr' x) : yCall P ob nx fr c = yCall P ob nx fr' c := by
  obtain ⟨callee, args, ats⟩ := c
  simp only [yCall] at h ⊢
  generalize args.toList = l at h
  generalize ats.toList = m
  match l, h with
  | [], _ => rcases callee with f | _ | b <;> first | rfl | (cases b <;> rfl) | (cases f <;> rfl)
  | [x], h =>
    have e := h x (by simp)
    split <;> simp_all
  | [x, y], h =>
    have e := h x (by simp)
    have e' := h y (by simp)
    split <;> simp_all
  | _ :: _ :: _ :: _, _ => rcases callee with f | _ | b <;> first | rfl | (cases b <;> rfl) | (cases f <;> rfl)

theorem stepY_fr {op : Op} (h : ∀ x ∈ op.operands.toList, ev fr x = ev fr' x) : stepY P ob nx fr op = stepY P ob nx fr' op := by
  cases op <;> try rfl
  case convert src dst x => simp only [stepY, h x (by simp [Op.operands])]
  case binOp op t x y t2 => simp only [stepY, h x (by simp [Op.operands]), h y (by simp [Op.operands])]
  case call c => exact yCall_fr fun x hx => h x (by simp [Op.operands, Call.operands, Array.toList_append]; exact .inr (by simpa using hx))

theorem stepV_fr {op : Op} (h : ∀ x ∈ op.operands.toList, ev fr x = ev fr' x) : stepV P Cs ob nx fr op = stepV P Cs ob nx fr' op := by
  unfold stepV
  rw [stepU_fr h, stepY_fr h]

theorem yConv_ob (ow : Prop) (s t : TypeId) (v : SV) (h : ∀ i ∈ idsV v, ob i = ob' i) : yConv P ob nx ow s t v = yConv P ob' nx ow s t v := by
  cases v <;> try rfl
  rename_i x
  cases x <;> try rfl
  simp only [yConv, h _ (List.mem_cons_self ..)]
theorem yPtr_ob (ow : Prop) (op : BinOp) (t : TypeId) (y v : SV) (h : ∀ i ∈ idsV v, ob i = ob' i) : yPtr P ob nx ow op t y v = yPtr P ob' nx ow op t y v := by
  cases v <;> try rfl
  rename_i x
  cases x <;> try rfl
  simp only [yPtr, h _ (List.mem_cons_self ..)]
theorem yEs_ob (ow : Prop) (v : SV) (h : ∀ i ∈ idsV v, ob i = ob' i) : yEs ob nx ow v = yEs ob' nx ow v := by
  cases v <;> try rfl
  rename_i x
  cases x <;> try rfl
  simp only [yEs, h _ (List.mem_cons_self ..)]
theorem yLen_ob (ow : Prop) (t : TypeId) (v : SV) (h : ∀ i ∈ idsV v, ob i = ob' i) : yLen P ob nx ow t v = yLen P ob' nx ow t v := by
  cases v <;> try rfl
  rename_i x
  cases x <;> try rfl
  simp only [yLen, h _ (List.mem_cons_self ..)]
theorem yData_ob (ow : Prop) (v : SV) (h : ∀ i ∈ idsV v, ob i = ob' i) : yData ob nx ow v = yData ob' nx ow v := by
  cases v <;> try rfl
  rename_i x
  cases x <;> try rfl
  simp only [yData, h _ (List.mem_cons_self ..)]
theorem yStr_ob (ow : Prop) (pt : TypeId) (n v : SV) (h : ∀ i ∈ idsV v, ob i = ob' i) : yStr P ob nx ow pt n v = yStr P ob' nx ow pt n v := by
  cases v <;> try rfl
  rename_i x
  cases x <;> try rfl
  case pb o off =>
    cases off <;> try rfl
    simp only [yStr, h _ (List.mem_cons_self ..)]
  case val v =>
    cases v <;> try rfl
    rename_i p
    cases p <;> rfl
theorem yApp_ob (ow : Prop) (t t' : TypeId) (s x : SV) (h : ∀ i ∈ idsV s, ob i = ob' i) (h2 : ∀ i ∈ idsV x, ob i = ob' i) : yApp P ob nx ow t t' s x = yApp P ob' nx ow t t' s x := by
  have e1 : ySrc P ob t t' x = ySrc P ob' t t' x := by
    cases x <;> try rfl
    rename_i y
    cases y <;> try rfl
    rename_i o lo hi
    simp only [ySrc, sList, rdS_ob _ [.sub o lo hi] h2]
  have e2 : ∀ el bs, yAppV nx ob ow el bs s = yAppV nx ob' ow el bs s := fun el bs => by
    cases s <;> try rfl
    rename_i y
    cases y <;> try rfl
    rename_i o z off n k
    have := h o (List.mem_cons_self ..)
    unfold yAppV
    split <;> simp_all
  simp only [yApp, e1, e2]

theorem yCall_ob {c : Call} (h : ∀ x ∈ c.args.toList, ∀ i ∈ idsV (pkV (ev fr x)), ob i = ob' i) : yCall P ob nx fr c = yCall P ob' nx fr c := by
  obtain ⟨callee, args, ats⟩ := c
  simp only [yCall] at h ⊢
  generalize args.toList = l at h
  generalize ats.toList = m
  match l, h with
  | [], _ => rcases callee with f | _ | b <;> first | rfl | (cases b <;> rfl) | (cases f <;> rfl)
  | [x], h =>
    have e := h x (by simp)
    clear h
    split
    all_goals try rfl
    all_goals (
      rename_i he
      simp at he
      try (first | subst he | (obtain ⟨rfl, rfl⟩ := he)))
    all_goals first | exact yLen_ob _ _ _ e | exact yData_ob _ _ e | (simp only [yEs_ob _ _ e]; done)
  | [x, y], h =>
    have e := h x (by simp)
    have e' := h y (by simp)
    clear h
    split
    all_goals try rfl
    all_goals (
      rename_i he
      simp at he
      try (first | subst he | (obtain ⟨rfl, rfl⟩ := he)))
    all_goals first | exact yApp_ob _ _ _ _ _ e e' | exact yStr_ob _ _ _ _ e
  | _ :: _ :: _ :: _, _ => rcases callee with f | _ | b <;> first | rfl | (cases b <;> rfl) | (cases f <;> rfl)

theorem stepV_ob {op : Op} (h : obFree op = false → ∀ i ∈ idsO fr op.operands.toList, ob i = ob' i) : stepV P Cs ob nx fr op = stepV P Cs ob' nx fr op := by
  have hV : obFree op = false → ∀ x ∈ op.operands.toList, ∀ i ∈ idsV (pkV (ev fr x)), ob i = ob' i := fun hf x hx i hi => h hf i (idsO_mem hx (by rw [idsV_pk] at hi; exact hi))
  have e : stepY P ob nx fr op = stepY P ob' nx fr op := by
    cases op <;> try rfl
    case convert src dst x => simp only [stepY, yConv_ob _ _ _ _ (hV rfl x (by simp [Op.operands]))]
    case binOp op t x y t' => simp only [stepY, yPtr_ob _ _ _ _ _ (hV rfl x (by simp [Op.operands]))]
    case call c => exact yCall_ob fun x hx => hV rfl x (by simp [Op.operands, Call.operands, Array.toList_append]; exact .inr (by simpa using hx))
  unfold stepV
  rw [stepU_ob h, e]

end
end
end Go.Proofs.YtaoplfeohffbiaaGreatDoor.Sx

/-! Regions that draw their order: the lexical symbolic run speaks for every order. -/
namespace Go.Proofs.YtaoplfeohffbiaaGreatDoor.Sx
set_option linter.unusedSimpArgs false
set_option linter.unusedVariables false
set_option linter.unusedSectionVars false
noncomputable section

/-- What has been recorded of an operation of the lexical run. -/
structure Rc where
  j : Nat
  o : Oper
  nx : Nat
  hi : Nat
  val : SV
  ws : List (Nat × Ob)
  rd : List Nat

def updO (ob : Nat → Ob) : List (Nat × Ob) → Nat → Ob
  | [] => ob
  | (o, y) :: ws => updO (fun i => if i = o then y else ob i) ws

theorem updO_fo (hp : List (Nat × Ob)) : ∀ (ws : List (Nat × Ob)), fo (uos hp ws) = updO (fo hp) ws
  | [] => rfl
  | (o, y) :: ws => by
    show fo (uos (uo hp o y) ws) = updO (fun i => if i = o then y else fo hp i) ws
    rw [updO_fo (uo hp o y) ws]
    congr 1
    funext i
    exact fo_uo hp o y i

theorem updO_not : ∀ (ws : List (Nat × Ob)) (ob : Nat → Ob) (i : Nat), i ∉ keys' ws → updO ob ws i = ob i
  | [], _, _, _ => rfl
  | (o, y) :: ws, ob, i, h => by
    have h1 : i ≠ o := fun e => h (by rw [e]; exact List.mem_cons_self ..)
    have h2 : i ∉ keys' ws := fun hm => h (List.mem_cons_of_mem _ hm)
    show updO (fun i => if i = o then y else ob i) ws i = ob i
    rw [updO_not ws _ i h2, if_neg h1]

theorem updO_congr : ∀ (ws : List (Nat × Ob)) (ob ob' : Nat → Ob) (i : Nat), (i ∉ keys' ws → ob i = ob' i) → updO ob ws i = updO ob' ws i
  | [], _, _, _, h => h (by intro h; cases h)
  | (o, y) :: ws, ob, ob', i, h => updO_congr ws _ _ i fun hi => by
    by_cases e : i = o
    · simp [e]
    · simp only [if_neg e]
      refine h fun hm => ?_
      rcases List.mem_cons.1 hm with e' | hm
      · exact e e'
      · exact hi hm

theorem updO_comm (ws ws' : List (Nat × Ob)) (ob : Nat → Ob) (h : ∀ i ∈ keys' ws, i ∉ keys' ws') : updO (updO ob ws) ws' = updO (updO ob ws') ws := by
  funext i
  by_cases h1 : i ∈ keys' ws
  · rw [updO_not ws' _ i (h i h1)]
    exact updO_congr ws _ _ i fun hn => absurd h1 hn
  · rw [updO_not ws _ i h1]
    exact updO_congr ws' _ _ i fun _ => updO_not ws _ i h1

section
variable (P : Program) (Cs : List Con) (all : List Oper)

/-- The operation does this, in this state. -/
def Fit (c : Rc) (fr : List SV) (ob : Nat → Ob) : Prop :=
  match c.o.guard with
  | none => ∃ u, stepV P Cs ob c.nx fr c.o.op = some u ∧ u.owe ∧ u.gives ∧ c.val = u.val ∧ c.ws = u.ws ∧ c.hi = u.hi ∧ ∀ i ∈ rdO fr c.o.op, i ∈ c.rd
  | some (j, want) => ∃ g, gval all fr j want = some g ∧
      ((∃ u, stepV P Cs ob c.nx fr c.o.op = some u ∧ u.ws = [] ∧ (g = true → u.owe ∧ u.gives) ∧ c.val = .gd g u.val ∧ c.ws = [] ∧ c.hi = u.hi ∧ ∀ i ∈ rdO fr c.o.op, i ∈ c.rd) ∨
       (g = true ∧ ∃ u, stepV P Cs ob c.nx fr c.o.op = some u ∧ u.owe ∧ u.gives ∧ c.val = u.val ∧ c.ws = u.ws ∧ c.hi = u.hi ∧ ∀ i ∈ rdO fr c.o.op, i ∈ c.rd) ∨
       (g = false ∧ c.val = .unk ∧ c.ws = [] ∧ c.hi = c.nx))

end

section
variable {P : Program} {Cs : List Con} {all : List Oper}

theorem gl_setD {fr : List SV} {dst : Option Nat} {v : SV} {d : Nat} (h : ∀ e, dst = some e → d ≠ e) : gl (setD fr dst v) d = gl fr d := by
  cases dst with
  | none => rfl
  | some e =>
    simp only [setD, gl_sl]
    rw [if_neg fun hh => h e rfl hh.1]

theorem ev_setD {fr : List SV} {dst : Option Nat} {v : SV} {x : Operand} (h : ∀ e, dst = some e → x ≠ .tmp e) : ev (setD fr dst v) x = ev fr x := by
  cases x with
  | tmp t => exact gl_setD fun e he ht => h e he (by rw [ht])
  | _ => rfl

/-- Two operations that make no difference to each other. -/
def Indep (all : List Oper) (c d : Rc) : Prop := Oper.apart all.toArray c.o d.o = true ∧ (∀ i ∈ keys' c.ws, i ∉ d.rd ∧ i ∉ keys' d.ws) ∧ ∀ i ∈ keys' d.ws, i ∉ c.rd

theorem ops_looks {o : Oper} {ops : Array Oper} {x : Operand} {t : Nat} (h : x ∈ o.op.operands.toList) (e : x = .tmp t) : t ∈ Oper.looksAt ops o := by
  subst e
  refine List.mem_append_left _ (List.mem_filterMap.2 ⟨_, h, rfl⟩)

theorem fit_congr {c : Rc} {fr fr' : List SV} {ob ob' : Nat → Ob} (hs : ∀ t ∈ Oper.looksAt all.toArray c.o, gl fr' t = gl fr t) (ho : ∀ i ∈ c.rd, ob' i = ob i) (h : Fit P Cs all c fr ob) : Fit P Cs all c fr' ob' := by
  have hev : ∀ x ∈ c.o.op.operands.toList, ev fr' x = ev fr x := by
    intro x hx
    cases x with
    | tmp t => exact hs t (ops_looks hx rfl)
    | _ => rfl
  have hrd : rdO fr' c.o.op = rdO fr c.o.op := by
    unfold rdO
    rw [idsO_fr _ hev]
  have hst : (∀ i ∈ rdO fr c.o.op, i ∈ c.rd) → stepV P Cs ob' c.nx fr' c.o.op = stepV P Cs ob c.nx fr c.o.op := by
    intro hsub
    rw [stepV_fr hev]
    refine stepV_ob fun hf i hi => ho i (hsub i ?_)
    unfold rdO
    rw [hf]; exact hi
  have hgv : ∀ j want, c.o.guard = some (j, want) → gval all fr' j want = gval all fr j want := by
    intro j want hg
    unfold gval
    cases hj : all[j]? with
    | none => rfl
    | some oj =>
      simp only []
      cases hd : oj.dst with
      | none => rfl
      | some d =>
        simp only []
        rw [hs d]
        refine List.mem_append_right _ ?_
        rw [hg]
        simp [hj, hd]
  unfold Fit at *
  split at h
  · rename_i hg
    obtain ⟨u, h1, h2, h3, h4, h5, h6, h7⟩ := h
    exact ⟨u, by rw [hst h7]; exact h1, h2, h3, h4, h5, h6, by rw [hrd]; exact h7⟩
  · rename_i j want hg
    obtain ⟨g, h0, h⟩ := h
    refine ⟨g, by rw [hgv j want hg]; exact h0, ?_⟩
    rcases h with ⟨u, h1, h2, h3, h4, h5, h6, h7⟩ | ⟨hgt, u, h1, h2, h3, h4, h5, h6, h7⟩ | h
    · exact .inl ⟨u, by rw [hst h7]; exact h1, h2, h3, h4, h5, h6, by rw [hrd]; exact h7⟩
    · exact .inr (.inl ⟨hgt, u, by rw [hst h7]; exact h1, h2, h3, h4, h5, h6, by rw [hrd]; exact h7⟩)
    · exact .inr (.inr h)

theorem sl_comm : ∀ (l : List SV) (i j : Nat) (v u : SV), i ≠ j → sl (sl l i v) j u = sl (sl l j u) i v
  | [], _, _, _, _, _ => rfl
  | x :: l, 0, 0, v, u, h => absurd rfl h
  | x :: l, 0, j + 1, v, u, h => rfl
  | x :: l, i + 1, 0, v, u, h => rfl
  | x :: l, i + 1, j + 1, v, u, h => by simp only [sl_nil, sl_zero, sl_succ]; rw [sl_comm l i j v u (by omega)]

/-- A chain of operations. -/
def Ch (P : Program) (Cs : List Con) (all : List Oper) : List Rc → List SV → (Nat → Ob) → List SV → (Nat → Ob) → Prop
  | [], fr, ob, fr', ob' => fr = fr' ∧ ob = ob'
  | c :: L, fr, ob, fr', ob' => Fit P Cs all c fr ob ∧ Ch P Cs all L (setD fr c.o.dst c.val) (updO ob c.ws) fr' ob'

theorem swap {c d : Rc} {fr : List SV} {ob : Nat → Ob} (hi : Indep all c d) (hc : Fit P Cs all c fr ob) (hd : Fit P Cs all d (setD fr c.o.dst c.val) (updO ob c.ws)) :
    Fit P Cs all d fr ob ∧ Fit P Cs all c (setD fr d.o.dst d.val) (updO ob d.ws) ∧
      setD (setD fr d.o.dst d.val) c.o.dst c.val = setD (setD fr c.o.dst c.val) d.o.dst d.val ∧ updO (updO ob d.ws) c.ws = updO (updO ob c.ws) d.ws := by
  obtain ⟨h0, h1, h2⟩ := hi
  obtain ⟨a1, a2, a3⟩ := Oper.apart_spec h0
  refine ⟨fit_congr (fun t ht => (gl_setD fun e he hte => a1 e he (hte ▸ ht)).symm) (fun i hi => (updO_not c.ws ob i fun hk => (h1 i hk).1 hi).symm) hd,
    fit_congr (fun t ht => gl_setD fun e he hte => a3 e he (hte ▸ ht)) (fun i hi => updO_not d.ws ob i fun hk => h2 i hk hi) hc, ?_, (updO_comm c.ws d.ws ob fun i hi => (h1 i hi).2).symm⟩
  cases hcd : c.o.dst with
  | none => rfl
  | some x =>
    cases hdd : d.o.dst with
    | none => rfl
    | some y =>
      have hne : x ≠ y := fun e => a2 x hcd (by rw [hdd, e])
      exact sl_comm fr y x d.val c.val (Ne.symm hne)

theorem Ch.front {d : Rc} {fr' : List SV} {ob' : Nat → Ob} : ∀ (L1 L2 : List Rc) (fr : List SV) (ob : Nat → Ob), (∀ c ∈ L1, Indep all c d) → Ch P Cs all (L1 ++ d :: L2) fr ob fr' ob' →
    Ch P Cs all (d :: (L1 ++ L2)) fr ob fr' ob'
  | [], _, _, _, _, h => h
  | c :: L1, L2, fr, ob, hi, ⟨hc, h⟩ => by
    obtain ⟨hd, h⟩ := Ch.front L1 L2 _ _ (fun x hx => hi x (List.mem_cons_of_mem _ hx)) h
    obtain ⟨s1, s2, s3, s4⟩ := swap (hi c (List.mem_cons_self ..)) hc hd
    exact ⟨s1, s2, by rw [s3, s4]; exact h⟩

/-- The state of a run amid a region; the objects as a function. -/
def Con2 (P : Program) (G : Ctx) (fr : List SV) (ob : Nat → Ob) (N : Nat) (E : Env) (a : Act) (w : World) : Prop := ∃ hp, ob = fo hp ∧ Conc P G ⟨fr, hp, N⟩ E a w

theorem fit_step {G : Ctx} {c : Rc} {fr : List SV} {ob : Nat → Ob} {N : Nat} {E : Env} {a : Act} {w : World} {K : Act → World → Prop} {B : Exit → Act → World → Prop} (hCs : ∀ c ∈ Cs, c.Ok P) (hf : Fit P Cs all c fr ob)
    (hc : Con2 P G fr ob N E a w) (hfresh : ∀ i, c.nx ≤ i → i < c.hi → ¬ E.born i) (hN : c.hi ≤ N)
    (hK : ∀ a' w' E', Con2 P G (setD fr c.o.dst c.val) (updO ob c.ws) N E' a' w' → (∀ i, E'.born i → E.born i ∨ (c.nx ≤ i ∧ i < c.hi)) → K a' w') :
    if Region.wanted c.o (yielded all.toArray a.tmps) then c.o.wpIn (Fr G.rd) 0 P a w K B else (∀ f, c.o.about P w a.eval = some f → (Fr G.rd).fn f) ∧ K (a.put c.o.dst undef) w := by
  obtain ⟨hp, rfl, hc⟩ := hc
  have fin : ∀ (val : SV) (ws : List (Nat × Ob)) (v : Value) (w' : World) (E' : Env), Mem G E' w' → Evo E E' w w' → (∀ i, E'.ob i = fo (uos hp ws) i) → (∀ i, E'.born i → E.born i ∨ (c.nx ≤ i ∧ i < c.hi)) → SVok E' w' val v →
      c.val = val → c.ws = ws → K (a.put c.o.dst v) w' := by
    intro val ws v w' E' hm hev hob hb hv e1 e2
    obtain ⟨h1, h2⟩ := fr_put (d := c.o.dst) hc.len (fun i => hev.sv (hc.pre.fr i)) hv
    refine hK _ w' E' ⟨uos hp ws, by rw [e2]; exact (updO_fo hp ws).symm, ⟨⟨hm, hob, by rw [e1]; exact h2⟩, fun i hi => ?_, by rw [e1]; exact h1, put_dfr (hc.dfr.evo hev), hc.rd⟩⟩ hb
    rcases hb i hi with hi | hi
    · exact hc.born i hi
    · show i < N
      omega
  obtain ⟨j, ⟨d, op, ty, pos, af, gd⟩, nx, hi, val, ws, rd⟩ := c
  unfold Fit at hf
  split at hf
  · rename_i hg
    obtain ⟨u, h1, h2, h3, h4, h5, h6, _⟩ := hf
    rw [if_pos (by simp only at hg; simp [Region.wanted, hg])]
    have hL := stepV_ok (d := d) (ty := ty) (pos := pos) (af := af) (gd := gd) hc.pre hCs h1 (fun i k1 k2 => hfresh i k1 (by rw [h6]; exact k2)) h2
    exact op_in (stepV_nd h1) <| hL K B fun v w' E' hm hev hob hb hv _ => fin u.val u.ws v w' E' hm hev hob (fun i hi' => (hb i hi').imp id fun k => ⟨k.1, by rw [h6]; exact k.2⟩) hv h4 h5
  · rename_i j' want hg
    obtain ⟨g, h0, hf⟩ := hf
    have hw := gval_ok hc hg h0
    rcases hf with ⟨u, h1, h2, h3, h4, h5, h6, _⟩ | ⟨rfl, u, h1, h2, h3, h4, h5, h6, _⟩ | ⟨rfl, h4, h5, h6⟩
    · cases g
      · rw [if_neg (by rw [hw]; simp)]
        exact ⟨fun _ _ => Fr_fn, fin (.gd false u.val) [] undef w E hc.pre.mem Evo.rfl' hc.pre.ob (fun i hi => .inl hi) ⟨fun h => (by cases h), fun _ => rfl⟩ h4 h5⟩
      · rw [if_pos hw]
        have hL := stepV_ok (d := d) (ty := ty) (pos := pos) (af := af) (gd := gd) hc.pre hCs h1 (fun i k1 k2 => hfresh i k1 (by rw [h6]; exact k2)) (h3 rfl).1
        exact op_in (stepV_nd h1) <| hL K B fun v w' E' hm hev hob hb hv _ => fin (.gd true u.val) [] v w' E' hm hev (by rw [h2] at hob; exact hob) (fun i hi' => (hb i hi').imp id fun k => ⟨k.1, by rw [h6]; exact k.2⟩) ⟨fun _ => hv, fun h => (by cases h)⟩ h4 h5
    · rw [if_pos hw]
      have hL := stepV_ok (d := d) (ty := ty) (pos := pos) (af := af) (gd := gd) hc.pre hCs h1 (fun i k1 k2 => hfresh i k1 (by rw [h6]; exact k2)) h2
      exact op_in (stepV_nd h1) <| hL K B fun v w' E' hm hev hob hb hv _ => fin u.val u.ws v w' E' hm hev hob (fun i hi' => (hb i hi').imp id fun k => ⟨k.1, by rw [h6]; exact k.2⟩) hv h4 h5
    · rw [if_neg (by rw [hw]; simp)]
      exact ⟨fun _ _ => Fr_fn, fin .unk [] undef w E hc.pre.mem Evo.rfl' hc.pre.ob (fun i hi => .inl hi) trivial h4 h5⟩

/-! ### The orders -/
inductive Anc (all : List Oper) : Nat → Nat → Prop
  | dir {j : Nat} {o : Oper} {e : Edge} : all[j]? = some o → e ∈ o.after.toList → Region.binds .any e = true → Anc all j e.on
  | tr {j : Nat} {o : Oper} {e : Edge} {a : Nat} : all[j]? = some o → e ∈ o.after.toList → Region.binds .any e = true → Anc all e.on a → Anc all j a

theorem ancM_ok {tab : List Nat} : ∀ (l : List Edge) (m a : Nat), (ancM tab l m).testBit a = true → m.testBit a = true ∨ ∃ e ∈ l, Region.binds .any e = true ∧ (a = e.on ∨ (tab.getD e.on 0).testBit a = true)
  | [], m, a, h => .inl h
  | e :: l, m, a, h => by
    rcases ancM_ok l _ a h with h | ⟨e', h1, h2⟩
    · cases hb : Region.binds .any e with
      | false => rw [hb] at h; exact .inl h
      | true =>
        rw [hb] at h
        simp only [cond_true, Nat.testBit_or, Bool.or_eq_true, Nat.one_shiftLeft, Nat.testBit_two_pow, decide_eq_true_eq] at h
        rcases h with h | h | h
        · exact .inl h
        · exact .inr ⟨e, List.mem_cons_self .., hb, .inr h⟩
        · exact .inr ⟨e, List.mem_cons_self .., hb, .inl h.symm⟩
    · exact .inr ⟨e', List.mem_cons_of_mem _ h1, h2⟩

theorem ancT_ok : ∀ (l pre : List Oper) (tab : List Nat), all = pre ++ l → pre.length = tab.length → (∀ j a, (tab.getD j 0).testBit a = true → Anc all j a) → ∀ j a, ((ancT l tab).getD j 0).testBit a = true → Anc all j a
  | [], _, _, _, _, h, j, a, ha => h j a ha
  | o :: l, pre, tab, he, hl, h, j, a, ha => by
    simp only [ancT] at ha
    refine ancT_ok l (pre ++ [o]) _ (by rw [he]; simp) (by simp [hl]) (fun j a ha => ?_) j a ha
    rcases Nat.lt_trichotomy j tab.length with hj | hj | hj
    · refine h j a ?_
      simpa [List.getD_eq_getElem?_getD, List.getElem?_append, hj] using ha
    · subst hj
      have ho : all[tab.length]? = some o := by rw [he, ← hl]; simp
      simp only [List.getD_eq_getElem?_getD, List.getElem?_append, Nat.lt_irrefl, if_false, Nat.sub_self, List.getElem?_cons_zero, Option.getD_some] at ha
      rcases ancM_ok _ _ _ ha with ha | ⟨e, he1, hb, he2⟩
      · simp at ha
      · rcases he2 with rfl | he2
        · exact .dir ho he1 hb
        · exact .tr ho he1 hb (h _ _ he2)
    · have : ¬ j < tab.length := by omega
      have h2 : j - tab.length ≠ 0 := by omega
      obtain ⟨m, hm⟩ := Nat.exists_eq_succ_of_ne_zero h2
      simp [List.getD_eq_getElem?_getD, List.getElem?_append, this, hm] at ha

/-- What has come up: with each all that it waits for. -/
def Down (all : List Oper) (listed : Array Bool) : Prop := ∀ (k : Nat) (o : Oper), all[k]? = some o → listed.getD k false = true → ∀ e ∈ o.after.toList, Region.binds .any e = true → listed.getD e.on false = true

theorem anc_listed {listed : Array Bool} (hd : Down all listed) {j a : Nat} (h : Anc all j a) : (∀ o, all[j]? = some o → ∀ e ∈ o.after.toList, Region.binds .any e = true → listed.getD e.on false = true) → listed.getD a false = true := by
  induction h with
  | dir h1 h2 h3 => exact fun hr => hr _ h1 _ h2 h3
  | tr h1 h2 h3 _ ih => exact fun hr => ih fun o ho e he hb => hd _ o ho (hr _ h1 _ h2 h3) e he hb

/-- What is to come. -/
structure Left (all : List Oper) (L : List Rc) (listed : Array Bool) : Prop where
  at' : ∀ c ∈ L, all[c.j]? = some c.o
  un : ∀ j, listed.getD j true = false ↔ ∃ c ∈ L, c.j = j
  lt : L.Pairwise fun c d => c.j < d.j
  ind : L.Pairwise fun c d => Anc all d.j c.j ∨ Indep all c d
  ids : L.Pairwise fun c d => c.hi ≤ d.nx
  down : Down all listed
  lex : ∀ (j : Nat) o, all[j]? = some o → ∀ e ∈ o.after.toList, Region.binds .any e = true → e.on < j
  size : listed.size = all.length

theorem getD_tf {listed : Array Bool} {j : Nat} (h : listed.getD j true = false) : listed.getD j false = false := by
  rcases Nat.lt_or_ge j listed.size with h' | h'
  · simp [h'] at h ⊢; exact h
  · simp [Array.getElem?_eq_none h'] at h

theorem any_ok {G : Ctx} {Q : Exit → Act → World → Prop} {N : Nat} {fr' : List SV} {ob' : Nat → Ob} (hCs : ∀ c ∈ Cs, c.Ok P) (hQ : ∀ E a w, Con2 P G fr' ob' N E a w → Q .normal a w) :
    ∀ (fuel : Nat) (L : List Rc) (listed : Array Bool) (fr : List SV) (ob : Nat → Ob) (E : Env) (a : Act) (w : World), L.length ≤ fuel → Left all L listed → Ch P Cs all L fr ob fr' ob' → Con2 P G fr ob N E a w →
      (∀ c ∈ L, (∀ i, c.nx ≤ i → i < c.hi → ¬ E.born i) ∧ c.hi ≤ N ∧ c.nx ≤ c.hi) → wpAnyIn (Fr G.rd) 0 P .any all.toArray Q fuel listed a w := by
  have hnil : ∀ (L : List Rc) (listed : Array Bool), Left all L listed → Region.ready .any all.toArray listed = [] → L = [] := by
    intro L listed hl hr
    cases L with
    | nil => rfl
    | cons c L =>
      exfalso
      have hat := hl.at' c (List.mem_cons_self ..)
      have : c.j ∈ Region.ready .any all.toArray listed := by
        refine mem_ready.2 ⟨(hl.un c.j).2 ⟨c, List.mem_cons_self .., rfl⟩, c.o, by simpa using hat, fun e he hb => ?_⟩
        have hlt := hl.lex c.j c.o hat e (by simpa using he) hb
        have hsz : c.j < all.length := (List.getElem?_eq_some_iff.1 hat).1
        have hin : e.on < listed.size := by rw [hl.size]; omega
        cases hv : listed.getD e.on false with
        | true => rfl
        | false =>
          exfalso
          have hv' : listed.getD e.on true = false := by simp [hin] at hv ⊢; exact hv
          obtain ⟨d, hd, hdj⟩ := (hl.un e.on).1 hv'
          rcases List.mem_cons.1 hd with rfl | hd
          · omega
          · have := List.rel_of_pairwise_cons hl.lt hd
            omega
      rw [hr] at this; cases this
  have hend : ∀ (L : List Rc) (listed : Array Bool) (fr : List SV) (ob : Nat → Ob) (E : Env) (a : Act) (w : World), Left all L listed → Ch P Cs all L fr ob fr' ob' → Con2 P G fr ob N E a w → Region.ready .any all.toArray listed = [] → Q .normal a w := by
    intro L listed fr ob E a w hl hch hc hr
    have := hnil L listed hl hr
    subst this
    obtain ⟨rfl, rfl⟩ := hch
    exact hQ E a w hc
  intro fuel
  induction fuel with
  | zero =>
    intro L listed fr ob E a w hlen hl hch hc hids
    have hL : L = [] := by cases L with
      | nil => rfl
      | cons c L => simp at hlen
    have hr : Region.ready .any all.toArray listed = [] := by
      refine List.eq_nil_iff_forall_not_mem.2 fun j hj => ?_
      obtain ⟨h0, _⟩ := mem_ready.1 hj
      obtain ⟨c, hcm, _⟩ := (hl.un j).1 h0
      rw [hL] at hcm; cases hcm
    exact ⟨hr, hend L listed fr ob E a w hl hch hc hr⟩
  | succ fuel ih =>
    intro L listed fr ob E a w hlen hl hch hc hids
    refine ⟨hend L listed fr ob E a w hl hch hc, fun j hj => ?_⟩
    obtain ⟨h0, o, ho, hall⟩ := mem_ready.1 hj
    obtain ⟨d, hdm, hdj⟩ := (hl.un j).1 h0
    obtain ⟨L1, L2, rfl⟩ := List.append_of_mem hdm
    have hat := hl.at' d hdm
    have hoo : o = d.o := by
      rw [hdj] at hat
      have : all[j]? = some o := by simpa using ho
      rw [this] at hat; exact Option.some.inj hat
    have hind : ∀ c ∈ L1, Indep all c d := by
      intro c hc1
      have h1 := List.pairwise_append.1 hl.ind
      rcases h1.2.2 c hc1 d (List.mem_cons_self ..) with hanc | hi
      · exfalso
        have hls := anc_listed hl.down hanc fun o' ho' e he hb => by
          have : o' = o := by rw [hat] at ho'; rw [hoo]; exact (Option.some.inj ho').symm
          subst this
          exact hall e (by simpa using he) hb
        have hcu := (hl.un c.j).2 ⟨c, List.mem_append_left _ hc1, rfl⟩
        rw [getD_tf hcu] at hls; cases hls
      · exact hi
    obtain ⟨hfit, hch'⟩ := Ch.front L1 L2 fr ob hind hch
    have hsub : List.Sublist (L1 ++ L2) (L1 ++ d :: L2) := List.Sublist.append_left (List.sublist_cons_self d L2) L1
    have hd3 := hids d hdm
    have hjlt : j < listed.size := by
      rcases Nat.lt_or_ge j listed.size with h' | h'
      · exact h'
      · simp [Array.getElem?_eq_none h'] at h0
    have hjn : ∀ c ∈ L1 ++ L2, c.j ≠ j := by
      intro c hc1
      have h1 := List.pairwise_append.1 hl.lt
      rcases List.mem_append.1 hc1 with hc1 | hc1
      · have := h1.2.2 c hc1 d (List.mem_cons_self ..); omega
      · have := List.rel_of_pairwise_cons h1.2.1 hc1; omega
    have hleft : Left all (L1 ++ L2) (listed.setIfInBounds j true) := by
      refine ⟨fun c hc1 => hl.at' c (hsub.subset hc1), fun k => ?_, hl.lt.sublist hsub, hl.ind.sublist hsub, hl.ids.sublist hsub, fun k o' hk hkl e he hb => ?_, hl.lex, by simp [hl.size]⟩
      · by_cases hkj : j = k
        · subst hkj
          simp only [Array.getD_eq_getD_getElem?, Array.getElem?_setIfInBounds, hjlt, if_true, Option.getD_some]
          exact ⟨fun h => (by cases h), fun ⟨c, h1, h2⟩ => absurd h2 (hjn c h1)⟩
        · rw [getD_set_ne true hkj, hl.un k]
          constructor
          · rintro ⟨c, h1, h2⟩
            rcases List.mem_append.1 h1 with h1 | h1
            · exact ⟨c, List.mem_append_left _ h1, h2⟩
            · rcases List.mem_cons.1 h1 with rfl | h1
              · exact absurd (hdj.symm.trans h2) hkj
              · exact ⟨c, List.mem_append_right _ h1, h2⟩
          · rintro ⟨c, h1, h2⟩
            exact ⟨c, hsub.subset h1, h2⟩
      · by_cases hkj : j = k
        · subst hkj
          have : o' = o := by
            have : all[j]? = some o := by simpa using ho
            rw [this] at hk; exact (Option.some.inj hk).symm
          subst this
          exact getD_set_true (hall e (by simpa using he) hb)
        · rw [getD_set_ne false hkj] at hkl
          exact getD_set_true (hl.down k o' hk hkl e he hb)
    have hstep := fit_step (K := wpAnyIn (Fr G.rd) 0 P .any all.toArray Q fuel (listed.setIfInBounds j true)) (B := Q) hCs hfit hc hd3.1 hd3.2.1 fun a' w' E' hc' hb' => by
      refine ih (L1 ++ L2) _ _ _ E' a' w' ?_ hleft hch' hc' fun c hc1 => ?_
      · simp at hlen ⊢; omega
      · have h3 := hids c (hsub.subset hc1)
        refine ⟨fun i k1 k2 hbi => ?_, h3.2⟩
        rcases hb' i hbi with hbi | ⟨k3, k4⟩
        · exact h3.1 i k1 k2 hbi
        · have h1 := List.pairwise_append.1 hl.ids
          rcases List.mem_append.1 hc1 with hc1 | hc1
          · have := h1.2.2 c hc1 d (List.mem_cons_self ..); omega
          · have := List.rel_of_pairwise_cons h1.2.1 hc1; omega
    show wpOpIn (Fr G.rd) 0 P all.toArray Q j _ a w
    unfold wpOpIn
    have ho2 : all.toArray[j]? = some d.o := by rw [← hoo]; exact ho
    simp only [ho2]
    split
    · rename_i hw
      rw [if_pos hw] at hstep
      exact hstep
    · rename_i hw
      rw [if_neg hw] at hstep
      exact hstep

end
end
end Go.Proofs.YtaoplfeohffbiaaGreatDoor.Sx

/-! Regions that draw their order, and the run of a whole body. -/
namespace Go.Proofs.YtaoplfeohffbiaaGreatDoor.Sx
set_option linter.unusedSimpArgs false
set_option linter.unusedVariables false
set_option linter.unusedSectionVars false
noncomputable section

theorem wp_ex {P : Program} {o : Oper} {a : Act} {w : World} {K : Act → World → Prop} (h : o.wp P a w K (fun _ _ _ => False)) : ∃ a' w', K a' w' := by
  unfold Oper.wp at h
  generalize (execOp a.eval o).run P w = r at h
  cases r with
  | ok n w' =>
    cases n <;> simp only [Oper.upon] at h
    case value v => exact ⟨_, _, h⟩
    case skip => exact ⟨_, _, h⟩
    case defer d => exact ⟨_, _, h⟩
    case enter f args =>
      obtain ⟨e, w'', fr, hR, _⟩ := h []
      cases e with
      | returned v => exact ⟨_, _, hR⟩
      | panicked c => exact hR.elim
      | outgrown => obtain ⟨_, _, hh⟩ := hR; exact hh.elim
    case row row args =>
      obtain ⟨v, w'', hR, _⟩ := h default []
      exact ⟨_, _, hR⟩
  | halt x w' => cases x <;> simp only [Oper.upon] at h

section
variable {P : Program} {Cs : List Con} {G : Ctx} {all : List Oper}

theorem keys'_nil_iff (ws : List (Nat × Ob)) : keys' [] = ([] : List Nat) := rfl

/-- The lexical run holds of the machine: so what its operations give is true; the chain of them. -/
theorem runD_chain (hCs : ∀ c ∈ Cs, c.Ok P) {Q : List (List Nat × List Nat) → St → Prop} : ∀ (l : List Oper) (n : Nat) (recs : List (List Nat × List Nat)) (st : St) (E : Env) (a : Act) (w : World),
    runD P Cs all Q recs l st → Conc P G st E a w → ∃ L st', Q (recs ++ L.map fun c => (c.rd, keys' c.ws)) st' ∧ L.map (·.o) = l ∧ L.map (·.j) = List.range' n l.length ∧ Ch P Cs all L st.fr (fo st.hp) st'.fr (fo st'.hp) ∧
      L.Pairwise (fun c d => c.hi ≤ d.nx) ∧ (∀ c ∈ L, st.nx ≤ c.nx ∧ c.nx ≤ c.hi ∧ c.hi ≤ st'.nx) ∧ st.nx ≤ st'.nx := by
  intro l
  induction l with
  | nil => exact fun n recs st E a w h hc => ⟨[], st, by simp only [List.map_nil, List.append_nil]; exact h, rfl, rfl, ⟨rfl, rfl⟩, List.Pairwise.nil, fun c hc => (by cases hc), Nat.le_refl _⟩
  | cons o l ih =>
    intro n recs st E a w h hc
    -- what one step adds
    have step : ∀ (c : Rc) (hp' : List (Nat × Ob)) (E' : Env) (a' : Act) (w' : World), c.j = n → c.o = o → c.nx = st.nx → c.nx ≤ c.hi → fo hp' = updO (fo st.hp) c.ws → Fit P Cs all c st.fr (fo st.hp) →
        Conc P G ⟨setD st.fr o.dst c.val, hp', c.hi⟩ E' a' w' → runD P Cs all Q (recs ++ [(c.rd, keys' c.ws)]) l ⟨setD st.fr o.dst c.val, hp', c.hi⟩ →
        ∃ L st', Q (recs ++ L.map fun c => (c.rd, keys' c.ws)) st' ∧ L.map (·.o) = o :: l ∧ L.map (·.j) = List.range' n (o :: l).length ∧ Ch P Cs all L st.fr (fo st.hp) st'.fr (fo st'.hp) ∧
          L.Pairwise (fun c d => c.hi ≤ d.nx) ∧ (∀ c ∈ L, st.nx ≤ c.nx ∧ c.nx ≤ c.hi ∧ c.hi ≤ st'.nx) ∧ st.nx ≤ st'.nx := by
      intro c hp' E' a' w' h1 h2 h3 h4 h5 hf hc' hr
      obtain ⟨L, st', k1, k2, k3, k4, k5, k6, k7⟩ := ih (n + 1) _ _ E' a' w' hr hc'
      simp only at k4 k6 k7
      refine ⟨c :: L, st', by simpa using k1, by simp [k2, h2], by simp [k3, h1, List.range'_succ], ⟨hf, ?_⟩, List.pairwise_cons.2 ⟨fun d hd => (k6 d hd).1, k5⟩, fun d hd => ?_, by omega⟩
      · rw [h2, ← h5]; exact k4
      · rcases List.mem_cons.1 hd with rfl | hd
        · omega
        · have := k6 d hd; omega
    obtain ⟨d, op, ty, pos, af, gd⟩ := o
    simp only [runD] at h
    have takeV : ∀ (u : Up), stepV P Cs (fo st.hp) st.nx st.fr op = some u → u.owe → ∃ E' a' w', Conc P G ⟨setD st.fr d u.val, uos st.hp u.ws, u.hi⟩ E' a' w' ∧ u.gives ∧ ∀ (g : Bool), g = true → u.ws = [] → Conc P G ⟨setD st.fr d (.gd g u.val), st.hp, u.hi⟩ E' a' w' := by
      intro u hu howe
      have hhi := stepV_hi hu
      have hL := stepV_ok (d := d) (ty := ty) (pos := pos) (af := af) (gd := gd) hc.pre hCs hu (fun i hi _ hb => by have := hc.born i hb; omega) howe
      obtain ⟨a', w', E', hK⟩ := wp_ex (hL (fun a' w' => ∃ E', Conc P G ⟨setD st.fr d u.val, uos st.hp u.ws, u.hi⟩ E' a' w' ∧ u.gives ∧ ∀ (g : Bool), g = true → u.ws = [] → Conc P G ⟨setD st.fr d (.gd g u.val), st.hp, u.hi⟩ E' a' w')
        (fun _ _ _ => False) fun v w' E' hm hev hob hb hv hgv => ⟨E', hc.behind hm hev hob hb hv hhi, hgv, fun g hg hws => hc.behind hm hev (by rw [hws] at hob; exact hob) hb (X := .gd g u.val) ⟨fun _ => hv, fun h0 => (by rw [hg] at h0; cases h0)⟩ hhi⟩)
      exact ⟨E', a', w', hK⟩
    split at h
    · rename_i hno
      split at h
      · split at h
        · exact h.elim
        · rename_i u hy
          have hu : stepV P Cs (fo st.hp) st.nx st.fr op = some u := by unfold stepV; rw [hno]; exact hy
          obtain ⟨E', a', w', hc', hgv, _⟩ := takeV u hu h.1
          exact step ⟨n, ⟨d, op, ty, pos, af, none⟩, st.nx, u.hi, u.val, u.ws, rdO st.fr op⟩ _ E' a' w' rfl rfl rfl (stepV_hi hu) (updO_fo _ _) (by unfold Fit; exact ⟨u, hu, h.1, hgv, rfl, rfl, rfl, fun i hi => hi⟩) hc' (h.2 hgv)
      · rename_i j want
        split at h
        · exact h.elim
        · rename_i g hv
          obtain ⟨rfl, h⟩ := h
          have hc' := hc.behind (d := d) (v := undef) hc.pre.mem Evo.rfl' hc.pre.ob (fun i hi => .inl hi) (X := .unk) trivial (Nat.le_refl _)
          exact step ⟨n, ⟨d, op, ty, pos, af, some (j, want)⟩, st.nx, st.nx, .unk, [], []⟩ _ E _ w rfl rfl rfl (Nat.le_refl _) rfl
            (by unfold Fit; exact ⟨false, hv, .inr (.inr ⟨rfl, rfl, rfl, rfl⟩)⟩) hc' h
    · rename_i u hu0
      have hu : stepV P Cs (fo st.hp) st.nx st.fr op = some u := by unfold stepV; rw [hu0]
      have hhi := stepV_hi hu
      have take := takeV u hu
      split at h
      · obtain ⟨E', a', w', hc', hgv, _⟩ := take h.1
        exact step ⟨n, ⟨d, op, ty, pos, af, none⟩, st.nx, u.hi, u.val, u.ws, rdO st.fr op⟩ _ E' a' w' rfl rfl rfl hhi (updO_fo _ _) (by unfold Fit; exact ⟨u, hu, h.1, hgv, rfl, rfl, rfl, fun i hi => hi⟩) hc' (h.2 hgv)
      · rename_i j want
        split at h
        · exact h.elim
        · rename_i g hv
          split at h
          · rename_i hws
            cases g
            · have hc' := hc.behind (d := d) (v := undef) hc.pre.mem Evo.rfl' hc.pre.ob (fun i hi => .inl hi) (X := .gd false u.val) ⟨fun h0 => (by cases h0), fun _ => rfl⟩ hhi
              exact step ⟨n, ⟨d, op, ty, pos, af, some (j, want)⟩, st.nx, u.hi, .gd false u.val, [], rdO st.fr op⟩ _ E _ w rfl rfl rfl hhi rfl
                (by unfold Fit; exact ⟨false, hv, .inl ⟨u, hu, hws, fun h0 => (by cases h0), rfl, rfl, rfl, fun i hi => hi⟩⟩) hc' (h.2 fun h0 => (by cases h0))
            · obtain ⟨E', a', w', _, hgv, hc'⟩ := take (h.1 rfl)
              exact step ⟨n, ⟨d, op, ty, pos, af, some (j, want)⟩, st.nx, u.hi, .gd true u.val, [], rdO st.fr op⟩ _ E' a' w' rfl rfl rfl hhi rfl
                (by unfold Fit; exact ⟨true, hv, .inl ⟨u, hu, hws, fun _ => ⟨h.1 rfl, hgv⟩, rfl, rfl, rfl, fun i hi => hi⟩⟩) (hc' true rfl hws) (h.2 fun _ => hgv)
          · cases g
            · have hc' := hc.behind (d := d) (v := undef) hc.pre.mem Evo.rfl' hc.pre.ob (fun i hi => .inl hi) (X := .unk) trivial (Nat.le_refl _)
              exact step ⟨n, ⟨d, op, ty, pos, af, some (j, want)⟩, st.nx, st.nx, .unk, [], []⟩ _ E _ w rfl rfl rfl (Nat.le_refl _) rfl
                (by unfold Fit; exact ⟨false, hv, .inr (.inr ⟨rfl, rfl, rfl, rfl⟩)⟩) hc' (h.2 rfl)
            · obtain ⟨howe, h⟩ := h.1 rfl
              obtain ⟨E', a', w', hc', hgv, _⟩ := take howe
              exact step ⟨n, ⟨d, op, ty, pos, af, some (j, want)⟩, st.nx, u.hi, u.val, u.ws, rdO st.fr op⟩ _ E' a' w' rfl rfl rfl hhi (updO_fo _ _)
                (by unfold Fit; exact ⟨true, hv, .inr (.inl ⟨rfl, u, hu, howe, hgv, rfl, rfl, rfl, fun i hi => hi⟩)⟩) hc' (h hgv)

theorem lexT_ok : ∀ (l : List Oper) (n : Nat), lexT l n = true → ∀ (j : Nat) o, l[j]? = some o → ∀ e ∈ o.after.toList, Region.binds .any e = true → e.on < n + j
  | [], _, _, j, o, h, _, _, _ => by simp at h
  | x :: l, n, h, j, o, ho, e, he, hb => by
    simp only [lexT, Bool.and_eq_true, List.all_eq_true] at h
    cases j with
    | zero =>
      simp at ho
      subst ho
      have := h.1 e he
      rw [hb] at this
      simpa [Nat.blt_eq] using this
    | succ j =>
      have := lexT_ok l (n + 1) h.2 j o (by simpa using ho) e he hb
      omega

theorem Evo.heap {E : Env} {w w' : World} (h : w'.heap = w.heap) : Evo E E w w' :=
  ⟨fun _ h => h, (Evo.rfl' (E := E) (w := w)).keep, fun _ _ h => h, fun _ _ _ => by rw [h], fun b cs T fz hb => ⟨cs, fz, by rw [h]; exact hb, rfl⟩, by rw [h]; exact Nat.le_refl _, rfl, fun b y hy => by rw [h, hy]; exact OthK.same⟩

theorem Conc.heap {st : St} {E : Env} {a : Act} {w w' : World} (hc : Conc P G st E a w) (h : w'.heap = w.heap) (h1 : w'.os = w.os) (h2 : w'.tape = w.tape) (h3 : w'.output = w.output) : Conc P G st E a w' := by
  have hev : Evo E E w w' := .heap h
  have m := hc.pre.mem
  exact ⟨⟨m.step hev (fun _ => False) (fun o ho _ => ⟨ho, rfl, rfl, fun _ _ _ _ => by rw [h]⟩) (fun o ho => ho.elim) m.unb m.sep m.new h1 h2 h3 (fun b _ _ => by rw [h]), hc.pre.ob, fun i => hev.sv (hc.pre.fr i)⟩, hc.born, hc.len, hc.dfr.evo hev, hc.rd⟩

theorem disj_ok {l m : List Nat} (h : disj l m = true) : ∀ i ∈ l, i ∉ m := by
  intro i hi hm
  have := List.all_eq_true.1 h i hi
  simp [hm] at this

/-- A REGION THAT DRAWS ITS ORDER, as if it were carried out in the order of its text. -/
theorem Ok.drawn {B : Exit → Act → World → Prop} (hCs : ∀ c ∈ Cs, c.Ok P) {id : Nat} {ops : Array Oper} {k : List It} {st : St} (hsta : staB P ops = true)
    (h : runD P Cs ops.toList (fun recs st' => dynB ops recs = true ∧ Ok P G B k st') [] ops.toList st) : Ok P G B (.c (.region id ops true) :: k) st := by
  intro E a w hc
  simp only [staB, Bool.and_eq_true, List.all_eq_true, List.mem_range, Bool.or_eq_true] at hsta
  obtain ⟨⟨hm, hlex⟩, hst⟩ := hsta
  obtain ⟨L, st', ⟨hdyn, hok⟩, k2, k3, k4, k5, k6, k7⟩ := runD_chain hCs ops.toList 0 [] st E a w h hc
  simp only [List.nil_append] at hdyn
  simp only [dynB, List.all_eq_true, List.mem_range, Bool.or_eq_true] at hdyn
  have hlen : L.length = ops.size := by
    have := congrArg List.length k2
    simpa using this
  have hj : ∀ i (hi : i < L.length), L[i].j = i := by
    intro i hi
    have : (L.map (·.j))[i]? = some i := by
      have hi' : i < ops.toList.length := by simpa [← hlen] using hi
      rw [k3, List.getElem?_eq_getElem (by simpa using hi')]; simp
    simpa [hi] using this
  have ho : ∀ i (hi : i < L.length), ops[i]? = some L[i].o := by
    intro i hi
    have : (L.map (·.o))[i]? = ops.toList[i]? := by rw [k2]
    simp [hi] at this
    rw [← this]
  have hanc : ∀ j a, ((ancT ops.toList []).getD j 0).testBit a = true → Anc ops.toList j a := ancT_ok ops.toList [] [] rfl rfl fun j a ha => by simp at ha
  have hleft : Left ops.toList L (Array.replicate ops.size false) := by
    refine ⟨fun c hcm => ?_, fun j => ?_, ?_, ?_, k5, fun k o hk hkl => ?_, fun j o hjo e he hb => ?_, by simp⟩
    · obtain ⟨i, hi, rfl⟩ := List.mem_iff_getElem.1 hcm
      rw [hj i hi]
      simpa using ho i hi
    · constructor
      · intro hjl
        have hlt : j < ops.size := by
          rcases Nat.lt_or_ge j ops.size with h' | h'
          · exact h'
          · simp [h'] at hjl
        exact ⟨L[j], List.getElem_mem _, hj j (by omega)⟩
      · rintro ⟨c, hcm, rfl⟩
        obtain ⟨i, hi, rfl⟩ := List.mem_iff_getElem.1 hcm
        rw [hj i hi]
        rw [hlen] at hi
        simp [hi]
    · refine List.pairwise_iff_getElem.2 fun i j hi hj' hij => ?_
      rw [hj i hi, hj j hj']; exact hij
    · refine List.pairwise_iff_getElem.2 fun i j hi hj' hij => ?_
      rw [hj i hi, hj j hj']
      have hjs : j < ops.size := by omega
      rcases hst j hjs i hij with h1 | h1
      · exact .inl (hanc j i h1)
      · rcases hdyn j hjs i hij with h2 | h2
        · exact .inl (hanc j i h2)
        · refine .inr ⟨?_, ?_⟩
          · rw [ho i hi, ho j hj'] at h1
            rw [Array.toArray_toList]
            exact h1
          · have e1 : (L.map fun c => (c.rd, keys' c.ws))[i]? = some (L[i].rd, keys' L[i].ws) := by simp [hi]
            have e2 : (L.map fun c => (c.rd, keys' c.ws))[j]? = some (L[j].rd, keys' L[j].ws) := by simp [hj']
            rw [e1, e2] at h2
            simp only [Bool.and_eq_true] at h2
            exact ⟨fun x hx => ⟨disj_ok h2.1.1 x hx, disj_ok h2.1.2 x hx⟩, disj_ok h2.2⟩
    · exfalso
      rcases Nat.lt_or_ge k ops.size with h' | h'
      · simp [h'] at hkl
      · have hks : k < ops.toList.length := (List.getElem?_eq_some_iff.1 hk).1
        simp at hks
        omega
    · have := lexT_ok ops.toList 0 hlex j o hjo e he hb
      omega
  have hc' : Conc P G st E a { w with drawn := w.drawn + 1 } := hc.heap rfl rfl rfl rfl
  have hc2 : Con2 P G st.fr (fo st.hp) st'.nx E a { w with drawn := w.drawn + 1 } := ⟨st.hp, rfl, hc'.pre, fun i hi => Nat.lt_of_lt_of_le (hc.born i hi) k7, hc'.len, hc'.dfr, hc'.rd⟩
  have hany := any_ok (all := ops.toList) (Q := kont P G B k) hCs (fun E a w ⟨hp, e, hcc⟩ => hok E a w ⟨⟨hcc.pre.mem, fun i => by rw [e]; exact hcc.pre.ob i, hcc.pre.fr⟩, hcc.born, hcc.len, hcc.dfr, hcc.rd⟩)
    ops.size L (Array.replicate ops.size false) st.fr (fo st.hp) E a _ (by omega) hleft k4 hc2 fun c hcm => by
      have := k6 c hcm
      exact ⟨fun i h1 h2 hb => by have := hc.born i hb; omega, this.2.2, this.2.1⟩
  rw [Array.toArray_toList] at hany
  exact wpIn_region_any hm hany

end

section
variable {P : Program} {Cs : List Con} {G : Ctx} {B : Exit → Act → World → Prop}

theorem runD_mono {all : List Oper} {Q Q' : List (List Nat × List Nat) → St → Prop} (hQ : ∀ r s, Q r s → Q' r s) : ∀ (l : List Oper) (recs : List (List Nat × List Nat)) (st : St), runD P Cs all Q recs l st → runD P Cs all Q' recs l st
  | [], recs, st, h => hQ _ _ h
  | o :: l, recs, st, h => by
    simp only [runD] at h ⊢
    split at h
    · split at h
      · split at h
        · exact h.elim
        · exact ⟨h.1, fun hg => runD_mono hQ l _ _ (h.2 hg)⟩
      · split at h
        · exact h.elim
        · exact ⟨h.1, runD_mono hQ l _ _ h.2⟩
    · split at h
      · exact ⟨h.1, fun hg => runD_mono hQ l _ _ (h.2 hg)⟩
      · split at h
        · exact h.elim
        · split at h
          · exact ⟨h.1, fun hg => runD_mono hQ l _ _ (h.2 hg)⟩
          · exact ⟨fun hg => ⟨(h.1 hg).1, fun hg' => runD_mono hQ l _ _ ((h.1 hg).2 hg')⟩, fun hg => runD_mono hQ l _ _ (h.2 hg)⟩


end
end
end Go.Proofs.YtaoplfeohffbiaaGreatDoor.Sx

/-! A callee's body run within the caller's state. -/
namespace Go.Proofs.YtaoplfeohffbiaaGreatDoor.Sx
set_option linter.unusedSimpArgs false
set_option linter.unusedVariables false
set_option linter.unusedSectionVars false
noncomputable section

section
variable {P : Program} {Cs : List Con} {G : Ctx} {B : Exit → Act → World → Prop}

theorem results_run {fn : Func} {a : Act} {vs : List Value} {w : World} (hv1 : (fn.results.toList.mapM (rv a.tmps)).run P w = .ok vs w) :
    (results fn a.tmps).run P w = .ok (if hs : vs.toArray.size = 1 then vs.toArray[0] else .tuple vs.toArray) w := by
  have h0 : results fn a.tmps = (do let us ← fn.results.mapM (rv a.tmps); pure (if h : us.size = 1 then us[0] else .tuple us)) := by
    unfold results
    congr 1
  have h1' : (fn.results.mapM (rv a.tmps)).run P w = .ok vs.toArray w := by
    rw [Array.mapM_eq_mapM_toList]
    simp [hv1]
  rw [h0]
  simp only [Sem.run_bind, h1', Result.andThen_ok, Sem.run_pure]

theorem pbs_at : ∀ (l : List (Nat × Nat)) (i : Nat), gl (pbs l) i = match l[i]? with | some (o, f) => .s (.pb o f) | none => .unk
  | [], _ => rfl
  | (o, f) :: l, 0 => rfl
  | (o, f) :: l, i + 1 => by simpa [pbs, gl_nil, gl_zero, gl_succ] using pbs_at l i

theorem pbs_len : ∀ (l : List (Nat × Nat)), (pbs l).length = l.length
  | [] => rfl
  | (o, f) :: l => by simp [pbs, pbs_len l]

theorem gl_get : ∀ (l : List SV) (i : Nat) (x : SV), l[i]? = some x → gl l i = x
  | [], i, x, h => by simp at h
  | y :: l, 0, x, h => by simpa [gl_nil, gl_zero, gl_succ] using h
  | y :: l, i + 1, x, h => gl_get l i x (by simpa using h)

theorem fnV_ok {E : Env} {w : World} {u v : Value} (h : Rd E.owned w .opq [v] u) : S1ok E w (fnV u) v := by
  unfold fnV
  split
  · rename_i g xs ys
    cases hb : (Nat.beq xs.size 0 && Nat.beq ys.size 0) with
    | false => exact h
    | true =>
      simp only [Bool.and_eq_true] at hb
      obtain rfl : xs = #[] := Array.eq_empty_of_size_eq_zero (Nat.eq_of_beq_eq_true hb.1)
      obtain rfl : ys = #[] := Array.eq_empty_of_size_eq_zero (Nat.eq_of_beq_eq_true hb.2)
      obtain ⟨e, _⟩ := h
      cases e
      exact ⟨[], rfl, rfl, fun i o off hi => by simp at hi⟩
  · exact h
theorem fnS_ok {E : Env} {w : World} {x : SV} {v : Value} (h : SVok E w x v) : SVok E w (fnS x) v := by
  unfold fnS
  split
  · exact fnV_ok h
  · exact h

/-- A call that is run by its body, as one operation. -/
theorem inline_gen {R : SV → List (Nat × Ob) → Nat → Prop} {o : Oper} {st : St} {c : Call} {f : Operand} {g : FuncId} {caps : List (Nat × Nat)} {fn : Func} {code : Code} (hop : o.op = .call c) (hcal : c.callee = .value f)
    (hfv : fnS (pkV (ev st.fr f)) = .s (.fn g caps)) (hpk : pkP (ev st.fr f) ∧ pkPs st.fr c.args.toList) (hbx : boxes (fo st.hp) caps = true)
    (hf : P.funcs[g]? = some fn) (hb : fn.body = some code) (hn : fn.name ≠ "runtime.NumGoroutine") (hsz : c.args.size + caps.length ≤ fn.ntmps)
    (h : ∀ (G' : Ctx) (B' : Exit → Act → World → Prop), (∀ p ∈ G'.sus, (∃ i, p.1 = gl st.fr i) ∨ p ∈ G.sus) → (G'.rds = G.rds ∧ G'.core = G.core) → (∀ st2 E2 a2 w2, RetI P fn.results.toList R st2 → Conc P G' st2 E2 a2 w2 → B' .ret a2 w2 ∧ B' .normal a2 w2) →
      Ok P G' B' [.c code] ⟨appSV (pkVs st.fr c.args.toList) (appSV (pbs caps) (unks (fn.ntmps - (c.args.size + caps.length)))), st.hp, st.nx⟩)
    {E : Env} {a : Act} {w : World} (hc : Conc P G st E a w) {K : Act → World → Prop} {Q : Exit → Act → World → Prop} (hK : ∀ v hp nx E a w, R v hp nx → Conc P G ⟨setD st.fr o.dst v, hp, nx⟩ E a w → K a w) : o.wpIn (Fr G.rd) 0 P a w K Q := by
  have hfe := fnS_ok (hc.pre.pk hpk.1)
  rw [hfv] at hfe
  obtain ⟨cvs, e1, e2, e3⟩ := hfe
  obtain ⟨d, op, ty, pos, af, gd⟩ := o
  simp only at hop
  subst hop
  obtain ⟨callee, args, ats⟩ := c
  simp only at hcal hpk hsz h
  subst hcal
  have hrun : (execOp a.eval ⟨d, .call { callee := .value f, args := args, argTypes := ats }, ty, pos, af, gd⟩).run P w = .ok (.enter g (args.map a.eval ++ cvs.toArray)) w := by
    have hcf : ∀ as w, (callFunc g as).run P w = .ok (.enter g as) w := fun as w => by
      have : ¬ fn.name = "runtime.NumGoroutine" := hn
      simp [callFunc, hf, hb, this]
    simp [execOp, resolve, e1, Deferred.ofValue, invoke, hcf]
  refine op_in (fun c' e => by cases e) ?_
  unfold Oper.wp
  rw [hrun, Oper.upon_enter]
  refine (callsIn_fr (r := none) (n := 0)).1 (callsIn_of_wp_marks hf hb trivial ?_ rfl)
  obtain ⟨bs, hde, hnd, hbs⟩ := hc.dfr
  let G' : Ctx := { G with sus := ((List.range st.fr.length).map fun i => (gl st.fr i, a.tmps.getD i undef)) ++ G.sus, rd := none, mrk := bs ++ G.mrk }
  obtain ⟨hal, hav⟩ := pkVs_ok hc.pre args.toList hpk.2
  have hbx' := boxes_ok hc.pre.ob caps hbx
  refine h G' _ ?_ ⟨rfl, rfl⟩ (fun st2 E2 a2 w2 hr hc2 => ?_) E _ w ⟨⟨⟨hc.pre.mem.hp, hc.pre.mem.unb, hc.pre.mem.sep, hc.pre.mem.new, hc.pre.mem.bad, hc.pre.mem.bd, hc.pre.mem.os, hc.pre.mem.tape, hc.pre.mem.output, hc.pre.mem.size, hc.pre.mem.old, ?_, hc.pre.mem.rdk, ?_, hc.pre.mem.gl, hc.pre.mem.ev⟩, hc.pre.ob, fun i => ?_⟩, hc.born, ?_, ⟨[], rfl, hnd, fun b hb => (by cases hb)⟩, fun p hp => (by cases hp)⟩
  · intro p hp
    rcases List.mem_append.1 hp with hp | hp
    · obtain ⟨i, _, rfl⟩ := List.mem_map.1 hp
      exact .inl ⟨i, rfl⟩
    · exact .inr hp
  · unfold RetI at hr
    split at hr
    · rename_i p cs hrv
      obtain ⟨hp, hok⟩ := hr
      have key : ∀ a' w', a'.tmps = a2.tmps → Conc P G' st2 E2 a' w' → ∃ v, (results fn a2.tmps).run P w' = .ok v w' ∧ K (a.put d v) w' := fun a' w' ht hc2 => by
        rw [← ht]
        obtain ⟨vs, hv1, hv2⟩ := retV_ok hc2.pre _ p cs hrv hp
        have m := hc2.pre.mem
        refine ⟨_, results_run hv1, hK _ _ _ E2 _ w' hok ?_⟩
        have hfr : ∀ i, SVok E2 w' (gl st.fr i) (a.tmps.getD i undef) := by
          intro i
          rcases Nat.lt_or_ge i st.fr.length with hi | hi
          · exact m.sus _ (List.mem_append_left _ (List.mem_map.2 ⟨i, List.mem_range.2 hi, rfl⟩))
          · rw [gl_out _ _ hi]; trivial
        obtain ⟨k1, k2⟩ := fr_put (E := E2) (w := w') (fr := st.fr) (d := d) hc.len hfr (resV_ok hv2)
        exact ⟨⟨⟨m.hp, m.unb, m.sep, m.new, m.bad, m.bd, m.os, m.tape, m.output, m.size, m.old, fun p hp => m.sus p (List.mem_append_right _ hp), m.rdk, fun b hb => m.mks b (List.mem_append_right _ hb), m.gl, m.ev⟩, hc2.pre.ob, k2⟩, hc2.born, k1,
          put_dfr (G := G) ⟨bs, hde, hnd, fun b hb => ⟨(hbs b hb).1, m.mks b (List.mem_append_left _ hb)⟩⟩, hc.rd⟩
      exact ⟨hc2.leave key, hc2.leave key⟩
    · exact hr.elim
  · intro p hp
    rcases List.mem_append.1 hp with hp | hp
    · obtain ⟨i, _, rfl⟩ := List.mem_map.1 hp
      exact hc.pre.fr i
    · exact hc.pre.mem.sus p hp
  · intro b hb
    rcases List.mem_append.1 hb with hb | hb
    · exact (hbs b hb).2
    · exact hc.pre.mem.mks b hb
  · rw [gl_app]
    by_cases hi : i < (pkVs st.fr args.toList).length
    · rw [if_pos hi]
      have hi' : i < args.size := by rw [← hal] at hi; simpa using hi
      refine hav i _ _ ?_ ?_
      · exact (by rw [List.getElem?_eq_getElem hi, gl_get _ i _ (List.getElem?_eq_getElem hi)])
      · simp [hi', Array.getElem?_append]
    · rw [if_neg hi, gl_app, pbs_len]
      have hps : (pkVs st.fr args.toList).length = args.size := by rw [← hal]; simp
      rw [hps] at hi ⊢
      by_cases hi2 : i - args.size < caps.length
      · rw [if_pos hi2, pbs_at, List.getElem?_eq_getElem hi2]
        have hcv : i - args.size < cvs.length := by omega
        obtain ⟨hbn, hm⟩ := e3 (i - args.size) _ _ (List.getElem?_eq_getElem hi2)
        obtain ⟨Tb, cs, hcs⟩ := hbx' _ _ (List.getElem_mem hi2)
        rw [hcs] at hm
        obtain ⟨b, hl1, hl2⟩ := hm
        refine ⟨hbn, ?_⟩
        rw [hcs]
        refine ⟨b, hl1, ?_⟩
        have hge : args.size ≤ i := by omega
        rw [List.getElem?_eq_getElem hcv] at hl2
        have hl3 := Option.some.inj hl2
        simp [Array.getElem?_append, hi, hcv, hl3]
      · rw [if_neg hi2, gl_unks]; trivial
  · simp [app_len, unks_len, pbs_len, ← hal, e2]


/-- A CALL THAT IS RUN BY ITS BODY, as one operation. -/
theorem inline_op {all l : List Oper} {o : Oper} {k : List It} {st : St} {c : Call} {f : Operand} {g : FuncId} {caps : List (Nat × Nat)} {fn : Func} {code : Code} (hop : o.op = .call c) (hcal : c.callee = .value f)
    (hfv : fnS (pkV (ev st.fr f)) = .s (.fn g caps)) (hpk : pkP (ev st.fr f) ∧ pkPs st.fr c.args.toList) (hbx : boxes (fo st.hp) caps = true)
    (hf : P.funcs[g]? = some fn) (hb : fn.body = some code) (hn : fn.name ≠ "runtime.NumGoroutine") (hsz : c.args.size + caps.length ≤ fn.ntmps)
    (h : ∀ (G' : Ctx) (B' : Exit → Act → World → Prop), (∀ p ∈ G'.sus, (∃ i, p.1 = gl st.fr i) ∨ p ∈ G.sus) → (G'.rds = G.rds ∧ G'.core = G.core) → (∀ st2 E2 a2 w2, RetI P fn.results.toList (fun v hp nx => Ok P G B (.ops all l :: k) ⟨setD st.fr o.dst v, hp, nx⟩) st2 → Conc P G' st2 E2 a2 w2 → B' .ret a2 w2 ∧ B' .normal a2 w2) →
      Ok P G' B' [.c code] ⟨appSV (pkVs st.fr c.args.toList) (appSV (pbs caps) (unks (fn.ntmps - (c.args.size + caps.length)))), st.hp, st.nx⟩)
    {E : Env} {a : Act} {w : World} (hc : Conc P G st E a w) {K : Act → World → Prop} (hK : ∀ a w, wpListIn (Fr G.rd) 0 P all.toArray (kont P G B k) l a w → K a w) : o.wpIn (Fr G.rd) 0 P a w K (kont P G B k) :=
  inline_gen (R := fun v hp nx => Ok P G B (.ops all l :: k) ⟨setD st.fr o.dst v, hp, nx⟩) hop hcal hfv hpk hbx hf hb hn hsz h hc fun v hp nx E a w hok hcc => hK _ _ (hok E a w hcc)

end
end
end Go.Proofs.YtaoplfeohffbiaaGreatDoor.Sx

/-! A range over a function, run by that function's body; its rounds. -/
namespace Go.Proofs.YtaoplfeohffbiaaGreatDoor.Sx
set_option linter.unusedSimpArgs false
set_option linter.unusedVariables false
set_option linter.unusedSectionVars false
noncomputable section

section
variable {P : Program} {Cs : List Con} {G : Ctx} {B : Exit → Act → World → Prop}

theorem evo_grow {E : Env} {w : World} (x : Obj) : Evo E E w (w.alloc x) where
  born _ h := h
  keep o h := (Evo.rfl' (E := E) (w := w)).keep o h
  own _ _ h := h
  mem b hb _ := heap_alloc_ne w x b hb
  blk b cs T fz h := ⟨cs, fz, (heap_alloc_ne w x b (lt_of_row h)).trans h, rfl⟩
  size := by
    show w.heap.size ≤ (w.heap.push x).size
    simp
  bad := rfl
  oth b y h := by rw [heap_alloc_ne w x b (lt_of_obj h), h]; exact OthK.same

theorem Conc.grow {st : St} {E : Env} {a : Act} {w : World} (h : Conc P G st E a w) (x : Obj) : Conc P G st E a (w.alloc x) := by
  have hev := evo_grow (E := E) (w := w) x
  have m := h.pre.mem
  exact ⟨⟨m.step hev (fun _ => False) (fun o ho _ => ⟨ho, rfl, rfl, fun b f hd hl => heap_alloc_ne w x b (m.lt hd hl)⟩) (fun o ho => ho.elim) m.unb m.sep m.new rfl rfl rfl (fun b hb _ => heap_alloc_ne w x b (Nat.lt_of_lt_of_le hb m.size)), h.pre.ob, fun i => hev.sv (h.pre.fr i)⟩, h.born, h.len, h.dfr.evo hev, h.rd⟩

/-- A loop's record turned, or let go. -/
theorem evo_put {E : Env} {w : World} {o l : Nat} {x' : Ob} {r r' : Loop} (hmut : (E.ob o).mut = true) (hl : E.loc o = some (l, 0)) (hh : w.heap[l]? = some (.loop r)) (hsame : x' = .dead ∨ same (E.ob o) x') :
    Evo E (E.set o x' (some (l, 0))) w (w.putObj l (.loop r')) where
  born j hj := .inl hj
  keep j hj := by
    by_cases e : j = o
    · subst e; rw [set_ob, set_loc]; exact hsame.imp id fun h => ⟨h, hl.symm⟩
    · rw [set_ob_ne _ _ _ e, set_loc_ne _ _ _ e]
      exact (Evo.rfl' (E := E) (w := w)).keep j hj
  own b' hb ho := by
    rcases ho with ho | ⟨j, f', h1, h2⟩
    · exact .inl ho
    by_cases e : j = o
    · subst e
      rw [set_loc] at h2
      cases h2
      exact .inr ⟨j, 0, hmut, hl⟩
    · rw [set_ob_ne _ _ _ e] at h1
      rw [set_loc_ne _ _ _ e] at h2
      exact .inr ⟨j, f', h1, h2⟩
  mem b' _ ho := World.putObj_heap_other (fun e => ho (e ▸ .inr ⟨o, 0, hmut, hl⟩))
  blk b' cs T' fz' hc := by
    have e : b' ≠ l := fun e => by subst e; rw [hh] at hc; cases hc
    exact ⟨cs, fz', (World.putObj_heap_other e).trans hc, rfl⟩
  size := by simp
  bad := rfl
  oth b' x hx := by
    by_cases e : b' = l
    · subst e
      rw [hh] at hx
      cases hx
      exact ⟨r', World.putObj_heap_same (lt_of_obj hh)⟩
    · rw [World.putObj_heap_other e, hx]; exact OthK.same

theorem mem_put {E : Env} {w : World} (m : Mem G E w) {o l : Nat} {x' : Ob} {r r' : Loop} (hmut : (E.ob o).mut = true) (hl : E.loc o = some (l, 0)) (hh : w.heap[l]? = some (.loop r)) (hsame : x' = .dead ∨ same (E.ob o) x')
    (hok : Evo E (E.set o x' (some (l, 0))) w (w.putObj l (.loop r')) → ObOk (E.set o x' (some (l, 0))) (w.putObj l (.loop r')) o x') : Mem G (E.set o x' (some (l, 0))) (w.putObj l (.loop r')) := by
  have hev := evo_put (r' := r') hmut hl hh hsame
  have hlive : E.ob o ≠ .dead := mut_ne hmut
  have hbo : E.born o := m.born_of hlive
  have hoth : ∀ b', b' ≠ l → (w.putObj l (.loop r')).heap[b']? = w.heap[b']? := fun b' e => World.putObj_heap_other e
  refine m.step hev (fun j => j = o) (fun j hb hne => ?_) (fun j hj => by subst hj; rw [set_ob]; exact hok hev) (fun j hb => ?_) (fun p p' b' g g' h1 h2 h3 h4 => ?_) (fun p b' g h1 h2 => ?_) rfl rfl rfl (fun b' hb hm => ?_)
  · have hb' : E.born j := hb.resolve_right hne
    refine ⟨hb', set_ob_ne _ _ _ hne, set_loc_ne _ _ _ hne, fun b' g hd hl' => hoth b' fun e => hne ?_⟩
    subst e
    exact m.sep j o b' g 0 hd hlive hl' hl
  · have hne : j ≠ o := fun e => hb (.inr e)
    rw [set_ob_ne _ _ _ hne]
    exact m.unb j fun h => hb (.inl h)
  · have hl1 : ∀ q, (E.set o x' (some (l, 0))).loc q = E.loc q := by
      intro q
      by_cases e : q = o
      · subst e; rw [set_loc, hl]
      · rw [set_loc_ne _ _ _ e]
    have hd1 : ∀ q, (E.set o x' (some (l, 0))).ob q ≠ .dead → E.ob q ≠ .dead := by
      intro q hq
      by_cases e : q = o
      · subst e; exact hlive
      · rw [set_ob_ne _ _ _ e] at hq; exact hq
    rw [hl1] at h3 h4
    exact m.sep p p' b' g g' (hd1 p h1) (hd1 p' h2) h3 h4
  · by_cases e : p = o
    · subst e
      rw [set_loc] at h2
      cases h2
      exact m.new p l 0 hlive hl
    · rw [set_ob_ne _ _ _ e] at h1
      rw [set_loc_ne _ _ _ e] at h2
      exact m.new p b' g h1 h2
  · refine hoth b' fun e => ?_
    rw [e] at hb hm
    rcases m.new o l 0 hlive hl with h1 | h1
    · omega
    · exact hm h1

/-- The state behind a record's turn. -/
theorem Conc.put {st : St} {E : Env} {a : Act} {w : World} (h : Conc P G st E a w) {o l : Nat} {s s' : Nat} {fr : List SV} {ps : List Nat} {asg body : Code} {pd pd' : Option Code} {r : Loop} (ho : fo st.hp o = .lp s fr ps asg body pd) (hl : E.loc o = some (l, 0))
    (hh : w.heap[l]? = some (.loop r)) (r' : Loop) (hr : r' = { r with state := lpS s', pending := pd' }) (hk : r.params = ps.toArray ∧ r.assign = asg ∧ r.body = body ∧ r.tmps.size = fr.length ∧ ∀ i, SVok E w (gl fr i) (r.tmps.getD i undef)) :
    Conc P G ⟨st.fr, uo st.hp o (.lp s' fr ps asg body pd'), st.nx⟩ (E.set o (.lp s' fr ps asg body pd') (some (l, 0))) a (w.putObj l (.loop r')) := by
  have m := h.pre.mem
  have hob : E.ob o = .lp s fr ps asg body pd := (h.pre.ob o).trans ho
  have hmut : (E.ob o).mut = true := by rw [hob]; rfl
  have hsame : Ob.lp s' fr ps asg body pd' = .dead ∨ same (E.ob o) (.lp s' fr ps asg body pd') := .inr (by rw [hob]; trivial)
  have hev := evo_put (r' := r') hmut hl hh hsame
  refine ⟨⟨mem_put m hmut hl hh hsame fun hev => ?_, fun i => ?_, fun i => hev.sv (h.pre.fr i)⟩, fun i hi => ?_, h.len, h.dfr.evo hev, h.rd⟩
  · subst hr
    exact ⟨l, _, set_loc _ _ _ _, World.putObj_heap_same (lt_of_obj hh), rfl, hk.1, hk.2.1, hk.2.2.1, rfl, hk.2.2.2.1, fun i => hev.sv (hk.2.2.2.2 i)⟩
  · show _ = fo (uo st.hp o _) i
    rw [fo_uo]
    by_cases e : i = o
    · subst e; rw [if_pos rfl, set_ob]
    · rw [if_neg e, set_ob_ne _ _ _ e]; exact h.pre.ob i
  · rcases hi with hi | hi
    · exact h.born i hi
    · subst hi; exact h.born i (m.born_of (mut_ne hmut))

/-- The state behind a record that is let go. -/
theorem Conc.drop {st : St} {E : Env} {a : Act} {w : World} (h : Conc P G st E a w) {o l : Nat} {s : Nat} {fr : List SV} {ps : List Nat} {asg body : Code} {pd : Option Code} {r r' : Loop} (ho : fo st.hp o = .lp s fr ps asg body pd) (hl : E.loc o = some (l, 0))
    (hh : w.heap[l]? = some (.loop r)) : Conc P G ⟨st.fr, uo st.hp o .dead, st.nx⟩ (E.set o .dead (some (l, 0))) a (w.putObj l (.loop r')) := by
  have m := h.pre.mem
  have hob : E.ob o = .lp s fr ps asg body pd := (h.pre.ob o).trans ho
  have hmut : (E.ob o).mut = true := by rw [hob]; rfl
  have hev := evo_put (x' := .dead) (r' := r') hmut hl hh (.inl rfl)
  refine ⟨⟨mem_put m hmut hl hh (.inl rfl) fun hev => trivial, fun i => ?_, fun i => hev.sv (h.pre.fr i)⟩, fun i hi => ?_, h.len, h.dfr.evo hev, h.rd⟩
  · show _ = fo (uo st.hp o _) i
    rw [fo_uo]
    by_cases e : i = o
    · subst e; rw [if_pos rfl, set_ob]
    · rw [if_neg e, set_ob_ne _ _ _ e]; exact h.pre.ob i
  · rcases hi with hi | hi
    · exact h.born i hi
    · subst hi; exact h.born i (m.born_of (mut_ne hmut))

/-- What a record's object tells, where its block is known. -/
theorem Conc.recd {st : St} {E : Env} {a : Act} {w : World} (h : Conc P G st E a w) {o l : Nat} (hp : (o, l) ∈ G.rds) {s : Nat} {fr : List SV} {ps : List Nat} {asg body : Code} {pd : Option Code} (ho : fo st.hp o = .lp s fr ps asg body pd) :
    E.loc o = some (l, 0) ∧ ∃ r, w.heap[l]? = some (.loop r) ∧ r.state = lpS s ∧ r.pending = pd ∧ r.params = ps.toArray ∧ r.assign = asg ∧ r.body = body ∧ r.tmps.size = fr.length ∧ ∀ i, SVok E w (gl fr i) (r.tmps.getD i undef) := by
  have m := h.pre.mem
  have hob : E.ob o = .lp s fr ps asg body pd := (h.pre.ob o).trans ho
  obtain ⟨k1, k2, _⟩ := m.rdk _ hp
  have hl : E.loc o = some (l, 0) := by
    rcases k2 with k2 | k2
    · rw [hob] at k2; cases k2
    · exact k2
  have hm := m.hp o k1
  rw [hob] at hm
  obtain ⟨b, r, h1, h2, h3, h4, h5, h6, h7, h8, h9⟩ := hm
  rw [hl] at h1
  cases h1
  exact ⟨hl, r, h2, h3, h7, h4, h5, h6, h8, h9⟩

/-- What is owed when the loop's function comes back. -/
def RJ (P : Program) (G : Ctx) (B : Exit → Act → World → Prop) (k : List It) (fr : List SV) (o : Nat) (st2 : St) : Prop :=
  match fo st2.hp o with
  | .lp s _ _ _ _ none => Nat.beq s 1 = false ∧ Ok P G B k ⟨fr, uo st2.hp o .dead, st2.nx⟩
  | .lp s _ _ _ _ (some c) => Nat.beq s 1 = false ∧ Ok P G B (.c c :: k) ⟨fr, uo st2.hp o .dead, st2.nx⟩
  | _ => False

theorem rngU_some {inl : List Nat} {st : St} {g : Operand} {ps : Array Nat} {asg body : Code} {pre : Prop} {code : Code} {fr' : List SV} {hp' : List (Nat × Ob)} (h : rngU P inl st g ps asg body = some (pre, code, fr', hp')) :
    ∃ f caps fn, fnS (pkV (ev st.fr g)) = .s (.fn f caps) ∧ boxes (fo st.hp) caps = true ∧ P.funcs[f]? = some fn ∧ fn.body = some code ∧ fn.name ≠ "runtime.NumGoroutine" ∧ fn.results.toList = [] ∧ 1 + caps.length ≤ fn.ntmps ∧
      pre = pkP (ev st.fr g) ∧ fr' = .s (.yl st.nx) :: appSV (pbs caps) (unks (fn.ntmps - (1 + caps.length))) ∧ hp' = uo st.hp st.nx (.lp 0 st.fr ps.toList asg body none) := by
  unfold rngU at h
  split at h
  · rename_i f caps hv
    cases hb : (memN f inl && boxes (fo st.hp) caps) <;> rw [hb] at h <;> simp only [cond_true, cond_false, reduceCtorEq] at h
    split at h
    · rename_i code' nt hbi
      cases hs : Nat.ble (1 + caps.length) nt <;> rw [hs] at h <;> simp only [cond_true, cond_false, reduceCtorEq, Option.some.injEq, Prod.mk.injEq] at h
      obtain ⟨rfl, rfl, rfl, rfl⟩ := h
      unfold bodyI at hbi
      split at hbi
      · rename_i fn hf
        split at hbi
        · cases hbi
        · rename_i hn
          unfold bodyF at hbi
          split at hbi
          · rename_i c hc
            simp only [Option.some.injEq, Prod.mk.injEq] at hbi
            obtain ⟨rfl, h2, rfl⟩ := hbi
            simp only [Bool.and_eq_true] at hb
            exact ⟨f, caps, fn, hv, hb.2, hf, hc, hn, h2, Nat.le_of_ble_eq_true hs, rfl, rfl, rfl⟩
          · cases hbi
      · cases hbi
    · cases h
  · cases h

/-- A RANGE OVER A FUNCTION, by that function's body. -/
theorem Ok.range {inl : List Nat} {st : St} {g : Operand} {ps : Array Nat} {asg body : Code} {k : List It} {pre : Prop} {code : Code} {fr' : List SV} {hp' : List (Nat × Ob)} (hi : rngU P inl st g ps asg body = some (pre, code, fr', hp')) (hpre : pre)
    (h : ∀ (G' : Ctx) (B' : Exit → Act → World → Prop), (∀ p ∈ G'.sus, (∃ i, p.1 = gl st.fr i) ∨ p ∈ G.sus) → ((∀ p ∈ G'.rds, p.1 = st.nx ∨ p ∈ G.rds) ∧ G'.core = G.core) → (∀ st2 E2 a2 w2, RJ P G B k st.fr st.nx st2 → Conc P G' st2 E2 a2 w2 → B' .ret a2 w2 ∧ B' .normal a2 w2) →
      Ok P G' B' [.c code] ⟨fr', hp', st.nx + 1⟩) : Ok P G B (.c (.rangeFunc g ps asg body) :: k) st := by
  obtain ⟨f, caps, fn, hfv, hbx, hf, hb, hn, hres0, hsz, rfl, rfl, rfl⟩ := rngU_some hi
  intro E a w hc
  show cwp P G (.rangeFunc g ps asg body) (kont P G B k) a w
  have hfe := fnS_ok (hc.pre.pk hpre)
  rw [hfv] at hfe
  obtain ⟨cvs, e1, e2, e3⟩ := hfe
  have hbx' := boxes_ok hc.pre.ob caps hbx
  obtain ⟨bs, hde, hnd, hbs⟩ := hc.dfr
  have hnb : ¬ E.born st.nx := fun hb => Nat.lt_irrefl _ (hc.born _ hb)
  refine wpIn_rangeFunc fun fnid _ => ?_
  -- what entering lays
  obtain ⟨l, mark, w₁, bs', rr, hent, w0, hc0, hl0, hw1, hrr, hmark, hnd', hbs'⟩ : ∃ (l : Nat) (mark : List Deferred) (w₁ : World) (bs' : List Nat) (rr : Loop), (Instr.enterLoop fnid a.tmps ps asg body (Fr G.rd).round).run P w = .ok (l, mark) w₁ ∧
      ∃ w0, Conc P G st E a w0 ∧ l = w0.heap.size ∧ w₁ = w0.alloc (.loop rr) ∧ (rr.state = .ready ∧ rr.params = ps ∧ rr.assign = asg ∧ rr.body = body ∧ rr.pending = none ∧ rr.tmps = a.tmps) ∧
      mark ++ a.defers = bs'.map (fun b => { target := .collected b, args := #[] }) ∧ (bs' ++ G.mrk).Nodup ∧ ∀ b ∈ bs', MarkAt G b ∧ w0.heap[b]? = some (.deferred (some [])) := by
    cases hrd : G.rd with
    | none =>
      have hgr := hc.grow (.deferred (some []))
      refine ⟨_, _, _, w.heap.size :: bs, _, run_enterLoop_outer fnid a.tmps ps asg body, _, hgr, by simp [World.size_alloc], rfl, ⟨rfl, rfl, rfl, rfl, rfl, rfl⟩, by rw [hde]; rfl, ?_, ?_⟩
      · refine List.nodup_cons.2 ⟨fun hm => ?_, hnd⟩
        rcases List.mem_append.1 hm with hm | hm
        · have := lt_of_obj (hbs _ hm).2; omega
        · have := lt_of_obj (hc.pre.mem.mks _ hm); omega
      · intro b hb
        rcases List.mem_cons.1 hb with rfl | hb
        · exact ⟨⟨.inl hc.pre.mem.size, fun E0 w1 h0 => Nat.le_trans (hc.pre.mem.ev E0 w1 h0).1 hc.pre.mem.size⟩, heap_alloc_at w _⟩
        · exact ⟨(hbs b hb).1, (heap_alloc_ne w _ b (lt_of_obj (hbs b hb).2)).trans (hbs b hb).2⟩
    | some p =>
      obtain ⟨o0, l0⟩ := p
      obtain ⟨_, _, r0, hr0⟩ := hc.pre.mem.rdk _ (hc.rd _ hrd)
      exact ⟨_, _, _, bs, _, run_enterLoop_inner hr0 fnid a.tmps ps asg body, _, hc, rfl, rfl, ⟨rfl, rfl, rfl, rfl, rfl, rfl⟩, hde, hnd, hbs⟩
  subst hw1
  obtain ⟨r1, r2, r3, r4, r5, r6⟩ := hrr
  have hcf : ∀ as w, (callFunc f as).run P w = .ok (.enter f as) w := fun as w => by
    have : ¬ fn.name = "runtime.NumGoroutine" := hn
    simp [callFunc, hf, hb, this]
  refine ⟨l, mark, w0.alloc (.loop rr), { target := .fn (.func f) cvs.toArray, args := #[.func (.yield l) #[] #[]] }, w0.alloc (.loop rr), f, #[.func (.yield l) #[] #[]] ++ cvs.toArray, w0.alloc (.loop rr), hent, ?_, fun _ _ => Fr_fn, ?_, Fr_n, ?_⟩
  · simp [resolve, rangeCall, e1, Deferred.ofValue]
    rfl
  · simp [invoke, hcf]
  refine callsIn_fr.2 ((callsIn_fr (r := none) (n := 0)).1 (callsIn_of_wp_marks hf hb trivial ?_ rfl))
  let G' : Ctx := { G with sus := ((List.range st.fr.length).map fun i => (gl st.fr i, a.tmps.getD i undef)) ++ G.sus, rd := none, rds := (st.nx, l) :: G.rds, mrk := bs' ++ G.mrk }
  let E1 : Env := E.set st.nx (.lp 0 st.fr ps.toList asg body none) (some (w0.heap.size, 0))
  have hev : Evo E E1 w0 (w0.alloc (.loop rr)) := evo_new hc0.pre.mem hnb _ _
  have hm1 : Mem G E1 (w0.alloc (.loop rr)) := mem_newO hc0.pre.mem hnb _ _
    ⟨w0.heap.size, rr, set_loc _ _ _ _, heap_alloc_at w0 _, by rw [r1]; rfl, by rw [r2], r3, r4, r5, by rw [r6]; exact hc0.len, fun i => by rw [r6]; exact hev.sv (hc0.pre.fr i)⟩
  have hbnx : E1.born st.nx := .inr rfl
  refine h G' _ ?_ ⟨fun p hp => ?_, rfl⟩ (fun st2 E2 a2 w2 hr hc2 => ?_) E1 _ _ ⟨⟨⟨hm1.hp, hm1.unb, hm1.sep, hm1.new, hm1.bad, hm1.bd, hm1.os, hm1.tape, hm1.output, hm1.size, hm1.old, ?_, ?_, ?_, hm1.gl, hm1.ev⟩, fun i => ?_, fun i => ?_⟩, fun i hi => ?_, ?_, ⟨[], rfl, hnd', fun b hb => (by cases hb)⟩, fun p hp => (by cases hp)⟩
  · intro p hp
    rcases List.mem_append.1 hp with hp | hp
    · obtain ⟨i, _, rfl⟩ := List.mem_map.1 hp
      exact .inl ⟨i, rfl⟩
    · exact .inr hp
  · rcases List.mem_cons.1 hp with rfl | hp
    · exact .inl rfl
    · exact .inr hp
  · have key : ∀ a' w', a'.tmps = a2.tmps → Conc P G' st2 E2 a' w' → ∃ v, (results fn a2.tmps).run P w' = .ok v w' ∧ rangePost (Fr G.rd) 0 P l (kont P G B k) { a with defers := mark ++ a.defers } (.returned v) w' := by
      intro a' w' ht hc2
      refine ⟨_, results_run (vs := []) (by rw [hres0]; rfl), ?_⟩
      unfold RJ at hr
      have fin : ∀ s fr2 ps2 asg2 body2 pd, fo st2.hp st.nx = .lp s fr2 ps2 asg2 body2 pd → Nat.beq s 1 = false → ∃ (w4 : World) (E4 : Env), (Instr.endLoop l).run P w' = .ok pd w4 ∧ Conc P G ⟨st.fr, uo st2.hp st.nx .dead, st2.nx⟩ E4 { a with defers := mark ++ a.defers } w4 := by
        intro s fr2 ps2 asg2 body2 pd ho hs
        obtain ⟨hl, r, hh, h3, h7, _⟩ := hc2.recd (List.mem_cons_self ..) ho
        have hnb : r.state ≠ .busy := by
          rw [h3]
          match s, hs with
          | 0, _ => simp [lpS]
          | s + 2, _ => simp [lpS]
        have hc4 := hc2.drop (r' := { r with state := .exhausted }) ho hl hh
        refine ⟨w'.putObj l (.loop { r with state := .exhausted }), E2.set st.nx .dead (some (l, 0)), ?_, ?_⟩
        · exact (run_endLoop hh hnb).trans (by rw [h7])
        · have m := hc4.pre.mem
          refine ⟨⟨⟨m.hp, m.unb, m.sep, m.new, m.bad, m.bd, m.os, m.tape, m.output, m.size, m.old, fun p hp => m.sus p (List.mem_append_right _ hp), fun p hp => m.rdk p (List.mem_cons_of_mem _ hp), fun b hb => m.mks b (List.mem_append_right _ hb), m.gl, m.ev⟩, hc4.pre.ob, fun i => ?_⟩, hc4.born, hc.len, ⟨bs', hmark, hnd', fun b hb => ⟨(hbs' b hb).1, m.mks b (List.mem_append_left _ hb)⟩⟩, hc.rd⟩
          rcases Nat.lt_or_ge i st.fr.length with hi | hi
          · exact m.sus _ (List.mem_append_left _ (List.mem_map.2 ⟨i, List.mem_range.2 hi, rfl⟩))
          · show SVok _ _ (gl st.fr i) _
            rw [gl_out _ _ hi]; trivial
      split at hr
      · rename_i s fr2 ps2 asg2 body2 ho
        obtain ⟨w4, E4, h1, h2⟩ := fin _ _ _ _ _ _ ho hr.1
        exact ⟨none, w4, h1, hr.2 E4 _ w4 h2⟩
      · rename_i s fr2 ps2 asg2 body2 c ho
        obtain ⟨w4, E4, h1, h2⟩ := fin _ _ _ _ _ _ ho hr.1
        exact ⟨some c, w4, h1, hr.2 E4 _ w4 h2⟩
      · exact hr.elim
    exact ⟨hc2.leave key, hc2.leave key⟩
  · intro p hp
    rcases List.mem_append.1 hp with hp | hp
    · obtain ⟨i, _, rfl⟩ := List.mem_map.1 hp
      exact hev.sv (hc0.pre.fr i)
    · exact hm1.sus p hp
  · intro p hp
    rcases List.mem_cons.1 hp with rfl | hp
    · exact ⟨hbnx, .inr (by rw [hl0]; exact set_loc _ _ _ _), rr, by rw [hl0]; exact heap_alloc_at w0 _⟩
    · exact hm1.rdk p hp
  · intro b hb
    rcases List.mem_append.1 hb with hb | hb
    · exact (heap_alloc_ne w0 _ b (lt_of_obj (hbs' b hb).2)).trans (hbs' b hb).2
    · exact hm1.mks b hb
  · show E1.ob i = fo (uo st.hp st.nx _) i
    rw [fo_uo]
    by_cases e : i = st.nx
    · subst e; rw [if_pos rfl]; exact set_ob _ _ _ _
    · rw [if_neg e]; exact (set_ob_ne _ _ _ e).trans (hc0.pre.ob i)
  · cases i with
    | zero =>
      show S1ok E1 _ (.yl st.nx) _
      refine ⟨hbnx, ?_⟩
      have : E1.ob st.nx = .lp 0 st.fr ps.toList asg body none := set_ob _ _ _ _
      rw [this]
      refine ⟨w0.heap.size, set_loc _ _ _ _, ?_⟩
      rw [hl0]
      show (((#[Value.func (.yield w0.heap.size) #[] #[]] ++ cvs.toArray) ++ _ : Array Value)).getD 0 undef = _
      simp [Array.getElem?_append]
    | succ i =>
      show SVok E1 _ (gl (appSV (pbs caps) (unks (fn.ntmps - (1 + caps.length)))) i) _
      rw [gl_app, pbs_len]
      by_cases hi2 : i < caps.length
      · rw [if_pos hi2, pbs_at, List.getElem?_eq_getElem hi2]
        have hcv : i < cvs.length := by omega
        obtain ⟨hbn, hm⟩ := e3 i _ _ (List.getElem?_eq_getElem hi2)
        obtain ⟨Tb, cs, hcs⟩ := hbx' _ _ (List.getElem_mem hi2)
        rw [hcs] at hm
        obtain ⟨b, hl1, hl2⟩ := hm
        have hne : caps[i].1 ≠ st.nx := fun e => hnb (e ▸ hbn)
        refine ⟨.inl hbn, ?_⟩
        have e5 : E1.ob (caps.get ⟨i, hi2⟩).1 = .box Tb cs := (set_ob_ne _ _ _ hne).trans hcs
        rw [e5]
        refine ⟨b, (set_loc_ne _ _ _ hne).trans hl1, ?_⟩
        rw [List.getElem?_eq_getElem hcv] at hl2
        have hl3 := Option.some.inj hl2
        simp [Array.getElem?_append, hcv, hl3]
      · rw [if_neg hi2, gl_unks]; trivial
  · rcases hi with hi | rfl
    · exact Nat.lt_succ_of_lt (hc.born i hi)
    · exact Nat.lt_succ_self _
  · simp [app_len, unks_len, pbs_len, e2]
    omega

/-! ### A call of yield -/

theorem getD_sib (t : Array Value) (p i : Nat) (v : Value) : (t.setIfInBounds p v).getD i undef = if i = p ∧ p < t.size then v else t.getD i undef := by
  simp only [Array.getD_eq_getD_getElem?, Array.getElem?_setIfInBounds]
  by_cases e : p = i
  · subst e
    by_cases h : p < t.size <;> simp [h]
  · rw [if_neg e, if_neg fun h => e h.1.symm]

theorem sets_ok {E : Env} {w : World} : ∀ (ps : List Nat) (vs : List Value) (xs : List SV) (t : Array Value) (fr : List SV), ps.length = vs.length → vs.length = xs.length → (∀ (i : Nat) y v, xs[i]? = some y → vs[i]? = some v → SVok E w y v) → t.size = fr.length → (∀ i, SVok E w (gl fr i) (t.getD i undef)) →
    ((ps.zip vs).foldl (fun t p => t.setIfInBounds p.1 p.2) t).size = (setPs fr ps xs).length ∧ ∀ i, SVok E w (gl (setPs fr ps xs) i) (((ps.zip vs).foldl (fun t p => t.setIfInBounds p.1 p.2) t).getD i undef)
  | [], vs, xs, t, fr, _, _, _, h4, h5 => ⟨by simpa [setPs] using h4, by simpa [setPs] using h5⟩
  | p :: ps, [], xs, t, fr, h1, _, _, _, _ => by simp at h1
  | p :: ps, v :: vs, [], t, fr, _, h2, _, _, _ => by simp at h2
  | p :: ps, v :: vs, x :: xs, t, fr, h1, h2, h3, h4, h5 => by
    simp only [List.zip_cons_cons, List.foldl_cons, setPs]
    refine sets_ok ps vs xs _ _ (by simpa using h1) (by simpa using h2) (fun i y v g1 g2 => h3 (i + 1) y v (by simpa using g1) (by simpa using g2)) (by rw [sl_len]; simpa using h4) fun i => ?_
    rw [gl_sl, getD_sib, ← h4]
    by_cases e : i = p
    · subst e
      by_cases h : i < t.size
      · rw [if_pos ⟨rfl, h⟩, if_pos ⟨rfl, h⟩]
        exact h3 0 x v rfl rfl
      · rw [if_neg fun h' => h h'.2, if_neg fun h' => h h'.2]; exact h5 i
    · rw [if_neg fun h' => e h'.1, if_neg fun h' => e h'.1]; exact h5 i

theorem yldU_some {st : St} {op : Op} {pre : Prop} {lo : Nat} {fr' : List SV} {asg body : Code} (h : yldU st op = some (pre, lo, fr', asg, body)) :
    ∃ c f fr ps, op = .call c ∧ c.callee = .value f ∧ pkV (ev st.fr f) = .s (.yl lo) ∧ fo st.hp lo = .lp 0 fr ps asg body none ∧ c.args.size = ps.length ∧ pre = (pkP (ev st.fr f) ∧ pkPs st.fr c.args.toList) ∧ fr' = setPs fr ps (pkVs st.fr c.args.toList) := by
  unfold yldU at h
  split at h
  · rename_i c
    split at h
    · rename_i f hf
      split at h
      · rename_i o hv
        split at h
        · rename_i fr ps asg' body' ho
          cases hb : Nat.beq c.args.size ps.length <;> rw [hb] at h <;> simp only [cond_true, cond_false, reduceCtorEq, Option.some.injEq, Prod.mk.injEq] at h
          obtain ⟨rfl, rfl, rfl, rfl, rfl⟩ := h
          exact ⟨c, f, fr, ps, rfl, hf, hv, ho, Nat.eq_of_beq_eq_true hb, rfl, rfl⟩
        · cases h
      · cases h
    · cases h
  · cases h

/-- What is owed at a round's end. -/
def RN (R : SV → List (Nat × Ob) → Nat → Prop) (o : Nat) (e : Exit) (st2 : St) : Prop :=
  match fo st2.hp o with
  | .lp 1 fr' ps asg body none => match e with
    | .normal => R (.s (.bool true)) (uo st2.hp o (.lp 0 fr' ps asg body none)) st2.nx
    | .ret => R (.s (.bool false)) (uo st2.hp o (.lp 2 fr' ps asg body (some .ret))) st2.nx
    | .exit id => R (.s (.bool false)) (uo st2.hp o (.lp 2 fr' ps asg body (some (.exit id)))) st2.nx
    | .goto t => R (.s (.bool false)) (uo st2.hp o (.lp 2 fr' ps asg body (some (.goto t)))) st2.nx
    | _ => False
  | _ => False

theorem Ok.beg {o : Nat} {fr : List SV} {ps : List Nat} {asg body : Code} {k : List It} {st : St} (ho : fo st.hp o = .lp 0 fr ps asg body none) (h : Ok P G B k ⟨st.fr, uo st.hp o (.lp 1 fr ps asg body none), st.nx⟩) : Ok P G B (.beg o :: k) st := by
  intro E a w hc l hl
  obtain ⟨h1, r, hh, h3, h7, h4, h5, h6, h8, h9⟩ := hc.recd (hc.rd _ hl) ho
  exact ⟨_, run_beginRound hh (by rw [h3]; rfl), h _ _ _ (hc.put (s' := 1) (pd' := none) ho h1 hh { r with state := .busy } (by rw [← h7]; rfl) ⟨h4, h5, h6, h8, h9⟩)⟩

theorem Ok.rnd {X : Exit → St → Prop} {k : List It} {st : St} (h : X .normal st) : Ok P G B (.rnd X :: k) st := fun E a w hc => ⟨st, E, hc, h⟩

/-- A CALL OF yield, as one operation: a round. -/
theorem yield_gen {R : SV → List (Nat × Ob) → Nat → Prop} {X : Exit → St → Prop} {o : Oper} {st : St} {pre : Prop} {lo : Nat} {fr' : List SV} {asg body : Code} (hi : yldU st o.op = some (pre, lo, fr', asg, body)) (hpre : pre)
    (h : ∀ (G' : Ctx) (B' : Exit → Act → World → Prop), (∀ p ∈ G'.sus, (∃ i, p.1 = gl st.fr i) ∨ p ∈ G.sus) → ((∀ p ∈ G'.rds, p.1 = lo ∨ p ∈ G.rds) ∧ G'.core = G.core) → Ok P G' B' [.c asg, .beg lo, .c body, .rnd X] ⟨fr', st.hp, st.nx⟩) (hX : ∀ e st2, X e st2 → RN R lo e st2)
    {E : Env} {a : Act} {w : World} (hc : Conc P G st E a w) {K : Act → World → Prop} {Q : Exit → Act → World → Prop} (hK : ∀ v hp nx E a w, R v hp nx → Conc P G ⟨setD st.fr o.dst v, hp, nx⟩ E a w → K a w) : o.wpIn (Fr G.rd) 0 P a w K Q := by
  obtain ⟨c, f, fr, ps, hop, hcal, hv, ho, hsz, rfl, rfl⟩ := yldU_some hi
  have hob : E.ob lo = .lp 0 fr ps asg body none := (hc.pre.ob lo).trans ho
  have hfe := hc.pre.pk hpre.1
  rw [hv] at hfe
  obtain ⟨hbn, hm⟩ := hfe
  rw [hob] at hm
  obtain ⟨l, hl, e1⟩ := hm
  have hm := hc.pre.mem.hp lo hbn
  rw [hob] at hm
  obtain ⟨b, r, g1, g2, g3, g4, g5, g6, g7, g8, g9⟩ := hm
  rw [hl] at g1
  cases g1
  obtain ⟨hal, hav⟩ := pkVs_ok hc.pre c.args.toList hpre.2
  obtain ⟨d, op, ty, pos, af, gd⟩ := o
  simp only at hop
  subst hop
  obtain ⟨callee, args, ats⟩ := c
  simp only at hcal hsz hal hav h hpre
  subst hcal
  have hy := run_yield (P := P) (args := args.map a.eval) g2 (by rw [g4]; simp [hsz])
  have hrun : (execOp a.eval ⟨d, .call { callee := .value f, args := args, argTypes := ats }, ty, pos, af, gd⟩).run P w = .ok (.round l r.fn ((r.params.zip (args.map a.eval)).foldl (fun tmps (t, a) => tmps.setIfInBounds t a) r.tmps) r.assign r.body) w := by
    simp [execOp, resolve, e1, Deferred.ofValue, invoke, hy]
  have e : Oper.semAt (Fr G.rd).round a.eval ⟨d, .call { callee := .value f, args := args, argTypes := ats }, ty, pos, af, gd⟩ = execOp a.eval ⟨d, .call { callee := .value f, args := args, argTypes := ats }, ty, pos, af, gd⟩ := by
    cases G.rd with
    | none => exact Oper.semAt_none ..
    | some p => exact Oper.semAt_some _ _ _ (fun c e => by cases e)
  obtain ⟨bs, hde, hnd, hbs⟩ := hc.dfr
  refine ⟨fun _ _ => Fr_fn, ?_⟩
  rw [e, hrun, Oper.uponIn_round]
  refine ⟨Fr_n, roundIn_of_wpIn Fr_fn ?_⟩
  let G' : Ctx := { G with sus := ((List.range st.fr.length).map fun i => (gl st.fr i, a.tmps.getD i undef)) ++ G.sus, rd := some (lo, l), rds := (lo, l) :: G.rds, mrk := bs ++ G.mrk }
  have hF : (Fr G.rd).inRound l = Fr G'.rd := by cases G.rd <;> rfl
  rw [hF, g5, g6]
  have hz : ((r.params.zip (args.map a.eval)).foldl (fun tmps (t, a) => tmps.setIfInBounds t a) r.tmps) = ((ps.zip (args.toList.map a.eval)).foldl (fun t p => t.setIfInBounds p.1 p.2) r.tmps) := by
    rw [g4, ← Array.foldl_toList]
    simp [Array.toList_zip]
  rw [hz]
  obtain ⟨s1, s2⟩ := sets_ok ps (args.toList.map a.eval) (pkVs st.fr args.toList) r.tmps fr (by simp [hsz]) hal hav g8 g9
  have m := hc.pre.mem
  have hOk := h G' (fun _ _ _ => False) (fun p hp => ?_) ⟨fun p hp => ?_, rfl⟩ E { tmps := (ps.zip (args.toList.map a.eval)).foldl (fun t p => t.setIfInBounds p.1 p.2) r.tmps, defers := [] } w
    ⟨⟨⟨m.hp, m.unb, m.sep, m.new, m.bad, m.bd, m.os, m.tape, m.output, m.size, m.old, ?_, ?_, ?_, m.gl, m.ev⟩, hc.pre.ob, s2⟩, hc.born, s1, ⟨[], rfl, hnd, fun b hb => (by cases hb)⟩, fun p hp => by cases hp; exact List.mem_cons_self ..⟩
  · refine wpIn_mono hOk fun e a1 w1 hk => ?_
    cases e with
    | normal =>
      obtain ⟨w2, hbr, hbody⟩ := hk l rfl
      refine ⟨w2, hbr, wpIn_mono hbody fun e a2 w3 hk => ?_⟩
      obtain ⟨st2, E2, hc2, hx⟩ := hk
      have hr := hX e st2 hx
      unfold RN at hr
      have fin : ∀ (fr2 : List SV) (ps2 : List Nat) (asg2 body2 : Code), fo st2.hp lo = .lp 1 fr2 ps2 asg2 body2 none → ∀ (jump : Option Code), R (.s (.bool jump.isNone)) (uo st2.hp lo (.lp (if jump.isNone then 0 else 2) fr2 ps2 asg2 body2 jump)) st2.nx →
          ∃ v w', (Instr.endRound l jump).run P w3 = .ok v w' ∧ K (a.put d v) w' := by
        intro fr2 ps2 asg2 body2 ho2 jump hR
        obtain ⟨q1, r2, hh, q3, q7, q4, q5, q6, q8, q9⟩ := hc2.recd (List.mem_cons_self ..) ho2
        have hc4 := hc2.put (s' := if jump.isNone then 0 else 2) (pd' := jump) ho2 q1 hh { r2 with state := if jump.isNone then .ready else .done, pending := jump } (by cases jump <;> rfl) ⟨q4, q5, q6, q8, q9⟩
        refine ⟨_, _, run_endRound jump hh, hK _ _ _ (E2.set lo (.lp (if jump.isNone then 0 else 2) fr2 ps2 asg2 body2 jump) (some (l, 0))) _ _ hR ?_⟩
        have m := hc4.pre.mem
        have hfr : ∀ i, SVok (E2.set lo (.lp (if jump.isNone then 0 else 2) fr2 ps2 asg2 body2 jump) (some (l, 0))) (w3.putObj l (.loop { r2 with state := if jump.isNone then .ready else .done, pending := jump })) (gl st.fr i) (a.tmps.getD i undef) := by
          intro i
          rcases Nat.lt_or_ge i st.fr.length with hi | hi
          · exact m.sus _ (List.mem_append_left _ (List.mem_map.2 ⟨i, List.mem_range.2 hi, rfl⟩))
          · rw [gl_out _ _ hi]; trivial
        obtain ⟨k1, k2⟩ := fr_put (fr := st.fr) (d := d) (X := .s (.bool jump.isNone)) (v := .bool jump.isNone) hc.len hfr rfl
        exact ⟨⟨⟨m.hp, m.unb, m.sep, m.new, m.bad, m.bd, m.os, m.tape, m.output, m.size, m.old, fun p hp => m.sus p (List.mem_append_right _ hp), fun p hp => m.rdk p (List.mem_cons_of_mem _ hp), fun b hb => m.mks b (List.mem_append_right _ hb), m.gl, m.ev⟩, hc4.pre.ob, k2⟩, hc4.born, k1,
          put_dfr (G := G) ⟨bs, hde, hnd, fun b hb => ⟨(hbs b hb).1, m.mks b (List.mem_append_left _ hb)⟩⟩, hc.rd⟩
      split at hr
      · rename_i fr2 ps2 asg2 body2 ho2
        cases e with
        | normal => exact fin _ _ _ _ ho2 none hr
        | ret => exact fin _ _ _ _ ho2 (some .ret) hr
        | exit id => exact fin _ _ _ _ ho2 (some (.exit id)) hr
        | goto t => exact fin _ _ _ _ ho2 (some (.goto t)) hr
        | _ => exact hr.elim
      · exact hr.elim
    | _ => exact hk.elim
  · rcases List.mem_append.1 hp with hp | hp
    · obtain ⟨i, _, rfl⟩ := List.mem_map.1 hp
      exact .inl ⟨i, rfl⟩
    · exact .inr hp
  · rcases List.mem_cons.1 hp with rfl | hp
    · exact .inl rfl
    · exact .inr hp
  · intro p hp
    rcases List.mem_append.1 hp with hp | hp
    · obtain ⟨i, _, rfl⟩ := List.mem_map.1 hp
      exact hc.pre.fr i
    · exact hc.pre.mem.sus p hp
  · intro p hp
    rcases List.mem_cons.1 hp with rfl | hp
    · exact ⟨hbn, .inr hl, r, g2⟩
    · exact m.rdk p hp
  · intro b hb
    rcases List.mem_append.1 hb with hb | hb
    · exact (hbs b hb).2
    · exact m.mks b hb

/-! ### A walk through a string -/
theorem evo_putO {E : Env} {w : World} {o l : Nat} {x' : Ob} {y y' : Obj} (hmut : (E.ob o).mut = true) (hl : E.loc o = some (l, 0)) (hh : w.heap[l]? = some y) (hnc : ∀ cs T fz, y ≠ .cells cs T fz) (hoth : OthK y (some y')) (hsame : same (E.ob o) x') :
    Evo E (E.set o x' (some (l, 0))) w (w.putObj l y') where
  born j hj := .inl hj
  keep j hj := by
    by_cases e : j = o
    · subst e; rw [set_ob, set_loc]; exact .inr ⟨hsame, hl.symm⟩
    · rw [set_ob_ne _ _ _ e, set_loc_ne _ _ _ e]
      exact (Evo.rfl' (E := E) (w := w)).keep j hj
  own b' hb ho := by
    rcases ho with ho | ⟨j, f', h1, h2⟩
    · exact .inl ho
    by_cases e : j = o
    · subst e
      rw [set_loc] at h2
      cases h2
      exact .inr ⟨j, 0, hmut, hl⟩
    · rw [set_ob_ne _ _ _ e] at h1
      rw [set_loc_ne _ _ _ e] at h2
      exact .inr ⟨j, f', h1, h2⟩
  mem b' _ ho := World.putObj_heap_other (fun e => ho (e ▸ .inr ⟨o, 0, hmut, hl⟩))
  blk b' cs T' fz' hc := by
    have e : b' ≠ l := fun e => by subst e; rw [hh] at hc; cases hc; exact hnc _ _ _ rfl
    exact ⟨cs, fz', (World.putObj_heap_other e).trans hc, rfl⟩
  size := by simp
  bad := rfl
  oth b' x hx := by
    by_cases e : b' = l
    · subst e
      rw [hh] at hx
      cases hx
      rw [World.putObj_heap_same (lt_of_obj hh)]
      exact hoth
    · rw [World.putObj_heap_other e, hx]; exact OthK.same

theorem mem_putO {E : Env} {w : World} (m : Mem G E w) {o l : Nat} {x' : Ob} {y y' : Obj} (hmut : (E.ob o).mut = true) (hl : E.loc o = some (l, 0)) (hh : w.heap[l]? = some y) (hnc : ∀ cs T fz, y ≠ .cells cs T fz) (hoth : OthK y (some y')) (hsame : same (E.ob o) x')
    (hok : Evo E (E.set o x' (some (l, 0))) w (w.putObj l y') → ObOk (E.set o x' (some (l, 0))) (w.putObj l y') o x') : Mem G (E.set o x' (some (l, 0))) (w.putObj l y') := by
  have hev := evo_putO (y' := y') hmut hl hh hnc hoth hsame
  have hlive : E.ob o ≠ .dead := mut_ne hmut
  have hbo : E.born o := m.born_of hlive
  have hoths : ∀ b', b' ≠ l → (w.putObj l y').heap[b']? = w.heap[b']? := fun b' e => World.putObj_heap_other e
  refine m.step hev (fun j => j = o) (fun j hb hne => ?_) (fun j hj => by subst hj; rw [set_ob]; exact hok hev) (fun j hb => ?_) (fun p p' b' g g' h1 h2 h3 h4 => ?_) (fun p b' g h1 h2 => ?_) rfl rfl rfl (fun b' hb hm => ?_)
  · have hb' : E.born j := hb.resolve_right hne
    refine ⟨hb', set_ob_ne _ _ _ hne, set_loc_ne _ _ _ hne, fun b' g hd hl' => hoths b' fun e => hne ?_⟩
    subst e
    exact m.sep j o b' g 0 hd hlive hl' hl
  · have hne : j ≠ o := fun e => hb (.inr e)
    rw [set_ob_ne _ _ _ hne]
    exact m.unb j fun h => hb (.inl h)
  · have hl1 : ∀ q, (E.set o x' (some (l, 0))).loc q = E.loc q := by
      intro q
      by_cases e : q = o
      · subst e; rw [set_loc, hl]
      · rw [set_loc_ne _ _ _ e]
    have hd1 : ∀ q, (E.set o x' (some (l, 0))).ob q ≠ .dead → E.ob q ≠ .dead := by
      intro q hq
      by_cases e : q = o
      · subst e; exact hlive
      · rw [set_ob_ne _ _ _ e] at hq; exact hq
    rw [hl1] at h3 h4
    exact m.sep p p' b' g g' (hd1 p h1) (hd1 p' h2) h3 h4
  · by_cases e : p = o
    · subst e
      rw [set_loc] at h2
      cases h2
      exact m.new p l 0 hlive hl
    · rw [set_ob_ne _ _ _ e] at h1
      rw [set_loc_ne _ _ _ e] at h2
      exact m.new p b' g h1 h2
  · refine hoths b' fun e => ?_
    rw [e] at hb hm
    rcases m.new o l 0 hlive hl with h1 | h1
    · omega
    · exact hm h1

theorem itU_some {st : St} {op : Op} {pre : Prop} {lo : Nat} {s : List UInt8} {pos : Nat} (h : itU st op = some (pre, lo, s, pos)) :
    ∃ x, op = .next x true ∧ pkV (ev st.fr x) = .s (.yl lo) ∧ fo st.hp lo = .it s pos ∧ pre = pkP (ev st.fr x) := by
  unfold itU at h
  split at h
  · rename_i x
    split at h
    · rename_i o hv
      split at h
      · rename_i s' pos' ho
        cases h
        exact ⟨x, rfl, hv, ho, rfl⟩
      · cases h
    · cases h
  · cases h

/-- A STEP OF A WALK THROUGH A STRING. -/
theorem it_gen {o : Oper} {st : St} {pre : Prop} {lo : Nat} {s : List UInt8} {pos : Nat} (hi : itU st o.op = some (pre, lo, s, pos)) (hpre : pre) {E : Env} {a : Act} {w : World} (hc : Conc P G st E a w) {K : Act → World → Prop} {Q : Exit → Act → World → Prop}
    (h1 : pos < s.length → ∀ E a w, Conc P G ⟨setD st.fr o.dst (.tup [(false, [.bool true]), (false, [.int .i64 (pos : Int)]), (false, [.int .i32 ((decV s pos).1 : Int)])]), uo st.hp lo (.it s (pos + (decV s pos).2)), st.nx⟩ E a w → K a w)
    (h2 : ¬ pos < s.length → ∀ E a w, Conc P G ⟨setD st.fr o.dst (.tup [(false, [.bool false])]), st.hp, st.nx⟩ E a w → K a w) : o.wpIn (Fr G.rd) 0 P a w K Q := by
  obtain ⟨x, hop, hv, ho, rfl⟩ := itU_some hi
  have hob : E.ob lo = .it s pos := (hc.pre.ob lo).trans ho
  have hx := hc.pre.pk hpre
  rw [hv] at hx
  obtain ⟨hbn, hx⟩ := hx
  have hm := hc.pre.mem.hp lo hbn
  rw [hob] at hm
  obtain ⟨b, g1, g2, g3⟩ := hm
  rw [hob] at hx
  obtain ⟨b', k1, k2⟩ := hx
  rw [g1] at k1
  cases k1
  obtain ⟨d, op, ty, ps, af, gd⟩ := o
  simp only at hop
  subst hop
  refine op_in (fun c e => by cases e) ?_
  have hsz : (ByteArray.mk s.toArray).size = s.length := by simp [ByteArray.size]
  unfold Oper.wp
  by_cases hlt : pos < s.length
  · have hrun : (execOp a.eval ⟨d, .next x true, ty, ps, af, gd⟩).run P w = .ok (.value (.tuple #[.bool true, goInt pos, .int .i32 (Utf8.decode ⟨s.toArray⟩ pos).1])) (w.putObj b (.stringIter ⟨s.toArray⟩ (pos + (Utf8.decode ⟨s.toArray⟩ pos).2))) := by
      simp [execOp, k2, Instr.next, getObj, setObj, Sem.run, g2, hsz, hlt, World.putObj]
    rw [hrun]
    refine h1 hlt (E.set lo (.it s (pos + (decV s pos).2)) (some (b, 0))) _ _ ?_
    have hmut : (E.ob lo).mut = true := by rw [hob]; rfl
    have hsame : same (E.ob lo) (.it s (pos + (decV s pos).2)) := by rw [hob]; trivial
    have hnc : ∀ cs T fz, (Obj.stringIter ⟨s.toArray⟩ pos) ≠ .cells cs T fz := fun _ _ _ e => by cases e
    have hoth : OthK (.stringIter ⟨s.toArray⟩ pos) (some (.stringIter ⟨s.toArray⟩ (pos + (decV s pos).2))) := ⟨_, _, rfl⟩
    have hev := evo_putO hmut g1 g2 hnc hoth hsame
    have hd := decode_le ⟨s.toArray⟩ pos
    refine hc.behind (mem_putO hc.pre.mem hmut g1 g2 hnc hoth hsame fun _ => ⟨b, set_loc _ _ _ _, World.putObj_heap_same (lt_of_obj g2), g3⟩) hev (fun i => ?_) (fun i hi => ?_) ?_ (Nat.le_refl _)
    · show _ = fo (uo st.hp lo _) i
      rw [fo_uo]
      by_cases e : i = lo
      · subst e; rw [if_pos rfl, set_ob]
      · rw [if_neg e, set_ob_ne _ _ _ e]; exact hc.pre.ob i
    · rcases hi with hi | hi
      · exact .inl hi
      · subst hi; exact .inl hbn
    · refine ⟨[.bool true, goInt pos, .int .i32 (Utf8.decode ⟨s.toArray⟩ pos).1], rfl, rfl, fun i bl u j1 j2 => ?_⟩
      match i with
      | 0 => simp at j1 j2; subst j1; subst j2; exact ⟨fun h => (by cases h), fun _ => .one rfl⟩
      | 1 => simp at j1 j2; subst j1; subst j2; exact ⟨fun h => (by cases h), fun _ => .one ⟨rfl, by constructor <;> simp [IntKind.min, IntKind.max, IntKind.signed, IntKind.bits] <;> omega⟩⟩
      | 2 => simp at j1 j2; subst j1; subst j2; exact ⟨fun h => (by cases h), fun _ => .one ⟨rfl, by unfold decV; constructor <;> simp [IntKind.min, IntKind.max, IntKind.signed, IntKind.bits] <;> omega⟩⟩
      | n + 3 => simp at j1
  · have hrun : (execOp a.eval ⟨d, .next x true, ty, ps, af, gd⟩).run P w = .ok (.value (.tuple #[.bool false])) w := by
      simp [execOp, k2, Instr.next, getObj, Sem.run, g2, hsz, hlt]
    rw [hrun]
    refine h2 hlt E _ _ (hc.behind hc.pre.mem Evo.rfl' hc.pre.ob (fun i hi => .inl hi) ?_ (Nat.le_refl _))
    refine ⟨[.bool false], rfl, rfl, fun i bl u j1 j2 => ?_⟩
    match i with
    | 0 => simp at j1 j2; subst j1; subst j2; exact ⟨fun h => (by cases h), fun _ => .one rfl⟩
    | n + 1 => simp at j1

end
end
end Go.Proofs.YtaoplfeohffbiaaGreatDoor.Sx

/-! Maps: literal ones (for closed code), and maps of numbers in symbolic runs. -/
namespace Go.Proofs.YtaoplfeohffbiaaGreatDoor.Sx
set_option linter.unusedSimpArgs false
set_option linter.unusedVariables false
set_option linter.unusedSectionVars false
noncomputable section

/-- What an operation does: its value, what it turns, the next object's number. -/
structure FU where
  val : SV
  ws : List (Nat × Ob)
  hi : Nat
def fv (nx : Nat) (v : SV) : Option FU := some ⟨v, [], nx⟩
def orF : Option FU → Option FU → Option FU
  | some u, _ => some u
  | none, x => x
def keyI (P : Program) (kt : TypeId) : S1 → Bool
  | .int _ _ => match P.underlying kt with | some (.int _) => true | _ => false
  | .str _ => isStr P kt
  | .bool _ => isBool P kt
  | _ => false
/-- Are the keys the same? -/
def fkey : S1 → S1 → Option Bool
  | .int k n, .int k' m => bif keq k k' then some (decide (n = m)) else none
  | .str s, .str s' => some (decide (s = s'))
  | .bool b, .bool b' => some (b == b')
  | _, _ => none
def findM (x : S1) : List (S1 × SV) → Nat → Option (Option (Nat × SV))
  | [], _ => some none
  | e :: l, i => match fkey x e.1 with
    | some true => some (some (i, e.2))
    | some false => findM x l (i + 1)
    | none => none
def setM : List (S1 × SV) → Nat → S1 × SV → List (S1 × SV)
  | [], _, _ => []
  | _ :: l, 0, y => y :: l
  | x :: l, n + 1, y => x :: setM l n y
def mapOf (ob : Nat → Ob) : SV → Option (List (S1 × SV))
  | .s (.mr o) => match ob o with
    | .mp es => some es
    | _ => none
  | .s (.val (.map none)) => some []
  | _ => none
def lookR (nx : Nat) (ok : Bool) (v : SV) (found : Bool) : Option FU := match compOf v with
  | some c => fv nx (bif ok then .tup [c, (false, [.bool found])] else v)
  | none => none
def xLookup (P : Program) (ob : Nat → Ob) (nx : Nat) (t : TypeId) (m : SV) (ok : Bool) : SV → Option FU
  | .s x => match mapI P t, mapOf ob m with
    | some (kt, et), some es => bif keyI P kt x then (match findM x es 0 with
      | some (some (_, v)) => lookR nx ok v true
      | some none => match zeroV P et with
        | some z => lookR nx ok (ofVal z) false
        | none => none
      | none => none) else none
    | _, _ => none
  | _ => none
def xUpdate (P : Program) (ob : Nat → Ob) (nx : Nat) (t : TypeId) (x v : SV) : SV → Option FU
  | .s (.mr o) => match ob o with
    | .mp es => match mapI P t, x with
      | some (kt, _), .s k => bif keyI P kt k && isSA v then (match findM k es 0 with
        | some (some (i, _)) => some ⟨.unk, [(o, .mp (setM es i (k, v)))], nx⟩
        | some none => some ⟨.unk, [(o, .mp (es ++ [(k, v)]))], nx⟩
        | none => none) else none
      | _, _ => none
    | _ => none
  | _ => none

section
variable {P : Program} {G : Ctx} {E : Env} {w : World} {hp : List (Nat × Ob)} {nx : Nat} {fr fr' : List SV} {a : Act} {ob ob' : Nat → Ob}
variable {d : Option Tmp} {ty : TypeId} {pos : String} {af : Array Edge} {gd : Option (Nat × Bool)}

theorem land_newO (h : Pre P G E w hp fr a) {o : Oper} (hnx : ¬ E.born nx) {x : Ob} {y : Obj} {v : Value} {X : SV} (hr : (execOp a.eval o).run P w = .ok (.value v) (w.alloc y))
    (hok : ObOk (E.set nx x (some (w.heap.size, 0))) (w.alloc y) nx x) (hX : SVok (E.set nx x (some (w.heap.size, 0))) (w.alloc y) X v) : Land P G E w hp nx o a ⟨True, X, [(nx, x)], nx + 1, True⟩ := by
  intro K B hK
  unfold Oper.wp
  rw [hr, Oper.upon_value]
  refine hK v _ (E.set nx x (some (w.heap.size, 0))) (mem_newO h.mem hnx _ _ hok) (evo_new h.mem hnx x y) (fun i => ?_) (fun i hi => ?_) hX trivial
  · simp only [uos, fo_uo]
    by_cases hi : i = nx
    · subst hi; rw [set_ob, if_pos rfl]
    · rw [set_ob_ne _ _ _ hi, if_neg hi]; exact h.ob i
  · rcases hi with hi | rfl
    · exact .inl hi
    · exact .inr ⟨Nat.le_refl _, by simp⟩

theorem land_v (h : Pre P G E w hp fr a) {o : Oper} {X : SV} {v : Value} (hr : (execOp a.eval o).run P w = .ok (.value v) w) (hv : SVok E w X v) : Land P G E w hp nx o a ⟨True, X, [], nx, True⟩ := land_val h hr hv rfl trivial

theorem land_makeMap (h : Pre P G E w hp fr a) (hnx : ¬ E.born nx) {t : TypeId} : Land P G E w hp nx ⟨d, .makeMap t none, ty, pos, af, gd⟩ a ⟨True, .s (.mr nx), [(nx, .mp [])], nx + 1, True⟩ := by
  refine land_newO h hnx (y := .map #[] 0) (v := .map (some w.heap.size)) (by simp [execOp, Instr.makeMap, newObj]; rfl) ⟨w.heap.size, #[], 0, set_loc _ _ _ _, heap_alloc_at _ _, rfl, fun i x e h1 => by simp at h1⟩ ⟨.inr rfl, ?_⟩
  rw [set_ob]
  exact ⟨w.heap.size, set_loc _ _ _ _, rfl⟩

inductive KeyOk (P : Program) (kt : TypeId) (E : Env) (w : World) : S1 → Value → Prop
  | int {q k : IntKind} {n : Int} : P.underlying kt = some (.int q) → KeyOk P kt E w (.int k n) (.int k n)
  | str {s : List UInt8} : P.underlying kt = some .string → KeyOk P kt E w (.str s) (.string ⟨s.toArray⟩)
  | bool {b : Bool} : P.underlying kt = some .bool → KeyOk P kt E w (.bool b) (.bool b)

theorem keyI_ok {kt : TypeId} {x : S1} {v : Value} (h : keyI P kt x = true) (r : S1ok E w x v) : KeyOk P kt E w x v := by
  cases x <;> simp only [keyI] at h <;> try (cases h; done)
  · split at h
    · rename_i q hq
      rw [r.1]
      exact .int hq
    · cases h
  · unfold isBool at h
    split at h
    · rename_i hq
      rw [show v = _ from r]
      exact .bool hq
    · cases h
  · unfold isStr at h
    split at h
    · rename_i hq
      rw [r.1]
      exact .str hq
    · cases h

theorem KeyOk.check {kt : TypeId} {x : S1} {v : Value} (h : KeyOk P kt E w x v) (em : Bool) (w' : World) : (Instr.checkKey em 10000 kt v).run P w' = .ok () w' := by
  have key : ∀ n, (Instr.checkKey em (n + 1) kt v).run P w' = .ok () w' := fun n => by
    cases h <;> rename_i hu <;> simp [Instr.checkKey, run_underlying hu]
  exact key 9999

theorem ba_eq (s s' : List UInt8) : ((ByteArray.mk s.toArray) == (ByteArray.mk s'.toArray)) = decide (s = s') := by
  rw [Bool.eq_iff_iff]
  show (s.toArray == s'.toArray) = true ↔ _
  simp

theorem fkey_ok {kt : TypeId} {x y : S1} {k k' : Value} {t : Bool} (hf : fkey x y = some t) (hx : KeyOk P kt E w x k) (hy : S1ok E w y k') {kd : TypeDesc} (hk : P.underlying kt = some kd) :
    Instr.sameNow kd k k' = some t ∧ (t = true → k' = k) := by
  cases hx with
  | int hu =>
    rw [hu] at hk
    cases hk
    cases y <;> simp only [fkey, reduceCtorEq] at hf
    rename_i q k n k2 m
    cases hq : keq k k2
    · rw [hq] at hf; cases hf
    rw [hq] at hf
    have := keq_eq hq
    subst this
    cases hf
    rw [hy.1]
    refine ⟨?_, fun ht => by rw [of_decide_eq_true ht]⟩
    simp only [Instr.sameNow, if_true]
    congr 1
  | str hu =>
    rw [hu] at hk
    cases hk
    cases y <;> simp only [fkey, reduceCtorEq, Option.some.injEq] at hf
    subst hf
    rename_i s s'
    rw [hy.1]
    refine ⟨?_, fun ht => by rw [of_decide_eq_true ht]⟩
    simp only [Instr.sameNow, Option.some.injEq]
    exact ba_eq _ _
  | bool hu =>
    rw [hu] at hk
    cases hk
    cases y <;> simp only [fkey, reduceCtorEq, Option.some.injEq] at hf
    subst hf
    rw [show k' = _ from hy]
    refine ⟨rfl, fun ht => ?_⟩
    have := beq_iff_eq.1 ht
    rw [this]

theorem KeyOk.kd {kt : TypeId} {x : S1} {v : Value} (h : KeyOk P kt E w x v) : ∃ kd, P.underlying kt = some kd := by
  cases h <;> exact ⟨_, ‹_›⟩

theorem KeyOk.same {kt : TypeId} {x : S1} {v : Value} (h : KeyOk P kt E w x v) : Instr.sameBits 10000 v v = true := by
  cases h with
  | int => simp [Instr.sameBits]
  | str =>
    show ((ByteArray.mk _) == (ByteArray.mk _)) = true
    rw [ba_eq]
    simp
  | bool => simp [Instr.sameBits]

def EntOk (E : Env) (w : World) (es : List (S1 × SV)) (ents : List MapEntry) : Prop := ents.length = es.length ∧ ∀ (i : Nat) x e, es[i]? = some x → ents[i]? = some e → S1ok E w x.1 e.key ∧ SVok E w x.2 e.val

theorem find_ok {kt : TypeId} {x : S1} {k : Value} (hx : KeyOk P kt E w x k) {kd : TypeDesc} (hk : P.underlying kt = some kd) : ∀ (es : List (S1 × SV)) (ents : List MapEntry) (i : Nat) r, EntOk E w es ents → findM x es i = some r →
    (r = none ∧ Instr.findNow kd k ents i = some none) ∨ (∃ j p e, r = some (i + j, p.2) ∧ es[j]? = some p ∧ ents[j]? = some e ∧ Instr.findNow kd k ents i = some (some (i + j, e.val)) ∧ e.key = k)
  | [], [], i, r, _, h => by cases h; exact .inl ⟨rfl, rfl⟩
  | [], _ :: _, i, r, he, h => by have := he.1; simp at this
  | _ :: _, [], i, r, he, h => by have := he.1; simp at this
  | p :: es, e :: ents, i, r, he, h => by
    have h0 := he.2 0 p e rfl rfl
    have ht : EntOk E w es ents := ⟨by have := he.1; simpa using this, fun j x y h1 h2 => he.2 (j + 1) x y (by simpa using h1) (by simpa using h2)⟩
    simp only [findM] at h
    split at h
    · rename_i hf
      cases h
      obtain ⟨k1, k2⟩ := fkey_ok hf hx h0.1 hk
      refine .inr ⟨0, p, e, rfl, rfl, rfl, ?_, k2 rfl⟩
      simp only [Instr.findNow, k1]
      rfl
    · rename_i hf
      obtain ⟨k1, _⟩ := fkey_ok hf hx h0.1 hk
      rcases find_ok hx hk es ents (i + 1) r ht h with ⟨r1, r2⟩ | ⟨j, p', e', r1, r2, r3, r4, r5⟩
      · refine .inl ⟨r1, ?_⟩
        simp only [Instr.findNow, k1]
        exact r2
      · refine .inr ⟨j + 1, p', e', by rw [r1]; congr 2; omega, by simpa using r2, by simpa using r3, ?_, r5⟩
        simp only [Instr.findNow, k1]
        rw [r4]
        congr 3
        omega
    · cases h

theorem run_findKey {kt : TypeId} {k : Value} {kd : TypeDesc} (hk : P.underlying kt = some kd) {ents : List MapEntry} {r : Option (Nat × Value)} (h : Instr.findNow kd k ents 0 = some r) (w' : World) : (Instr.findKey kt k ents).run P w' = .ok r w' := by
  simp [Instr.findKey, run_underlying hk, h]

theorem compOf_tup {v : SV} {c : Bool × List S1} (h : compOf v = some c) {u : Value} (r : SVok E w v u) (b : Bool) : SVok E w (.tup [c, (false, [.bool b])]) (.tuple #[u, .bool b]) := by
  refine ⟨[u, .bool b], rfl, rfl, fun i bl y j1 j2 => ?_⟩
  match i with
  | 0 =>
    simp at j1 j2
    subst j1
    subst j2
    cases v <;> simp only [compOf, reduceCtorEq, Option.some.injEq] at h
    · subst h
      exact ⟨fun h => (by cases h), fun _ => .one r⟩
    · subst h
      exact ⟨fun _ => r, fun h => (by cases h)⟩
  | 1 => simp at j1 j2; subst j1; subst j2; exact ⟨fun h => (by cases h), fun _ => .one rfl⟩
  | n + 2 => simp at j1

theorem mapI_u {t kt et : TypeId} (h : mapI P t = some (kt, et)) : P.underlying t = some (.map kt et) := by
  unfold mapI at h
  split at h
  · rename_i k e hu
    cases h
    exact hu
  · cases h

theorem land_lookup0 (h : Pre P G E w hp fr a) {t : TypeId} {m x : Operand} {ok : Bool} {f : Operand → SV} (hm : SVok E w (f m) (a.eval m)) (hx : SVok E w (f x) (a.eval x)) {u : FU} (hs : xLookup P (fo hp) nx t (f m) ok (f x) = some u) :
    Land P G E w hp nx ⟨d, .lookup t m x ok, ty, pos, af, gd⟩ a ⟨True, u.val, u.ws, u.hi, True⟩ := by
  unfold xLookup at hs
  split at hs
  · rename_i y hy
    rw [hy] at hx
    split at hs
    · rename_i kt et es hmi hes
      have hu := mapI_u hmi
      cases hki : keyI P kt y
      · rw [hki] at hs; cases hs
      rw [hki] at hs
      simp only [cond_true] at hs
      have hk := keyI_ok hki hx
      obtain ⟨kd, hkd⟩ := hk.kd
      -- the entries
      obtain ⟨ents, hen, hrun⟩ : ∃ ents : Array MapEntry, EntOk E w es ents.toList ∧ ∀ (r : Option (Nat × Value)), Instr.findNow kd (a.eval x) ents.toList 0 = some r → ∀ z, (r = none → (zeroValue et).run P w = .ok z w) →
          (execOp a.eval ⟨d, .lookup t m x ok, ty, pos, af, gd⟩).run P w = .ok (.value (if ok then .tuple #[(match r with | some p => p.2 | none => z), .bool r.isSome] else (match r with | some p => p.2 | none => z))) w := by
        unfold mapOf at hes
        split at hes
        · rename_i o hmo
          rw [hmo] at hm
          obtain ⟨hb, hm⟩ := hm
          split at hes
          · rename_i es' hob
            cases hes
            have hob' : E.ob o = .mp es := (h.ob o).trans hob
            rw [hob'] at hm
            obtain ⟨b, hl, hv⟩ := hm
            have hmm := h.mem.hp o hb
            rw [hob'] at hmm
            obtain ⟨b', ents, c, k1, k2, k3, k4⟩ := hmm
            rw [hl] at k1
            cases k1
            refine ⟨ents, ⟨by simpa using k3, fun i x e h1 h2 => k4 i x e h1 (by simpa using h2)⟩, fun r hr z hz => ?_⟩
            have hf := run_findKey (P := P) hkd hr w
            have hc := hk.check (P := P) ents.isEmpty w
            cases r with
            | none => cases ok <;> simp [execOp, Instr.lookup, run_underlying hu, hv, getObj, Sem.run, k2, hc, hf, hz rfl]
            | some p => cases ok <;> simp [execOp, Instr.lookup, run_underlying hu, hv, getObj, Sem.run, k2, hc, hf]
          · cases hes
        · rename_i hmo
          cases hes
          rw [hmo] at hm
          have hv : a.eval m = .map none := hm
          refine ⟨#[], ⟨rfl, fun i x e h1 => by simp at h1⟩, fun r hr z hz => ?_⟩
          have hf := run_findKey (P := P) hkd hr w
          have hc := hk.check (P := P) true w
          simp only [Array.toList_empty] at hf
          cases r with
          | none => cases ok <;> simp [execOp, Instr.lookup, run_underlying hu, hv, hc, hf, hz rfl]
          | some p => simp [Instr.findNow] at hr
        · cases hes
      have fin : ∀ (v : SV) (u' : Value) (found : Bool), lookR nx ok v found = some u → SVok E w v u' → (execOp a.eval ⟨d, .lookup t m x ok, ty, pos, af, gd⟩).run P w = .ok (.value (if ok then .tuple #[u', .bool found] else u')) w → Land P G E w hp nx ⟨d, .lookup t m x ok, ty, pos, af, gd⟩ a ⟨True, u.val, u.ws, u.hi, True⟩ := by
        intro v u' found hl hv hr
        unfold lookR at hl
        split at hl
        · rename_i c hc
          cases hl
          cases ok
          · exact land_v h hr hv
          · exact land_v h hr (compOf_tup hc hv found)
        · cases hl
      split at hs
      · rename_i i v hf
        rcases find_ok hk hkd es ents.toList 0 _ hen hf with ⟨r1, _⟩ | ⟨j, p, e, r1, r2, r3, r4, _⟩
        · cases r1
        · cases r1
          exact fin _ e.val true hs (hen.2 j p e r2 r3).2 (hrun _ r4 undef (fun h => by cases h))
      · rename_i hf
        rcases find_ok hk hkd es ents.toList 0 _ hen hf with ⟨_, r2⟩ | ⟨j, p, e, r1, _⟩
        · split at hs
          · rename_i z hz
            have hzr : (zeroValue et).run P w = .ok z w := by
              unfold zeroV at hz
              split at hz
              · rename_i i hi
                simp [zeroValue, typeInfo, hi, hz]
              · cases hz
            exact fin _ z false hs (ofVal_ok E w z) (hrun _ r2 z (fun _ => hzr))
          · cases hs
        · cases r1
      · cases hs
    · cases hs
  · cases hs
theorem land_lookup (h : Pre P G E w hp fr a) {t : TypeId} {m x : Operand} {ok : Bool} {u : FU} (hs : xLookup P (fo hp) nx t (ev fr m) ok (ev fr x) = some u) :
    Land P G E w hp nx ⟨d, .lookup t m x ok, ty, pos, af, gd⟩ a ⟨True, u.val, u.ws, u.hi, True⟩ := land_lookup0 (f := ev fr) h (h.ev m) (h.ev x) hs

theorem setM_get : ∀ (l : List (S1 × SV)) (i : Nat) (y : S1 × SV) (j : Nat), (setM l i y)[j]? = if j = i ∧ i < l.length then some y else l[j]?
  | [], i, y, j => by simp [setM]
  | x :: l, 0, y, 0 => by simp [setM]
  | x :: l, 0, y, j + 1 => by simp [setM]
  | x :: l, i + 1, y, 0 => by simp [setM]
  | x :: l, i + 1, y, j + 1 => by simp [setM, setM_get l i y j]

theorem setM_len : ∀ (l : List (S1 × SV)) (i : Nat) (y : S1 × SV), (setM l i y).length = l.length
  | [], _, _ => rfl
  | x :: l, 0, y => rfl
  | x :: l, i + 1, y => by simp [setM, setM_len l i y]

theorem land_update0 (h : Pre P G E w hp fr a) {t : TypeId} {m k x : Operand} {f : Operand → SV} (hm : SVok E w (f m) (a.eval m)) (hk : SVok E w (f k) (a.eval k)) (hx : SVok E w (f x) (a.eval x)) {u : FU} (hs : xUpdate P (fo hp) nx t (f k) (f x) (f m) = some u) :
    Land P G E w hp nx ⟨d, .mapUpdate t m k x, ty, pos, af, gd⟩ a ⟨True, u.val, u.ws, u.hi, True⟩ := by
  unfold xUpdate at hs
  split at hs
  · rename_i o hmo
    rw [hmo] at hm
    obtain ⟨hb, hm⟩ := hm
    split at hs
    · rename_i es hob
      have hob' : E.ob o = .mp es := (h.ob o).trans hob
      rw [hob'] at hm
      obtain ⟨b, hl, hv⟩ := hm
      have hmm := h.mem.hp o hb
      rw [hob'] at hmm
      obtain ⟨b', ents, c, k1, k2, k3, k4⟩ := hmm
      rw [hl] at k1
      cases k1
      split at hs
      · rename_i kt et y hmi hky
        have hu := mapI_u hmi
        rw [hky] at hk
        cases hc : (keyI P kt y && isSA (f x))
        · rw [hc] at hs; cases hs
        rw [hc] at hs
        simp only [cond_true] at hs
        rw [Bool.and_eq_true] at hc
        have hkk := keyI_ok hc.1 hk
        obtain ⟨kd, hkd⟩ := hkk.kd
        have hen : EntOk E w es ents.toList := ⟨by simpa using k3, fun i x e h1 h2 => k4 i x e h1 (by simpa using h2)⟩
        have hmut : (E.ob o).mut = true := by rw [hob']; rfl
        have hnc : ∀ cs T fz, (Obj.map ents c) ≠ .cells cs T fz := fun _ _ _ e => by cases e
        have fin : ∀ (es' : List (S1 × SV)) (ents' : Array MapEntry) (c' : Nat), (execOp a.eval ⟨d, .mapUpdate t m k x, ty, pos, af, gd⟩).run P w = .ok .skip (w.putObj b (.map ents' c')) → ents'.size = es'.length →
            (∀ (i : Nat) p e, es'[i]? = some p → ents'[i]? = some e → S1ok E w p.1 e.key ∧ SVok E w p.2 e.val) →
            Land P G E w hp nx ⟨d, .mapUpdate t m k x, ty, pos, af, gd⟩ a ⟨True, .unk, [(o, .mp es')], nx, True⟩ := by
          intro es' ents' c' hr hsz hok K B hK
          unfold Oper.wp
          rw [hr, Oper.upon_skip]
          have hoth : OthK (.map ents c) (some (.map ents' c')) := ⟨_, _, rfl⟩
          have hsame : same (E.ob o) (.mp es') := by rw [hob']; trivial
          have hev := evo_putO hmut hl k2 hnc hoth hsame
          refine hK undef _ _ (mem_putO h.mem hmut hl k2 hnc hoth hsame fun _ => ⟨b, ents', c', set_loc _ _ _ _, World.putObj_heap_same (lt_of_obj k2), hsz, fun i p e h1 h2 => ⟨hev.s1 (hok i p e h1 h2).1, hev.sv (hok i p e h1 h2).2⟩⟩) hev (fun i => ?_) (fun i hi => ?_) trivial trivial
          · simp only [uos, fo_uo]
            by_cases hi : i = o
            · subst hi; rw [set_ob, if_pos rfl]
            · rw [set_ob_ne _ _ _ hi, if_neg hi]; exact h.ob i
          · rcases hi with hi | rfl
            · exact .inl hi
            · exact .inl hb
        have hck := hkk.check (P := P) false w
        split at hs
        · rename_i i v hf
          cases hs
          rcases find_ok hkk hkd es ents.toList 0 _ hen hf with ⟨r1, _⟩ | ⟨j, p, e, r1, r2, r3, r4, r5⟩
          · cases r1
          · simp only [Option.some.injEq, Prod.mk.injEq, Nat.zero_add] at r1
            obtain ⟨rfl, rfl⟩ := r1
            rw [Nat.zero_add] at r4
            have hfk := run_findKey (P := P) hkd r4 w
            have hej : ents[i]? = some e := by simpa using r3
            refine fin (setM es i (y, f x)) (ents.modify i fun e => { e with key := a.eval k, val := a.eval x }) c ?_ ?_ ?_
            · have hsb := hkk.same (P := P)
              simp [execOp, Instr.mapUpdate, run_underlying hu, hv, getObj, Sem.run, k2, hck, hfk, hej, r5, Instr.keyThatStays, hsb, setObj, World.putObj]
            · rw [setM_len]; simpa using k3
            · intro j p2 e2 h1 h2
              rw [setM_get] at h1
              rw [Array.getElem?_modify] at h2
              by_cases hj : j = i
              · subst hj
                have hlt : j < es.length := (List.getElem?_eq_some_iff.1 r2).1
                rw [if_pos ⟨rfl, hlt⟩] at h1
                rw [if_pos rfl, hej] at h2
                cases h1
                cases h2
                exact ⟨hk, hx⟩
              · rw [if_neg fun hh => hj hh.1] at h1
                rw [if_neg (Ne.symm hj)] at h2
                exact k4 j p2 e2 h1 h2
        · rename_i hf
          cases hs
          rcases find_ok hkk hkd es ents.toList 0 _ hen hf with ⟨_, r2⟩ | ⟨j, p, e, r1, _⟩
          · have hfk := run_findKey (P := P) hkd r2 w
            refine fin (es ++ [(y, f x)]) (ents.push { key := a.eval k, val := a.eval x, born := c }) (c + 1) ?_ (by simp [k3]) ?_
            · simp [execOp, Instr.mapUpdate, run_underlying hu, hv, getObj, Sem.run, k2, hck, hfk, setObj, World.putObj]
            · intro j p2 e2 h1 h2
              rw [List.getElem?_append] at h1
              rw [Array.getElem?_push] at h2
              by_cases hj : j < es.length
              · rw [if_pos hj] at h1
                rw [if_neg (by omega)] at h2
                exact k4 j p2 e2 h1 h2
              · rw [if_neg hj] at h1
                have : j - es.length = 0 := by
                  have := (List.getElem?_eq_some_iff.1 h1).1
                  simp at this; omega
                rw [this] at h1
                simp at h1
                subst h1
                rw [if_pos (by omega)] at h2
                cases h2
                exact ⟨hk, hx⟩
          · cases r1
        · cases hs
      · cases hs
    · cases hs
  · cases hs
theorem land_update (h : Pre P G E w hp fr a) {t : TypeId} {m k x : Operand} {u : FU} (hs : xUpdate P (fo hp) nx t (ev fr k) (ev fr x) (ev fr m) = some u) :
    Land P G E w hp nx ⟨d, .mapUpdate t m k x, ty, pos, af, gd⟩ a ⟨True, u.val, u.ws, u.hi, True⟩ := land_update0 (f := ev fr) h (h.ev m) (h.ev k) (h.ev x) hs

/-! ### Maps of numbers -/
theorem isIM1_eq {x : S1 × SV} (h : isIM1 x = true) : x = mp1 (unM1 x) := by
  obtain ⟨y1, y2⟩ := x
  unfold isIM1 at h
  split at h
  · rename_i k n k' m heq
    cases heq
    rw [Bool.and_eq_true] at h
    rw [keq_eq h.1, keq_eq h.2]
    rfl
  · cases h
theorem mpL_unM : ∀ {es : List (S1 × SV)}, isIM es = true → mpL (unM es) = es
  | [], _ => rfl
  | x :: es, h => by
    simp only [isIM, Bool.and_eq_true] at h
    have ih := mpL_unM h.2
    simp only [mpL, unM, List.map_cons] at ih ⊢
    rw [ih, ← isIM1_eq h.1]
theorem find_mp (n v : Int) : ∀ (l : List (Int × Int)) (i : Nat), (findM (.int .i64 n) (mpL l) i = some none ∧ lookI l n = 0 ∧ mpL l ++ [mp1 (n, v)] = mpL (updI l n v)) ∨
    ∃ j, findM (.int .i64 n) (mpL l) i = some (some (i + j, .s (.int .i64 (lookI l n)))) ∧ setM (mpL l) j (mp1 (n, v)) = mpL (updI l n v)
  | [], i => .inl ⟨rfl, rfl, rfl⟩
  | p :: l, i => by
    by_cases hp : n = p.1
    · refine .inr ⟨0, ?_, ?_⟩
      · simp [mpL, mp1, findM, fkey, keq, hp, lookI]
      · simp [mpL, setM, updI, hp]
    · rcases find_mp n v l (i + 1) with ⟨h1, h2, h3⟩ | ⟨j, h1, h2⟩
      · refine .inl ⟨?_, ?_, ?_⟩
        · simp only [mpL, List.map_cons, findM, mp1, fkey, keq, cond_true, hp, decide_false]
          exact h1
        · simp only [lookI, if_neg hp, h2]
        · simp only [mpL, List.map_cons, updI, if_neg hp, List.cons_append] at h3 ⊢
          rw [h3]
      · refine .inr ⟨j + 1, ?_, ?_⟩
        · have h1' : findM (.int .i64 n) (mpL l) (i + 1) = some (some (i + (j + 1), .s (.int .i64 (lookI l n)))) := by rw [h1]; congr 3; omega
          simp only [mpL, List.map_cons, findM, mp1, fkey, keq, cond_true, hp, decide_false, lookI, if_false]
          exact h1'
        · simp only [mpL, List.map_cons, updI, if_neg hp, setM] at h2 ⊢
          rw [h2]

theorem yMI_u {t : TypeId} (h : yMI P t = true) : ∃ kt et, mapI P t = some (kt, et) ∧ P.underlying kt = some (.int .i64) ∧ zeroV P et = some (.int .i64 0) := by
  unfold yMI at h
  split at h
  · rename_i kt et hm
    rw [Bool.and_eq_true] at h
    obtain ⟨h1, h2⟩ := h
    refine ⟨kt, et, hm, ?_, ?_⟩
    · split at h1
      · assumption
      · cases h1
    · split at h2
      · assumption
      · cases h2
  · cases h

theorem mpU_ok (h : Pre P G E w hp fr a) {o : Op} {u : Up} (hs : mpU P (fo hp) nx fr o = some u) (hnx : nx < u.hi → ¬ E.born nx) (ho : u.owe) : Land P G E w hp nx ⟨d, o, ty, pos, af, gd⟩ a u := by
  have upd : ∀ (t : TypeId) (m k x : Operand), yUpd P (fo hp) nx (pkP (ev fr m) ∧ pkP (ev fr k) ∧ pkP (ev fr x)) t (pkV (ev fr k)) (pkV (ev fr x)) (pkV (ev fr m)) = some u → Land P G E w hp nx ⟨d, .mapUpdate t m k x, ty, pos, af, gd⟩ a u := by
    intro t m k x hs
    unfold yUpd at hs
    split at hs
    · rename_i o1 e1
      split at hs
      · rename_i n e2
        split at hs
        · rename_i v e3
          split at hs
          · rename_i es hob
            cases hc : yMI P t
            · rw [hc] at hs; cases hs
            rw [hc] at hs
            cases hs
            obtain ⟨⟨p1, p2, p3⟩, hI⟩ := ho
            have hm := h.pk p1
            have hk := h.pk p2
            have hx := h.pk p3
            rw [e1] at hm
            rw [e2] at hk
            rw [e3] at hx
            obtain ⟨kt, et, hmi, hku, hz⟩ := yMI_u hc
            have hes := mpL_unM hI
            have key : ∃ u' : FU, xUpdate P (fo hp) nx t (.s (.int .i64 n)) (.s (.int .i64 v)) (.s (.mr o1)) = some u' ∧ u'.val = .unk ∧ u'.ws = [(o1, .mp (mpL (updI (unM es) n v)))] ∧ u'.hi = nx := by
              rcases find_mp n v (unM es) 0 with ⟨q1, q2, q3⟩ | ⟨j, q1, q2⟩
              · rw [hes] at q1 q3
                have q3' : es ++ [(S1.int IntKind.i64 n, SV.s (S1.int IntKind.i64 v))] = mpL (updI (unM es) n v) := q3
                exact ⟨⟨.unk, [(o1, .mp (mpL (updI (unM es) n v)))], nx⟩, by simp only [xUpdate, hob, hmi, keyI, hku, isSA, Bool.and_self, cond_true, q1, q3'], rfl, rfl, rfl⟩
              · rw [hes] at q1 q2
                rw [Nat.zero_add] at q1
                have q2' : setM es j (S1.int IntKind.i64 n, SV.s (S1.int IntKind.i64 v)) = mpL (updI (unM es) n v) := q2
                exact ⟨⟨.unk, [(o1, .mp (mpL (updI (unM es) n v)))], nx⟩, by simp only [xUpdate, hob, hmi, keyI, hku, isSA, Bool.and_self, cond_true, q1, q2'], rfl, rfl, rfl⟩
            obtain ⟨u', k0, k1, k2, k3⟩ := key
            have := land_update0 (d := d) (ty := ty) (pos := pos) (af := af) (gd := gd) (f := fun y => pkV (ev fr y)) h (h.pk p1) (h.pk p2) (h.pk p3) (u := u') (by simp only [e1, e2, e3]; exact k0)
            rw [k1, k2, k3] at this
            exact this
          · cases hs
        · cases hs
      · cases hs
    · cases hs
  unfold mpU at hs
  split at hs
  · cases hs
    exact land_makeMap h (hnx (Nat.lt_succ_self _))
  · rename_i t m x
    unfold yLook at hs
    split at hs
    · rename_i o1 e1
      split at hs
      · rename_i n e2
        split at hs
        · rename_i es hob
          cases hc : yMI P t
          · rw [hc] at hs; cases hs
          rw [hc] at hs
          cases hs
          obtain ⟨⟨p1, p2⟩, hI⟩ := ho
          have hm := h.pk p1
          have hx := h.pk p2
          rw [e1] at hm
          rw [e2] at hx
          obtain ⟨kt, et, hmi, hku, hz⟩ := yMI_u hc
          have hes := mpL_unM hI
          have key : ∃ u' : FU, xLookup P (fo hp) nx t (.s (.mr o1)) false (.s (.int .i64 n)) = some u' ∧ u'.val = .s (.int .i64 (lookI (unM es) n)) ∧ u'.ws = [] ∧ u'.hi = nx := by
            rcases find_mp n 0 (unM es) 0 with ⟨q1, q2, q3⟩ | ⟨j, q1, q2⟩
            · rw [hes] at q1
              rw [q2]
              exact ⟨⟨.s (.int .i64 0), [], nx⟩, by simp only [xLookup, mapOf, hob, hmi, keyI, hku, cond_true, q1, hz, lookR, ofVal, of1, compOf, fv, cond_false]; rfl, rfl, rfl, rfl⟩
            · rw [hes] at q1
              exact ⟨⟨.s (.int .i64 (lookI (unM es) n)), [], nx⟩, by simp only [xLookup, mapOf, hob, hmi, keyI, hku, cond_true, q1, lookR, compOf, fv, cond_false], rfl, rfl, rfl⟩
          obtain ⟨u', k0, k1, k2, k3⟩ := key
          have := land_lookup0 (d := d) (ty := ty) (pos := pos) (af := af) (gd := gd) (f := fun y => pkV (ev fr y)) (ok := false) h (h.pk p1) (h.pk p2) (u := u') (by simp only [e1, e2]; exact k0)
          rw [k1, k2, k3] at this
          exact this
        · cases hs
      · cases hs
    · cases hs
  · exact upd _ _ _ _ hs
  · rename_i t m k x
    have := upd t m k x hs
    exact this
  · cases hs

theorem mpU_hi {op : Op} {u : Up} (h : mpU P ob nx fr op = some u) : nx ≤ u.hi := by
  unfold mpU at h
  split at h
  · cases h; exact Nat.le_succ _
  all_goals (try simp only [yLook, yUpd, cond_eq_ite] at h)
  all_goals (repeat' (split at h))
  all_goals (first | (cases h; done) | (cases h; exact Nat.le_refl _))

theorem mpU_nd {op : Op} {u : Up} (h : mpU P ob nx fr op = some u) : ∀ c, op ≠ .defer c := fun c e => by subst e; cases h

end
end
end Go.Proofs.YtaoplfeohffbiaaGreatDoor.Sx

/-! The symbolic run: what it proves; contracts, loops; what it is evaluated by. -/
namespace Go.Proofs.YtaoplfeohffbiaaGreatDoor.Sx
set_option linter.unusedSimpArgs false
set_option linter.unusedVariables false
set_option linter.unusedSectionVars false
noncomputable section

variable [FactG]
/-- The code k, from the state st on, comes to what Q says of its end; kp: the objects that callers name. -/
def OkQ (P : Program) (kp : List Nat) (Q : St → Prop) (k : List It) (st : St) : Prop :=
  ∀ (G : Ctx) (B : Exit → Act → World → Prop), KpOk G kp → (∀ st E a w, Q st → Conc P G st E a w → B .ret a w ∧ B .normal a w) → Ok P G B k st

section
variable {P : Program} {G : Ctx} {B : Exit → Act → World → Prop}
/-- AN EMPTY OBJECT that lies nowhere: for a nil slice that a loop appends to. -/
theorem Ok.virt (z : Nat) (e : Ty) {k : List It} {fr : List SV} {hp : List (Nat × Ob)} {nx : Nat} (h : Ok P G B k ⟨fr, uo hp nx (.arr false z e []), nx + 1⟩) : Ok P G B k ⟨fr, hp, nx⟩ := by
  intro E a w hc
  have hn : ¬ E.born nx := fun hb => Nat.lt_irrefl _ (hc.born nx hb)
  have m := hc.pre.mem
  have hev : Evo E (E.set nx (.arr false z e []) none) w w := by
    refine ⟨fun j hj => .inl hj, fun j hj => ?_, fun b hb ho => ?_, fun _ _ _ => rfl, fun b cs T fz h => ⟨cs, fz, h, rfl⟩, Nat.le_refl _, rfl, fun b y hy => by rw [hy]; exact OthK.same⟩
    · have hne : j ≠ nx := fun e => hn (e ▸ hj)
      rw [set_ob_ne _ _ _ hne, set_loc_ne _ _ _ hne]
      exact (Evo.rfl' (E := E) (w := w)).keep j hj
    · rcases ho with ho | ⟨j, f, h1, h2⟩
      · exact .inl ho
      by_cases hj : j = nx
      · subst hj; rw [set_loc] at h2; cases h2
      · rw [set_ob_ne _ _ _ hj] at h1
        rw [set_loc_ne _ _ _ hj] at h2
        exact .inr ⟨j, f, h1, h2⟩
  refine h (E.set nx (.arr false z e []) none) a w ⟨⟨m.step hev (fun o => o = nx) (fun o ho hne => ?_) (fun o ho => ?_) (fun o ho => ?_) (fun o o' b f f' h1 h2 h3 h4 => ?_) (fun o b f h1 h2 => ?_) rfl rfl rfl (fun _ _ _ => rfl), fun i => ?_, fun i => hev.sv (hc.pre.fr i)⟩, fun i hi => ?_, hc.len, hc.dfr.evo hev, hc.rd⟩
  · exact ⟨ho.resolve_right hne, set_ob_ne _ _ _ hne, set_loc_ne _ _ _ hne, fun _ _ _ _ => rfl⟩
  · subst ho
    rw [set_ob]
    refine ⟨by simp, ?_⟩
    rw [set_loc]
  · have hne : o ≠ nx := fun e => ho (.inr e)
    rw [set_ob_ne _ _ _ hne]
    exact m.unb o fun hb => ho (.inl hb)
  · by_cases e1 : o = nx
    · subst e1; rw [set_loc] at h3; cases h3
    · by_cases e2 : o' = nx
      · subst e2; rw [set_loc] at h4; cases h4
      · rw [set_ob_ne _ _ _ e1] at h1
        rw [set_ob_ne _ _ _ e2] at h2
        rw [set_loc_ne _ _ _ e1] at h3
        rw [set_loc_ne _ _ _ e2] at h4
        exact m.sep o o' b f f' h1 h2 h3 h4
  · by_cases e1 : o = nx
    · subst e1; rw [set_loc] at h2; cases h2
    · rw [set_ob_ne _ _ _ e1] at h1
      rw [set_loc_ne _ _ _ e1] at h2
      exact m.new o b f h1 h2
  · show _ = fo (uo hp nx _) i
    rw [fo_uo]
    by_cases e1 : i = nx
    · rw [if_pos e1, e1, set_ob]
    · rw [if_neg e1, set_ob_ne _ _ _ e1]; exact hc.pre.ob i
  · rcases hi with hi | hi
    · have := hc.born i hi
      show i < nx + 1
      exact Nat.lt_succ_of_lt this
    · show i < nx + 1
      omega

end

section
variable {P : Program} {Cs : List Con}

theorem RetI.mono {rs : List ResultVar} {R R' : SV → List (Nat × Ob) → Nat → Prop} (hR : ∀ v hp nx, R v hp nx → R' v hp nx) {st : St} (h : RetI P rs R st) : RetI P rs R' st := by
  unfold RetI at h ⊢
  split at h
  · exact ⟨h.1, hR _ _ _ h.2⟩
  · exact h.elim

theorem mem_ddN : ∀ {l : List Nat} {i : Nat}, i ∈ l → i ∈ ddN l
  | x :: l, i, h => by
    unfold ddN
    cases hm : memN x l
    · simp only [cond_false]
      rcases List.mem_cons.1 h with rfl | h
      · exact List.mem_cons_self
      · exact List.mem_cons_of_mem _ (mem_ddN h)
    · simp only [cond_true]
      rcases List.mem_cons.1 h with rfl | h
      · exact mem_ddN ((memN_iff _ _).1 hm)
      · exact mem_ddN h

theorem idsF_at : ∀ (l : List SV) (i : Nat), ∀ o ∈ idsA (gl l i), o ∈ idsF l
  | [], i, o, h => by cases i <;> exact h
  | x :: l, 0, o, h => List.mem_append_left _ h
  | x :: l, i + 1, o, h => List.mem_append_right _ (idsF_at l i o h)

theorem bodyI_some {g : Nat} {code : Code} {rs : List ResultVar} {nt : Nat} (h : bodyI P g = some (code, rs, nt)) : ∃ fn, P.funcs[g]? = some fn ∧ fn.name ≠ "runtime.NumGoroutine" ∧ fn.body = some code ∧ fn.results.toList = rs ∧ fn.ntmps = nt := by
  unfold bodyI at h
  split at h
  · rename_i fn hf
    split at h
    · cases h
    · rename_i hn
      unfold bodyF at h
      split at h
      · rename_i c hc
        cases h
        exact ⟨fn, hf, hn, hc, rfl, rfl⟩
      · cases h
  · cases h

theorem inlU_some {inl : List Nat} {st : St} {op : Op} {pre : Prop} {code : Code} {rs : List ResultVar} {fr' : List SV} (h : inlU P inl st op = some (pre, code, rs, fr')) :
    ∃ c f g caps fn, op = .call c ∧ c.callee = .value f ∧ fnS (pkV (ev st.fr f)) = .s (.fn g caps) ∧ boxes (fo st.hp) caps = true ∧ P.funcs[g]? = some fn ∧ fn.body = some code ∧ fn.name ≠ "runtime.NumGoroutine" ∧
      c.args.size + caps.length ≤ fn.ntmps ∧ fn.results.toList = rs ∧ pre = (pkP (ev st.fr f) ∧ pkPs st.fr c.args.toList) ∧ fr' = appSV (pkVs st.fr c.args.toList) (appSV (pbs caps) (unks (fn.ntmps - (c.args.size + caps.length)))) := by
  unfold inlU at h
  split at h
  · rename_i c
    split at h
    · rename_i f hf
      split at h
      · rename_i g caps hv
        cases hb : (memN g inl && boxes (fo st.hp) caps) <;> rw [hb] at h <;> simp only [cond_true, cond_false, reduceCtorEq] at h
        split at h
        · rename_i code' rs' nt hbi
          cases hs : Nat.ble (c.args.size + caps.length) nt <;> rw [hs] at h <;> simp only [cond_true, cond_false, reduceCtorEq, Option.some.injEq, Prod.mk.injEq] at h
          obtain ⟨rfl, rfl, rfl, rfl⟩ := h
          obtain ⟨fn, h1, h2, h3, h4, h5⟩ := bodyI_some hbi
          subst h5
          simp only [Bool.and_eq_true] at hb
          exact ⟨c, f, g, caps, fn, rfl, hf, hv, hb.2, h1, h3, h2, Nat.le_of_ble_eq_true hs, h4, rfl, rfl⟩
        · cases h
      · cases h
    · cases h
  · cases h

/-- THE SYMBOLIC RUN HOLDS OF THE MACHINE. -/
theorem run_ok (hCs : ∀ c ∈ Cs, c.Ok P) {stp inl : List Nat} {unr : Bool} :
    ∀ (n : Nat) (kp : List Nat) (Q : St → Prop) (k : List It) (st : St), run P Cs stp inl unr (OkQ P) n kp Q k st → OkQ P kp Q k st := by
  intro n
  induction n with
  | zero => intro kp Q k st h; exact h
  | succ n ih =>
    intro kp Q k st h G B hs hQ
    cases k with
    | nil => exact fun E a w hc => (hQ st E a w h hc).2
    | cons i k =>
      cases i with
      | blk id => exact fun E a w hc => ih kp Q k st h G B hs hQ E a w hc
      | scp _ => exact fun E a w hc => ih kp Q k st h G B hs hQ E a w hc
      | rnd X => exact Ok.rnd h
      | beg o =>
        simp only [run] at h
        split at h
        · rename_i ho
          exact Ok.beg ho (ih _ _ _ _ h G B hs hQ)
        · exact h.elim
      | lp c => exact Ok.lp (ih kp Q _ st h G B hs hQ)
      | fin J => exact fun E a w hc => ⟨st, E, hc, h⟩
      | ops all l =>
        cases l with
        | nil => exact Ok.ops_nil (ih kp Q k st h G B hs hQ)
        | cons o l =>
          simp only [run] at h
          split at h
          · split at h
            · split at h
              · split at h
                · rename_i hg
                  split at h
                  · split at h
                    · exact h G B hs hQ
                    · rename_i u hu
                      intro E a w hc
                      refine wpListIn_plain hg fun K hK => ?_
                      have hL := mpU_ok (d := o.dst) (ty := o.type) (pos := o.pos) (af := o.after) (gd := o.guard) hc.pre hu (fun _ hb => by have := hc.born _ hb; omega) h.1
                      exact op_in (mpU_nd hu) <| hL K _ fun v w' E' hm hev hob hb hv _ => hK _ _ (ih kp Q _ _ h.2 G B hs hQ E' _ w' (hc.behind hm hev hob hb hv (mpU_hi hu)))
                  · rename_i pre lo s pos hi
                    intro E a w hc
                    refine wpListIn_plain hg fun K hK => it_gen hi h.1 hc (fun hlt E a w hc => hK _ _ (ih kp Q _ _ (h.2.1 (decide_eq_true hlt)) G B hs hQ E a w hc)) (fun hlt E a w hc => hK _ _ (ih kp Q _ _ (h.2.2 (decide_eq_false hlt)) G B hs hQ E a w hc))
                · rename_i j want hg
                  split at h
                  · exact h G B hs hQ
                  · rename_i gb hv
                    split at h
                    · cases gb
                      · intro E a w hc
                        refine wpListIn_step fun K hK => ?_
                        have hw := gval_ok hc hg hv
                        rw [if_neg (by rw [hw]; simp)]
                        exact ⟨fun _ _ => Fr_fn, hK _ _ (ih kp Q _ _ (h.2 rfl) G B hs hQ E _ w (hc.behind hc.pre.mem Evo.rfl' hc.pre.ob (fun i hi => .inl hi) (X := .unk) trivial (Nat.le_refl _)))⟩
                      · exact h.1 rfl G B hs hQ
                    · rename_i u hu
                      split at h
                      · rename_i hws
                        intro E a w hc
                        refine wpListIn_step fun K hK => ?_
                        have hw := gval_ok hc hg hv
                        cases gb
                        · rw [if_neg (by rw [hw]; simp)]
                          exact ⟨fun _ _ => Fr_fn, hK _ _ (ih kp Q _ _ h.2 G B hs hQ E _ w (hc.behind hc.pre.mem Evo.rfl' hc.pre.ob (fun i hi => .inl hi) (X := .gd false u.val) ⟨fun h0 => (by cases h0), fun _ => rfl⟩ (mpU_hi hu)))⟩
                        · rw [if_pos hw]
                          have hL := mpU_ok (d := o.dst) (ty := o.type) (pos := o.pos) (af := o.after) (gd := o.guard) hc.pre hu (fun _ hb => by have := hc.born _ hb; omega) (h.1 rfl)
                          exact op_in (mpU_nd hu) <| hL K _ fun v w' E' hm hev hob hb hv _ => hK _ _ (ih kp Q _ _ h.2 G B hs hQ E' _ w' (hc.behind hm hev (by rw [hws] at hob; exact hob) hb (X := .gd true u.val) ⟨fun _ => hv, fun h0 => (by cases h0)⟩ (mpU_hi hu)))
                      · intro E a w hc
                        refine wpListIn_step fun K hK => ?_
                        have hw := gval_ok hc hg hv
                        cases gb
                        · rw [if_neg (by rw [hw]; simp)]
                          exact ⟨fun _ _ => Fr_fn, hK _ _ (ih kp Q _ _ (h.2 rfl) G B hs hQ E _ w (hc.behind hc.pre.mem Evo.rfl' hc.pre.ob (fun i hi => .inl hi) (X := .unk) trivial (Nat.le_refl _)))⟩
                        · rw [if_pos hw]
                          obtain ⟨how, h⟩ := h.1 rfl
                          have hL := mpU_ok (d := o.dst) (ty := o.type) (pos := o.pos) (af := o.after) (gd := o.guard) hc.pre hu (fun _ hb => by have := hc.born _ hb; omega) how
                          exact op_in (mpU_nd hu) <| hL K _ fun v w' E' hm hev hob hb hv _ => hK _ _ (ih kp Q _ _ h G B hs hQ E' _ w' (hc.behind hm hev hob hb hv (mpU_hi hu)))
              · rename_i pre lo fr' asg body hi
                have key : pre ∧ run P Cs stp inl unr (OkQ P) n (ddN (lo :: (idsF st.fr ++ kp))) noQ [.c asg, .beg lo, .c body, .rnd (rndX (run P Cs stp inl unr (OkQ P) n) kp Q (.ops all l :: k) st.fr o.dst lo)] ⟨fr', st.hp, st.nx⟩ →
                    ∀ {E : Env} {a : Act} {w : World}, Conc P G st E a w → ∀ {K : Act → World → Prop}, (∀ a w, wpListIn (Fr G.rd) 0 P all.toArray (kont P G B k) l a w → K a w) → o.wpIn (Fr G.rd) 0 P a w K (kont P G B k) := by
                  intro hh E a w hc K hK
                  refine yield_gen (R := fun v hp nx => Ok P G B (.ops all l :: k) ⟨setD st.fr o.dst v, hp, nx⟩) hi hh.1 (fun G' B' hs' hr' => ih _ _ _ _ hh.2 G' B' ⟨fun p hp i hi => ?_, fun p hp => ?_, fun E0 w1 h0 o ho => ?_, by rw [hr'.2]; exact hs.2.2.2⟩ (fun _ _ _ _ hq _ => hq.elim)) (fun e st2 hx => ?_) hc fun v hp nx E a w hok hcc => hK _ _ (hok E a w hcc)
                  · rcases hs' p hp with ⟨j, hj⟩ | hp
                    · rw [hj] at hi
                      exact mem_ddN (List.mem_cons_of_mem _ (List.mem_append_left _ (idsF_at _ _ _ hi)))
                    · exact mem_ddN (List.mem_cons_of_mem _ (List.mem_append_right _ (hs.1 p hp i hi)))
                  · rcases hr'.1 p hp with hp | hp
                    · rw [hp]; exact mem_ddN (List.mem_cons_self ..)
                    · exact mem_ddN (List.mem_cons_of_mem _ (List.mem_append_right _ (hs.2.1 p hp)))
                  · exact mem_ddN (List.mem_cons_of_mem _ (List.mem_append_right _ (hs.2.2.1 E0 w1 ((congrArg Prod.fst hr'.2).symm.trans h0) o ho)))
                  · rw [rndX_at] at hx
                    unfold RN
                    split at hx
                    · rename_i ho2
                      rw [ho2]
                      cases e <;> first | exact ih _ _ _ _ hx G B hs hQ | exact hx.elim
                    · exact hx.elim
                split at h
                · rename_i hg
                  intro E a w hc
                  exact wpListIn_plain hg fun K hK => key h hc hK
                · rename_i j want hg
                  split at h
                  · exact h.elim
                  · rename_i gb hv
                    intro E a w hc
                    refine wpListIn_step fun K hK => ?_
                    have hw := gval_ok hc hg hv
                    cases gb
                    · rw [if_neg (by rw [hw]; simp)]
                      exact ⟨fun _ _ => Fr_fn, hK _ _ (ih kp Q _ _ (h.2 rfl) G B hs hQ E _ w (hc.behind hc.pre.mem Evo.rfl' hc.pre.ob (fun i hi => .inl hi) (X := .unk) trivial (Nat.le_refl _)))⟩
                    · rw [if_pos hw]
                      exact key (h.1 rfl) hc hK
            · rename_i pre code rs fr' hi
              obtain ⟨c, f, g, caps, fn, h1, h2, h3, h4, h5, h6, h7, h8, rfl, rfl, rfl⟩ := inlU_some hi
              have key : (pkP (ev st.fr f) ∧ pkPs st.fr c.args.toList) ∧ run P Cs stp inl unr (OkQ P) n (ddN (idsF st.fr ++ kp)) (inlJ P (run P Cs stp inl unr (OkQ P) n) fn.results.toList kp Q (.ops all l :: k) st.fr o.dst) [.c code] ⟨appSV (pkVs st.fr c.args.toList) (appSV (pbs caps) (unks (fn.ntmps - (c.args.size + caps.length)))), st.hp, st.nx⟩ →
                  ∀ {E : Env} {a : Act} {w : World}, Conc P G st E a w → ∀ {K : Act → World → Prop}, (∀ a w, wpListIn (Fr G.rd) 0 P all.toArray (kont P G B k) l a w → K a w) → o.wpIn (Fr G.rd) 0 P a w K (kont P G B k) := by
                intro hh E a w hc K hK
                refine inline_op h1 h2 h3 hh.1 h4 h5 h6 h7 h8 (fun G' B' hs' hr' hB' => ?_) hc hK
                refine ih _ _ _ _ hh.2 G' B' ⟨fun p hp i hi => ?_, fun p hp => ?_, fun E0 w1 h0 o ho => ?_, by rw [hr'.2]; exact hs.2.2.2⟩ (fun st2 E2 a2 w2 hr hc2 => hB' st2 E2 a2 w2 (RetI.mono (R := fun v hp nx => run P Cs stp inl unr (OkQ P) n kp Q (.ops all l :: k) ⟨setD st.fr o.dst v, hp, nx⟩) (fun v hp nx hv => ih kp Q _ _ hv G B hs hQ) hr) hc2)
                · rcases hs' p hp with ⟨j, hj⟩ | hp
                  · rw [hj] at hi
                    exact mem_ddN (List.mem_append_left _ (idsF_at _ _ _ hi))
                  · exact mem_ddN (List.mem_append_right _ (hs.1 p hp i hi))
                · rw [hr'.1] at hp
                  exact mem_ddN (List.mem_append_right _ (hs.2.1 p hp))
                · exact mem_ddN (List.mem_append_right _ (hs.2.2.1 E0 w1 ((congrArg Prod.fst hr'.2).symm.trans h0) o ho))
              split at h
              · rename_i hg
                intro E a w hc
                exact wpListIn_plain hg fun K hK => key h hc hK
              · rename_i j want hg
                split at h
                · exact h.elim
                · rename_i gb hv
                  intro E a w hc
                  refine wpListIn_step fun K hK => ?_
                  have hw := gval_ok hc hg hv
                  cases gb
                  · rw [if_neg (by rw [hw]; simp)]
                    exact ⟨fun _ _ => Fr_fn, hK _ _ (ih kp Q _ _ (h.2 rfl) G B hs hQ E _ w (hc.behind hc.pre.mem Evo.rfl' hc.pre.ob (fun i hi => .inl hi) (X := .unk) trivial (Nat.le_refl _)))⟩
                  · rw [if_pos hw]
                    exact key (h.1 rfl) hc hK
          · rename_i u hu
            split at h
            · rename_i hg
              exact Ok.op hCs hu hg h.1 fun hgv => ih _ _ _ _ (h.2 hgv) G B hs hQ
            · rename_i j want hg
              split at h
              · exact h.elim
              · rename_i g hv
                split at h
                · rename_i hws _
                  exact Ok.opgd hCs hu hg hv hws h.1 fun hgv => ih _ _ _ _ (h.2 hgv) G B hs hQ
                · exact Ok.opg hCs hu hg hv (fun hgt => (h.1 hgt).1) (fun hgt hgv => ih _ _ _ _ ((h.1 hgt).2 hgv) G B hs hQ) (fun hgf => ih _ _ _ _ (h.2 hgf) G B hs hQ)
      | c c =>
        cases c with
        | seq x y => exact Ok.seq (ih _ _ _ _ h G B hs hQ)
        | skip => exact fun E a w hc => wpIn_skip (ih kp Q k st h G B hs hQ E a w hc)
        | label l => exact fun E a w hc => wpIn_label (ih kp Q k st h G B hs hQ E a w hc)
        | block id x => exact Ok.block (ih _ _ _ _ h G B hs hQ)
        | scope x => exact Ok.scope (ih _ _ _ _ h G B hs hQ)
        | loop x =>
          simp only [run] at h
          cases unr
          · exact h G B hs hQ
          · exact Ok.unroll (ih _ _ _ _ h G B hs hQ)
        | exit id =>
          simp only [run] at h
          split at h
          · rename_i k' hj
            exact fun E a w hc => wpIn_exit (kont_jump k k' a w hj (ih kp Q k' st h G B hs hQ E a w hc))
          · rename_i hj
            split at h
            · rename_i X hX
              exact fun E a w hc => wpIn_exit (kont_exit k X hj hX ⟨st, E, hc, h⟩)
            · exact h.elim
        | goto l =>
          simp only [run] at h
          split at h
          · rename_i k' hj
            exact fun E a w hc => wpIn_goto (kont_goto k k' a w hj (ih kp Q k' st h G B hs hQ E a w hc))
          · rename_i hj
            split at h
            · rename_i X hX
              exact fun E a w hc => wpIn_goto (kont_gone k X hj hX ⟨st, E, hc, h⟩)
            · exact h.elim
        | ret =>
          simp only [run] at h
          split at h
          · rename_i X hX
            exact fun E a w hc => wpIn_ret (kont_ret k (fun Y hY => by rw [hX] at hY; cases hY; exact ⟨st, E, hc, h⟩) fun hn => by rw [hX] at hn; cases hn)
          · rename_i hX
            exact fun E a w hc => wpIn_ret (kont_ret k (fun Y hY => by rw [hX] at hY; cases hY) fun _ => (hQ st E a w h hc).1)
        | rangeFunc g ps asg body =>
          simp only [run] at h
          split at h
          · exact h G B hs hQ
          · rename_i pre code fr' hp' hi
            refine Ok.range hi h.1 fun G' B' hs' hr' hB' => ih _ _ _ _ h.2 G' B' ⟨fun p hp i hi => ?_, fun p hp => ?_, fun E0 w1 h0 o ho => ?_, by rw [hr'.2]; exact hs.2.2.2⟩ fun st2 E2 a2 w2 hr hc2 => hB' st2 E2 a2 w2 ?_ hc2
            · rcases hs' p hp with ⟨j, hj⟩ | hp
              · rw [hj] at hi
                exact mem_ddN (List.mem_cons_of_mem _ (List.mem_append_left _ (idsF_at _ _ _ hi)))
              · exact mem_ddN (List.mem_cons_of_mem _ (List.mem_append_right _ (hs.1 p hp i hi)))
            · rcases hr'.1 p hp with hp | hp
              · rw [hp]; exact mem_ddN (List.mem_cons_self ..)
              · exact mem_ddN (List.mem_cons_of_mem _ (List.mem_append_right _ (hs.2.1 p hp)))
            · exact mem_ddN (List.mem_cons_of_mem _ (List.mem_append_right _ (hs.2.2.1 E0 w1 ((congrArg Prod.fst hr'.2).symm.trans h0) o ho)))
            · rw [rngJ_at] at hr
              unfold RJ
              split at hr
              · rename_i ho2
                rw [ho2]
                exact ⟨hr.1, ih _ _ _ _ hr.2 G B hs hQ⟩
              · rename_i ho2
                rw [ho2]
                exact ⟨hr.1, ih _ _ _ _ hr.2 G B hs hQ⟩
              · exact hr.elim
        | cond x p q =>
          simp only [run] at h
          split at h
          · rename_i t hx
            exact Ok.cond hx h.1 (fun ht => ih _ _ _ _ (h.2.1 ht) G B hs hQ) (fun ht => ih _ _ _ _ (h.2.2 ht) G B hs hQ)
          · rename_i t f hx
            exact Ok.condM hx h.1 (fun ht => ih _ _ _ _ (h.2.1 ht) G B hs hQ) (fun ht => ih _ _ _ _ (h.2.2 ht) G B hs hQ)
          · exact h.elim
        | region id ops draw =>
          cases draw
          · simp only [run] at h
            cases hm : memN id stp <;> rw [hm] at h <;> simp only [cond_true, cond_false] at h
            · exact Ok.region (ih _ _ _ _ h G B hs hQ)
            · exact h G B hs hQ
          · simp only [run] at h
            cases hm : memN id stp <;> rw [hm] at h <;> simp only [cond_true, cond_false] at h
            · exact Ok.drawn hCs h.1 (runD_mono (fun r s hh => ⟨hh.1, ih _ _ k s hh.2 G B hs hQ⟩) _ _ _ h.2)
            · exact h G B hs hQ
        | _ => exact h G B hs hQ

/-- A CONTRACT OUT OF A SYMBOLIC RUN. -/
theorem con_q [AllF] {c : Con} {fn : Func} {code : Code} (hf : P.funcs[c.f]? = some fn) (hb : fn.body = some code) (hn : fn.name ≠ "runtime.NumGoroutine")
    (h : ∀ x, (tyL c.as).wf x → c.pre x → OkQ P [] (RetC P fn.results.toList c x) [.c code] ⟨appSV (argSV c.as x) (unks (fn.ntmps - c.as.length)), [], 0⟩) (hlen : c.as.length ≤ fn.ntmps) : c.Ok P :=
  con_ok hf hb hn (fun x hx hp G B hs hB => h x hx hp G B ⟨fun p hp => by rw [hs.1] at hp; (cases hp), fun p hp => by rw [hs.2.1] at hp; (cases hp), fun E0 w1 h0 => by rw [hs.2.2] at h0; (cases h0), AllF.all _⟩ hB) hlen

variable {kp : List Nat} {Q : St → Prop}

/-- At a loop's back edge: the head's state again, lower. -/
def backJ (kp : List Nat) {α : Type} (Pr : α → Prop) (μ : α → Nat) (m : Nat) (I : α → St) : St → Prop := fun st => ∃ y, Pr y ∧ μ y < m ∧ SubQ kp st (I y)
theorem backJ_at {kp : List Nat} {α : Type} {Pr : α → Prop} {μ : α → Nat} {m : Nat} {I : α → St} {st : St} : backJ kp Pr μ m I st = ∃ y, Pr y ∧ μ y < m ∧ SubQ kp st (I y) := rfl
/-- At a cut. -/
def cutJ (kp : List Nat) {α : Type} (Pr : α → Prop) (I : α → St) : St → Prop := fun st => ∃ y, Pr y ∧ SubQ kp st (I y)
theorem cutJ_at {kp : List Nat} {α : Type} {Pr : α → Prop} {I : α → St} {st : St} : cutJ kp Pr I st = ∃ y, Pr y ∧ SubQ kp st (I y) := rfl

/-- A LOOP; what holds at its head, told by what has turned since: W are the slots that its body writes, U what is known of some of them, H of the objects. -/
theorem OkQ.loop {α : Type} (W : List Nat) (U : α → List (Nat × SV)) (H : α → List (Nat × Ob)) (Pr : α → Prop) (μ : α → Nat) (x0 : α) {c : Code} {k : List It} {fr : List SV} {hp : List (Nat × Ob)} {nx : Nat}
    (h0 : Pr x0) (h1 : SubQ kp ⟨fr, hp, nx⟩ ⟨upds (forget fr W) (U x0), uos hp (H x0), nx⟩)
    (hr : ∀ x, Pr x → OkQ P kp Q (.c c :: .fin (backJ kp Pr μ (μ x) fun y => ⟨upds (forget fr W) (U y), uos hp (H y), nx⟩) :: k) ⟨upds (forget fr W) (U x), uos hp (H x), nx⟩) : OkQ P kp Q (.c (.loop c) :: k) ⟨fr, hp, nx⟩ :=
  fun G B hs hB => Ok.loop hs (fun x => ⟨upds (forget fr W) (U x), uos hp (H x), nx⟩) Pr μ ⟨x0, h0, h1⟩ fun x hx => hr x hx G B hs hB

/-- Code and its brackets. -/
def It.pl : It → Bool
  | .c _ => true
  | .blk _ => true
  | .scp _ => true
  | _ => false

theorem kont_cut {G : Ctx} {B : Exit → Act → World → Prop} {k k' : List It} (h : ∀ e a w, kont P G B k e a w → kont P G B k' e a w) : ∀ (l : List It), l.all It.pl = true → ∀ e a w, kont P G B (l ++ k) e a w → kont P G B (l ++ k') e a w
  | [], _, e, a, w, q => h e a w q
  | .c c :: l, hl, e, a, w, q => by
    have ih := kont_cut h l (by simpa [It.pl] using hl)
    cases e <;> first | exact ih _ a w q | exact Code.wpIn_mono (fun e a w q => ih e a w q) q
  | .blk id :: l, hl, e, a, w, q => by
    have ih := kont_cut h l (by simpa [It.pl] using hl)
    cases e with
    | exit id' =>
      show if id' = id then _ else _
      have q : if id' = id then kont P G B (l ++ k) .normal a w else kont P G B (l ++ k) (.exit id') a w := q
      split
      · rename_i e; rw [if_pos e] at q; exact ih _ a w q
      · rename_i e; rw [if_neg e] at q; exact ih _ a w q
    | _ => exact ih _ a w q
  | .scp c :: l, hl, e, a, w, q => by
    have ih := kont_cut h l (by simpa [It.pl] using hl)
    have q : scpQ P G c (kont P G B (l ++ k)) e a w := q
    show scpQ P G c (kont P G B (l ++ k')) e a w
    cases e with
    | goto t =>
      cases hr : findLabel c t with
      | some rest =>
        simp only [scpQ, hr] at q ⊢
        intro b k2 cs hro
        obtain ⟨e, a', w', h1, h2⟩ := q b k2 cs hro
        exact ⟨e, a', w', ih _ _ _ h1, h2⟩
      | none =>
        simp only [scpQ, hr] at q ⊢
        exact ih _ a w q
    | _ => exact ih _ a w q
  | .ops _ _ :: _, hl, _, _, _, _ => by simp [It.pl] at hl
  | .fin _ :: _, hl, _, _, _, _ => by simp [It.pl] at hl
  | .lp _ :: _, hl, _, _, _, _ => by simp [It.pl] at hl
  | .beg _ :: _, hl, _, _, _, _ => by simp [It.pl] at hl
  | .rnd _ :: _, hl, _, _, _, _ => by simp [It.pl] at hl

/-- A CUT behind the first n pieces of the code: what holds there, told by what has turned since. -/
theorem OkQ.cut (n : Nat) {α : Type} (W : List Nat) (U : α → List (Nat × SV)) (H : α → List (Nat × Ob)) (m : Nat) (Pr : α → Prop) {k : List It} {fr : List SV} {hp : List (Nat × Ob)} {nx : Nat} (hn : (k.take n).all It.pl = true)
    (h1 : OkQ P kp Q (k.take n ++ .fin (cutJ kp Pr fun y => ⟨upds (forget fr W) (U y), uos hp (H y), m⟩) :: k.drop n) ⟨fr, hp, nx⟩)
    (h2 : ∀ y, Pr y → OkQ P kp Q (k.drop n) ⟨upds (forget fr W) (U y), uos hp (H y), m⟩) : OkQ P kp Q k ⟨fr, hp, nx⟩ := by
  intro G B hs hB
  have h := h1 G B hs hB
  have e : k = k.take n ++ k.drop n := (List.take_append_drop n k).symm
  rw [e]
  intro E a w hc
  refine kont_cut (k := .fin (cutJ kp Pr fun y => ⟨upds (forget fr W) (U y), uos hp (H y), m⟩) :: k.drop n) (fun e a w q => ?_) _ hn _ a w (h E a w hc)
  cases e <;> try exact q
  obtain ⟨st', E', hc', y, hy, hsub⟩ := q
  obtain ⟨E2, hc2⟩ := sub_ok hs hsub hc'
  exact h2 y hy G B hs hB E2 a w hc2

/-- What is known may be told otherwise. -/
theorem OkQ.sub {k : List It} {st st' : St} (h : SubQ kp st st') (hk : OkQ P kp Q k st') : OkQ P kp Q k st := fun G B hs hB => Ok.sub hs h (hk G B hs hB)


theorem OkQ.virt (z : Nat) (e : Ty) {k : List It} {fr : List SV} {hp : List (Nat × Ob)} {nx : Nat} (h : OkQ P kp Q k ⟨fr, uo hp nx (.arr false z e []), nx + 1⟩) : OkQ P kp Q k ⟨fr, hp, nx⟩ :=
  fun G B hs hB => Ok.virt z e (h G B hs hB)

end
/-- A number that fits stays. -/
theorem wr_lit {k : IntKind} {n : Int} (h : inB k n = true) : wr k n = n := by
  unfold wr
  cases k <;> simp only [inB, Bool.and_eq_true, decide_eq_true_eq] at h <;> simp [IntKind.wrap, IntKind.bits, IntKind.signed] <;> omega

/-- No larger than what the form's reading takes. -/
def Ty.small : (t : Ty) → t.den → Prop
  | .str, s => s.length ≤ 140737488351232
  | .pair a b, x => a.small x.1 ∧ b.small x.2
  | .slice z e, xs => xs.length * z ≤ 140737488351232 ∧ ∀ x ∈ xs, e.small x
  | .int _, _ => True
  | .bool, _ => True
  | .unit, _ => True
  | .opq, _ => True

attribute [congr] brB_congr
attribute [go_sem 2000] brB_true brB_false
attribute [go_sem ↓ 2000] brB_true brB_false
attribute [go_sem 500] brB_split
attribute [go_sem] sRun isRuneTy sIf ifB isNI itU sPick0 sShI ptrB isByteTy run runD stepV stepY yConv yPtr yCall yEs yApp ySrc yAppV yData yStr yLen isBy isB1 isBy_byS unB_byS byS_len byS_app byS_inj mpU yLook yUpd isIM isIM1 isIM_mpL unM_mpL unM unM1 mpL_inj stepU uPick uAlloc uBox uLoad uStore uBin uUn uConv uExt uField uFAddr uIAddr uIndex uSlice uBSl uBuild uNil uMk uIfc uRng upV ev gl_nil gl_zero gl_succ setD sl_nil sl_zero sl_succ uos uo_nil uo_cons fo_nil fo_cons of1 ofVal ofSl inB keq cond_true cond_false sBin sBinI sBinS sNil nilB Nat.beq List.isEmpty_iff List.isEmpty_nil List.drop_zero List.take_zero List.take_nil List.drop_nil Nat.sub_zero List.take_length Nat.sub_self List.take_succ_cons List.drop_succ_cons List.not_mem_nil sUn sPick oPick pickB pkV pkP jump memN gval gvB implies_true imp_self if_true if_false Int.toNat_natCast Int.ofNat_toNat Nat.le_refl ne_eq not_false_eq_true and_self or_true true_or
  List.getElem?_cons_zero List.getElem?_cons_succ List.length_cons List.length_nil Nat.zero_add List.getElem?_toArray beq_self_eq_true Bool.true_beq Bool.false_beq Bool.not_false Bool.not_true true_and and_true forall_const decide_true decide_false Bool.and_true Bool.and_self Bool.true_and Bool.and_false Bool.false_and
  decide_eq_true_eq decide_eq_false_iff_not g1 SV.cells sLoad sStore sIndex sSlice sParts sFill sLen sOwn sList sAppend sMin sConv capsOf boxes sCall cellOr take1 drop1 lay stl ids ids1 idsV obFree idsO rdO keys' freeze
  Bool.or_false Bool.false_or Bool.or_self Bool.true_or Bool.or_true optI Nat.ble idsParts isSA kill tyL findC shape sArgs resL resV resO Ty.hasSl Ty.nest nestL sTup nslL pkPs pkVs allIds rdS cellsS injS injO Ty.nsl Ty.n Ty.zero Ty.cast_self Ty.wf argSV unks_zero unks_succ appSV_nil appSV_cons Option.map_some Option.map_none Option.getD_some
  RetC RetS rdL roL RetQ retV compOf mtL mt nodupN List.append_nil List.nil_append List.cons_append Op.operands Call.operands forget upds SubQ mchF mchV mch mchL mchM mchO mchH prs clo1 capM ren hasK chkP livR belK keys keepP keepO ddN idsF idsA idsT backJ_at cutJ_at pbs bodyF inlU fnS fnV inlJ_at yldU rngU rngJ_at rndX_at rndK gotoK findLabel setPs noX noQ List.size_toArray Option.toList_none Option.toList_some List.take_left List.length_append Bool.cond_self List.map_cons List.map_nil Nat.blt
  Bool.cond_true_left Bool.cond_false_right Bool.cond_true_right Bool.cond_false_left Bool.or_eq_true Bool.and_eq_true Bool.not_eq_true' Bool.not_eq_false' Bool.or_eq_false_iff Bool.and_eq_false_iff Bool.not_not

theorem wr_i8 {n : Int} (h : -128 ≤ n) (h' : n ≤ 127) : wr .i8 n = n := by unfold wr; simp [IntKind.wrap, IntKind.bits, IntKind.signed]; omega
theorem wr_i64 {n : Int} (h : -9223372036854775808 ≤ n) (h' : n ≤ 9223372036854775807) : wr .i64 n = n := by unfold wr; simp [IntKind.wrap, IntKind.bits, IntKind.signed]; omega
theorem wr_u8 {n : Int} (h : 0 ≤ n) (h' : n ≤ 255) : wr .u8 n = n := by unfold wr; simp [IntKind.wrap, IntKind.bits, IntKind.signed]; omega

theorem nil_ok {P : Program} : ∀ c ∈ ([] : List Con), c.Ok P := fun c h => by cases h
theorem cons_ok {P : Program} {c : Con} {l : List Con} (h : c.Ok P) (h' : ∀ c ∈ l, c.Ok P) : ∀ c' ∈ c :: l, c'.Ok P := fun c' hc => by
  rcases List.mem_cons.1 hc with rfl | hc
  · exact h
  · exact h' c' hc

/-- The run without options: no stops, no inlined functions, loops left standing. -/
theorem go0 {P : Program} {Cs : List Con} (hCs : ∀ c ∈ Cs, c.Ok P) (n : Nat) {kp : List Nat} {Q : St → Prop} {k : List It} {st : St} (h : run P Cs [] [] false (OkQ P) n kp Q k st) : OkQ P kp Q k st := run_ok hCs n kp Q k st h

theorem bt {b : Bool} : (true = b) = (b = true) := by cases b <;> simp
theorem bf {b : Bool} : (false = b) = (b = false) := by cases b <;> simp
theorem tmod2 {l : Int} (h : 0 ≤ l) (k : Int) : l.tmod k = l % k := Int.tmod_eq_emod_of_nonneg h

end
end Go.Proofs.YtaoplfeohffbiaaGreatDoor.Sx

/-! A region that draws its order, whose last operation waits for all others: so that one may be a call that is run by its body. -/
namespace Go.Proofs.YtaoplfeohffbiaaGreatDoor.Sx
set_option linter.unusedSimpArgs false
set_option linter.unusedVariables false
set_option linter.unusedSectionVars false
noncomputable section

section
variable {P : Program} {Cs : List Con}

structure LeftT (all : List Oper) (L : List Rc) (m : Nat) (listed : Array Bool) : Prop where
  at' : ∀ c ∈ L, all[c.j]? = some c.o
  un : ∀ j, listed.getD j true = false ↔ (∃ c ∈ L, c.j = j) ∨ j = m
  ltm : ∀ c ∈ L, c.j < m
  lt : L.Pairwise fun c d => c.j < d.j
  ind : L.Pairwise fun c d => Anc all d.j c.j ∨ Indep all c d
  ids : L.Pairwise fun c d => c.hi ≤ d.nx
  down : Down all listed
  lex : ∀ (j : Nat) o, all[j]? = some o → ∀ e ∈ o.after.toList, Region.binds .any e = true → e.on < j
  size : listed.size = all.length

theorem any_okT {all : List Oper} {G : Ctx} {Q : Exit → Act → World → Prop} {N : Nat} {fr' : List SV} {ob' : Nat → Ob} {m : Nat} {om : Oper} (hCs : ∀ c ∈ Cs, c.Ok P) (hom : all[m]? = some om) (hgd : om.guard = none) (hancm : ∀ j, j < m → Anc all m j)
    (hQ : ∀ E a w, Con2 P G fr' ob' N E a w → om.wpIn (Fr G.rd) 0 P a w (Q .normal) Q) :
    ∀ (fuel : Nat) (L : List Rc) (listed : Array Bool) (fr : List SV) (ob : Nat → Ob) (E : Env) (a : Act) (w : World), L.length + 1 ≤ fuel → LeftT all L m listed → Ch P Cs all L fr ob fr' ob' → Con2 P G fr ob N E a w →
      (∀ c ∈ L, (∀ i, c.nx ≤ i → i < c.hi → ¬ E.born i) ∧ c.hi ≤ N ∧ c.nx ≤ c.hi) → wpAnyIn (Fr G.rd) 0 P .any all.toArray Q fuel listed a w := by
  have hmlt : m < all.length := (List.getElem?_eq_some_iff.1 hom).1
  have hne : ∀ (L : List Rc) (listed : Array Bool), LeftT all L m listed → Region.ready .any all.toArray listed ≠ [] := by
    intro L listed hl hr
    cases L with
    | nil =>
      have : m ∈ Region.ready .any all.toArray listed := by
        refine mem_ready.2 ⟨(hl.un m).2 (.inr rfl), om, by simpa using hom, fun e he hb => ?_⟩
        have hlt := hl.lex m om hom e (by simpa using he) hb
        have hin : e.on < listed.size := by rw [hl.size]; omega
        cases hv : listed.getD e.on false with
        | true => rfl
        | false =>
          exfalso
          have hv' : listed.getD e.on true = false := by simp [hin] at hv ⊢; exact hv
          rcases (hl.un e.on).1 hv' with ⟨d, hd, _⟩ | h
          · cases hd
          · omega
      rw [hr] at this; cases this
    | cons c L =>
      have hat := hl.at' c (List.mem_cons_self ..)
      have : c.j ∈ Region.ready .any all.toArray listed := by
        refine mem_ready.2 ⟨(hl.un c.j).2 (.inl ⟨c, List.mem_cons_self .., rfl⟩), c.o, by simpa using hat, fun e he hb => ?_⟩
        have hlt := hl.lex c.j c.o hat e (by simpa using he) hb
        have hsz : c.j < all.length := (List.getElem?_eq_some_iff.1 hat).1
        have hin : e.on < listed.size := by rw [hl.size]; omega
        cases hv : listed.getD e.on false with
        | true => rfl
        | false =>
          exfalso
          have hv' : listed.getD e.on true = false := by simp [hin] at hv ⊢; exact hv
          rcases (hl.un e.on).1 hv' with ⟨d, hd, hdj⟩ | h
          · rcases List.mem_cons.1 hd with rfl | hd
            · omega
            · have := List.rel_of_pairwise_cons hl.lt hd
              omega
          · have := hl.ltm c (List.mem_cons_self ..)
            omega
      rw [hr] at this; cases this
  intro fuel
  induction fuel with
  | zero => intro L listed fr ob E a w hlen; omega
  | succ fuel ih =>
    intro L listed fr ob E a w hlen hl hch hc hids
    refine ⟨fun hr => absurd hr (hne L listed hl), fun j hj => ?_⟩
    obtain ⟨h0, o, ho, hall⟩ := mem_ready.1 hj
    rcases (hl.un j).1 h0 with ⟨d, hdm, hdj⟩ | rfl
    · obtain ⟨L1, L2, rfl⟩ := List.append_of_mem hdm
      have hat := hl.at' d hdm
      have hoo : o = d.o := by
        rw [hdj] at hat
        have : all[j]? = some o := by simpa using ho
        rw [this] at hat; exact Option.some.inj hat
      have hind : ∀ c ∈ L1, Indep all c d := by
        intro c hc1
        have h1 := List.pairwise_append.1 hl.ind
        rcases h1.2.2 c hc1 d (List.mem_cons_self ..) with hanc | hi
        · exfalso
          have hls := anc_listed hl.down hanc fun o' ho' e he hb => by
            have : o' = o := by rw [hat] at ho'; rw [hoo]; exact (Option.some.inj ho').symm
            subst this
            exact hall e (by simpa using he) hb
          have hcu := (hl.un c.j).2 (.inl ⟨c, List.mem_append_left _ hc1, rfl⟩)
          rw [getD_tf hcu] at hls; cases hls
        · exact hi
      obtain ⟨hfit, hch'⟩ := Ch.front L1 L2 fr ob hind hch
      have hsub : List.Sublist (L1 ++ L2) (L1 ++ d :: L2) := List.Sublist.append_left (List.sublist_cons_self d L2) L1
      have hd3 := hids d hdm
      have hjlt : j < listed.size := by
        rcases Nat.lt_or_ge j listed.size with h' | h'
        · exact h'
        · simp [Array.getElem?_eq_none h'] at h0
      have hjn : ∀ c ∈ L1 ++ L2, c.j ≠ j := by
        intro c hc1
        have h1 := List.pairwise_append.1 hl.lt
        rcases List.mem_append.1 hc1 with hc1 | hc1
        · have := h1.2.2 c hc1 d (List.mem_cons_self ..); omega
        · have := List.rel_of_pairwise_cons h1.2.1 hc1; omega
      have hjm : j ≠ m := by have := hl.ltm d hdm; omega
      have hleft : LeftT all (L1 ++ L2) m (listed.setIfInBounds j true) := by
        refine ⟨fun c hc1 => hl.at' c (hsub.subset hc1), fun k => ?_, fun c hc1 => hl.ltm c (hsub.subset hc1), hl.lt.sublist hsub, hl.ind.sublist hsub, hl.ids.sublist hsub, fun k o' hk hkl e he hb => ?_, hl.lex, by simp [hl.size]⟩
        · by_cases hkj : j = k
          · subst hkj
            simp only [Array.getD_eq_getD_getElem?, Array.getElem?_setIfInBounds, hjlt, if_true, Option.getD_some]
            refine ⟨fun h => (by cases h), fun h => ?_⟩
            rcases h with ⟨c, h1, h2⟩ | h
            · exact absurd h2 (hjn c h1)
            · exact absurd h hjm
          · rw [getD_set_ne true hkj, hl.un k]
            constructor
            · rintro (⟨c, h1, h2⟩ | h)
              · rcases List.mem_append.1 h1 with h1 | h1
                · exact .inl ⟨c, List.mem_append_left _ h1, h2⟩
                · rcases List.mem_cons.1 h1 with rfl | h1
                  · exact absurd (hdj.symm.trans h2) hkj
                  · exact .inl ⟨c, List.mem_append_right _ h1, h2⟩
              · exact .inr h
            · rintro (⟨c, h1, h2⟩ | h)
              · exact .inl ⟨c, hsub.subset h1, h2⟩
              · exact .inr h
        · by_cases hkj : j = k
          · subst hkj
            have : o' = o := by
              have : all[j]? = some o := by simpa using ho
              rw [this] at hk; exact (Option.some.inj hk).symm
            subst this
            exact getD_set_true (hall e (by simpa using he) hb)
          · rw [getD_set_ne false hkj] at hkl
            exact getD_set_true (hl.down k o' hk hkl e he hb)
      have hstep := fit_step (K := wpAnyIn (Fr G.rd) 0 P .any all.toArray Q fuel (listed.setIfInBounds j true)) (B := Q) hCs hfit hc hd3.1 hd3.2.1 fun a' w' E' hc' hb' => by
        refine ih (L1 ++ L2) _ _ _ E' a' w' ?_ hleft hch' hc' fun c hc1 => ?_
        · simp at hlen ⊢; omega
        · have h3 := hids c (hsub.subset hc1)
          refine ⟨fun i k1 k2 hbi => ?_, h3.2⟩
          rcases hb' i hbi with hbi | ⟨k3, k4⟩
          · exact h3.1 i k1 k2 hbi
          · have h1 := List.pairwise_append.1 hl.ids
            rcases List.mem_append.1 hc1 with hc1 | hc1
            · have := h1.2.2 c hc1 d (List.mem_cons_self ..); omega
            · have := List.rel_of_pairwise_cons h1.2.1 hc1; omega
      show wpOpIn (Fr G.rd) 0 P all.toArray Q j _ a w
      unfold wpOpIn
      have ho2 : all.toArray[j]? = some d.o := by rw [← hoo]; exact ho
      simp only [ho2]
      split
      · rename_i hw
        rw [if_pos hw] at hstep
        exact hstep
      · rename_i hw
        rw [if_neg hw] at hstep
        exact hstep
    · -- the last one
      have hoo : o = om := by
        have : all[j]? = some o := by simpa using ho
        rw [this] at hom; exact Option.some.inj hom
      subst hoo
      have hL : L = [] := by
        cases L with
        | nil => rfl
        | cons c L =>
          exfalso
          have hls := anc_listed hl.down (hancm c.j (hl.ltm c (List.mem_cons_self ..))) fun o' ho' e he hb => by
            have : o' = o := by rw [hom] at ho'; exact (Option.some.inj ho').symm
            subst this
            exact hall e (by simpa using he) hb
          have hcu := (hl.un c.j).2 (.inl ⟨c, List.mem_cons_self .., rfl⟩)
          rw [getD_tf hcu] at hls; cases hls
      subst hL
      obtain ⟨rfl, rfl⟩ := hch
      show wpOpIn (Fr G.rd) 0 P all.toArray Q j _ a w
      unfold wpOpIn
      have ho2 : all.toArray[j]? = some o := by simpa using hom
      simp only [ho2]
      rw [if_pos (by simp [Region.wanted, hgd])]
      refine Oper.wpIn_mono (fun a' w' h => ?_) (hQ E a w hc)
      have hjlt : j < listed.size := by rw [hl.size]; exact hmlt
      have hr : Region.ready .any all.toArray (listed.setIfInBounds j true) = [] := by
        refine List.eq_nil_iff_forall_not_mem.2 fun k hk => ?_
        obtain ⟨g0, _⟩ := mem_ready.1 hk
        by_cases hkj : j = k
        · subst hkj
          simp only [Array.getD_eq_getD_getElem?, Array.getElem?_setIfInBounds, hjlt, if_true, Option.getD_some] at g0
          cases g0
        · rw [getD_set_ne true hkj] at g0
          rcases (hl.un k).1 g0 with ⟨c, hc1, _⟩ | h
          · cases hc1
          · exact hkj h.symm
      cases fuel with
      | zero => exact ⟨hr, h⟩
      | succ fuel => exact ⟨fun _ => h, fun k hk => by rw [hr] at hk; cases hk⟩

/-- What is asked of such a region, of its text alone. -/
def tailB (ops : Array Oper) : Bool :=
  let tab := ancT ops.toList []
  Nat.blt 0 ops.size && (match ops[ops.size - 1]? with | some o => o.guard.isNone | none => false) && (List.range (ops.size - 1)).all fun i => (tab.getD (ops.size - 1) 0).testBit i

variable {G : Ctx}

theorem Ok.tail {B : Exit → Act → World → Prop} (hCs : ∀ c ∈ Cs, c.Ok P) {id : Nat} {ops : Array Oper} {k : List It} {st : St} (hsta : staB P ops = true) (htl : tailB ops = true)
    (h : runD P Cs ops.toList (fun recs st' => dynB ops recs = true ∧ Ok P G B (.ops ops.toList (ops.toList.drop (ops.size - 1)) :: k) st') [] ops.toList.dropLast st) : Ok P G B (.c (.region id ops true) :: k) st := by
  intro E a w hc
  simp only [staB, Bool.and_eq_true, List.all_eq_true, List.mem_range, Bool.or_eq_true] at hsta
  obtain ⟨⟨hm, hlex⟩, hst⟩ := hsta
  simp only [tailB, Bool.and_eq_true, List.all_eq_true, List.mem_range] at htl
  obtain ⟨⟨hsz, hgo⟩, htl⟩ := htl
  have hsz : 0 < ops.size := by rw [Nat.blt_eq] at hsz; exact hsz
  have homs : ∃ om, ops[ops.size - 1]? = some om ∧ om.guard = none := by
    split at hgo
    · rename_i o ho; exact ⟨o, ho, by simpa using hgo⟩
    · cases hgo
  obtain ⟨om, hom, hgd⟩ := homs
  have homl : ops.toList[ops.size - 1]? = some om := by simpa using hom
  have hdl : ops.toList.drop (ops.size - 1) = [om] := by
    have hlt : ops.size - 1 < ops.toList.length := by simp; omega
    rw [List.drop_eq_getElem_cons hlt, List.drop_eq_nil_iff.2 (by simp; omega)]
    rw [List.getElem?_eq_getElem hlt] at homl
    rw [Option.some.inj homl]
  rw [hdl] at h
  obtain ⟨L, st', ⟨hdyn, hok⟩, k2, k3, k4, k5, k6, k7⟩ := runD_chain hCs ops.toList.dropLast 0 [] st E a w h hc
  simp only [List.nil_append] at hdyn
  simp only [dynB, List.all_eq_true, List.mem_range, Bool.or_eq_true] at hdyn
  have hdlen : ops.toList.dropLast.length = ops.size - 1 := by simp
  have hlen : L.length = ops.size - 1 := by
    have := congrArg List.length k2
    simpa using this
  have hj : ∀ i (hi : i < L.length), L[i].j = i := by
    intro i hi
    have : (L.map (·.j))[i]? = some i := by
      have hi' : i < ops.toList.dropLast.length := by rw [hdlen]; omega
      rw [k3, List.getElem?_eq_getElem (by simpa using hi')]; simp
    simpa [hi] using this
  have ho : ∀ i (hi : i < L.length), ops[i]? = some L[i].o := by
    intro i hi
    have : (L.map (·.o))[i]? = ops.toList.dropLast[i]? := by rw [k2]
    rw [List.getElem?_dropLast, if_pos (by simp; omega)] at this
    simp [hi] at this
    rw [← this]
  have hanc : ∀ j a, ((ancT ops.toList []).getD j 0).testBit a = true → Anc ops.toList j a := ancT_ok ops.toList [] [] rfl rfl fun j a ha => by simp at ha
  have hleft : LeftT ops.toList L (ops.size - 1) (Array.replicate ops.size false) := by
    refine ⟨fun c hcm => ?_, fun j => ?_, fun c hcm => ?_, ?_, ?_, k5, fun k o hk hkl => ?_, fun j o hjo e he hb => ?_, by simp⟩
    · obtain ⟨i, hi, rfl⟩ := List.mem_iff_getElem.1 hcm
      rw [hj i hi]
      simpa using ho i hi
    · constructor
      · intro hjl
        have hlt : j < ops.size := by
          rcases Nat.lt_or_ge j ops.size with h' | h'
          · exact h'
          · simp [h'] at hjl
        by_cases hjm : j = ops.size - 1
        · exact .inr hjm
        · exact .inl ⟨L[j], List.getElem_mem _, hj j (by omega)⟩
      · rintro (⟨c, hcm, rfl⟩ | rfl)
        · obtain ⟨i, hi, rfl⟩ := List.mem_iff_getElem.1 hcm
          rw [hj i hi]
          rw [hlen] at hi
          simp [show i < ops.size by omega]
        · simp [show ops.size - 1 < ops.size by omega]
    · obtain ⟨i, hi, rfl⟩ := List.mem_iff_getElem.1 hcm
      rw [hj i hi]; omega
    · refine List.pairwise_iff_getElem.2 fun i j hi hj' hij => ?_
      rw [hj i hi, hj j hj']; exact hij
    · refine List.pairwise_iff_getElem.2 fun i j hi hj' hij => ?_
      rw [hj i hi, hj j hj']
      have hjs : j < ops.size := by omega
      rcases hst j hjs i hij with h1 | h1
      · exact .inl (hanc j i h1)
      · rcases hdyn j hjs i hij with h2 | h2
        · exact .inl (hanc j i h2)
        · refine .inr ⟨?_, ?_⟩
          · rw [ho i hi, ho j hj'] at h1
            rw [Array.toArray_toList]
            exact h1
          · have e1 : (L.map fun c => (c.rd, keys' c.ws))[i]? = some (L[i].rd, keys' L[i].ws) := by simp [hi]
            have e2 : (L.map fun c => (c.rd, keys' c.ws))[j]? = some (L[j].rd, keys' L[j].ws) := by simp [hj']
            rw [e1, e2] at h2
            simp only [Bool.and_eq_true] at h2
            exact ⟨fun x hx => ⟨disj_ok h2.1.1 x hx, disj_ok h2.1.2 x hx⟩, disj_ok h2.2⟩
    · exfalso
      rcases Nat.lt_or_ge k ops.size with h' | h'
      · simp [h'] at hkl
      · have hks : k < ops.toList.length := (List.getElem?_eq_some_iff.1 hk).1
        simp at hks
        omega
    · have := lexT_ok ops.toList 0 hlex j o hjo e he hb
      omega
  have hc' : Conc P G st E a { w with drawn := w.drawn + 1 } := hc.heap rfl rfl rfl rfl
  have hc2 : Con2 P G st.fr (fo st.hp) st'.nx E a { w with drawn := w.drawn + 1 } := ⟨st.hp, rfl, hc'.pre, fun i hi => Nat.lt_of_lt_of_le (hc.born i hi) k7, hc'.len, hc'.dfr, hc'.rd⟩
  have hany := any_okT (all := ops.toList) (Q := kont P G B k) hCs homl hgd (fun j hjm => hanc _ _ (htl j hjm))
    (fun E a w ⟨hp, e, hcc⟩ => by
      have hcc' : Conc P G st' E a w := ⟨⟨hcc.pre.mem, fun i => by rw [e]; exact hcc.pre.ob i, hcc.pre.fr⟩, hcc.born, hcc.len, hcc.dfr, hcc.rd⟩
      have h1 : wpListIn (Fr G.rd) 0 P ops.toList.toArray (kont P G B k) [om] a w := hok E a w hcc'
      unfold wpListIn at h1
      rw [if_pos (by simp [Region.wanted, hgd])] at h1
      exact h1)
    ops.size L (Array.replicate ops.size false) st.fr (fo st.hp) E a _ (by omega) hleft k4 hc2 fun c hcm => by
      have := k6 c hcm
      exact ⟨fun i h1 h2 hb => by have := hc.born i hb; omega, this.2.2, this.2.1⟩
  rw [Array.toArray_toList] at hany
  exact wpIn_region_any hm hany

/-- A REGION THAT DRAWS ITS ORDER, its last operation a call by the callee's body. -/
theorem OkQ.tail {kp : List Nat} {Q : St → Prop} (hCs : ∀ c ∈ Cs, c.Ok P) {id : Nat} {ops : Array Oper} {k : List It} {st : St} (hsta : staB P ops = true) (htl : tailB ops = true)
    (h : runD P Cs ops.toList (fun recs st' => dynB ops recs = true ∧ OkQ P kp Q (.ops ops.toList (ops.toList.drop (ops.size - 1)) :: k) st') [] ops.toList.dropLast st) : OkQ P kp Q (.c (.region id ops true) :: k) st :=
  fun G B hs hQ => Ok.tail hCs hsta htl (runD_mono (fun r s hh => ⟨hh.1, hh.2 G B hs hQ⟩) _ _ _ h)

end
end
end Go.Proofs.YtaoplfeohffbiaaGreatDoor.Sx
