/- Steps that turn the memory: new objects, frozen and used-up ones, stores. -/
import Derived.Test.YtdepbfgnmliggaaGreatDoorSx4
namespace Go.Proofs.YtdepbfgnmliggaaGreatDoor.Sx
set_option linter.unusedSimpArgs false
set_option linter.unusedVariables false

theorem fo_uo (l : List (Nat × Ob)) (o : Nat) (y : Ob) (i : Nat) : fo (uo l o y) i = if i = o then y else fo l i := by
  induction l with
  | nil =>
    simp only [uo, fo]
    by_cases h : o = i
    · subst h; simp
    · have : (o == i) = false := by simpa using h
      simp [this, Ne.symm h]
  | cons p l ih =>
    obtain ⟨j, x⟩ := p
    simp only [uo]
    by_cases hj : j = o
    · subst hj
      simp only [beq_self_eq_true, cond_true, fo]
      by_cases h : j = i
      · subst h; simp
      · have : (j == i) = false := by simpa using h
        simp [this, Ne.symm h]
    · have h1 : (j == o) = false := by simpa using hj
      simp only [h1, cond_false, fo, ih]
      by_cases h : j = i
      · subst h; simp [hj]
      · have : (j == i) = false := by simpa using h
        simp [this]

theorem uos_append (l ws ws' : List (Nat × Ob)) : uos l (ws ++ ws') = uos (uos l ws) ws' := by
  induction ws generalizing l with
  | nil => rfl
  | cons p ws ih => obtain ⟨o, y⟩ := p; simp [uos, ih]

theorem Evo.trans {E E' E'' : Env} {w w' w'' : World} (h : Evo E E' w w') (k : Evo E' E'' w' w'') : Evo E E'' w w'' where
  born o ho := k.born o (h.born o ho)
  keep o ho := by
    rcases k.keep o (h.born o ho) with k1 | ⟨k1, k2⟩
    · exact .inl k1
    · rcases h.keep o ho with h1 | ⟨h1, h2⟩
      · rw [h1] at k1; exact k1.elim
      · exact .inr ⟨h1.trans k1, k2.trans h2⟩
  own b hb ho := h.own b hb (k.own b (Nat.lt_of_lt_of_le hb h.size) ho)
  mem b hb ho := (k.mem b (Nat.lt_of_lt_of_le hb h.size) (fun h' => ho (h.own b hb h'))).trans (h.mem b hb ho)
  blk b cs T fz hc := by
    obtain ⟨cs', fz', h1, h2⟩ := h.blk b cs T fz hc
    obtain ⟨cs'', fz'', k1, k2⟩ := k.blk b cs' T fz' h1
    exact ⟨cs'', fz'', k1, k2.trans h2⟩
  size := Nat.le_trans h.size k.size
  bad := k.bad.trans h.bad
  oth b x hb := (h.oth b x hb).trans fun x' hx => k.oth b x' hx

/-- An object turned or new. -/
def Env.set (E : Env) (i : Nat) (x : Ob) (l : Option (Nat × Nat)) : Env :=
  { ob := fun j => if j = i then x else E.ob j, loc := fun j => if j = i then l else E.loc j, born := fun j => E.born j ∨ j = i, bad := E.bad }

theorem set_ob_ne (E : Env) {i j : Nat} (x : Ob) (l : Option (Nat × Nat)) (h : j ≠ i) : (E.set i x l).ob j = E.ob j := by simp [Env.set, h]
theorem set_loc_ne (E : Env) {i j : Nat} (x : Ob) (l : Option (Nat × Nat)) (h : j ≠ i) : (E.set i x l).loc j = E.loc j := by simp [Env.set, h]
theorem set_ob (E : Env) (i : Nat) (x : Ob) (l : Option (Nat × Nat)) : (E.set i x l).ob i = x := by simp [Env.set]
theorem set_loc (E : Env) (i : Nat) (x : Ob) (l : Option (Nat × Nat)) : (E.set i x l).loc i = l := by simp [Env.set]

theorem lt_of_row {w : World} {b : Nat} {vs : Array Value} {T : TypeId} {fz : Nat × Nat} (h : w.heap[b]? = some (.cells vs T fz)) : b < w.heap.size := by
  rcases Nat.lt_or_ge b w.heap.size with h' | h'
  · exact h'
  · simp [Array.getElem?_eq_none h'] at h

theorem lt_of_obj {w : World} {b : Nat} {x : Obj} (h : w.heap[b]? = some x) : b < w.heap.size := by
  rcases Nat.lt_or_ge b w.heap.size with h' | h'
  · exact h'
  · simp [Array.getElem?_eq_none h'] at h

/-- Where a live object lies there is a block. -/
theorem Mem.lt {G : Ctx} {E : Env} {w : World} (m : Mem G E w) {o b f : Nat} (hd : E.ob o ≠ .dead) (hl : E.loc o = some (b, f)) : b < w.heap.size := by
  have hb : E.born o := by
    rcases Classical.em (E.born o) with h | h
    · exact h
    · exact absurd (m.unb o h) hd
  have h := m.hp o hb
  cases ho : E.ob o with
  | dead => exact absurd ho hd
  | box cs =>
    rw [ho] at h
    obtain ⟨b', vs, T, h1, h2, _⟩ := h
    rw [hl] at h1
    cases h1
    exact lt_of_row h2
  | arr fz z e xs =>
    rw [ho] at h
    obtain ⟨_, h⟩ := h
    rw [hl] at h
    obtain ⟨vs, T, fzz, h1, _⟩ := h
    exact lt_of_row h1
  | lp s fr ps a b' pd =>
    rw [ho] at h
    obtain ⟨b', r, h1, h2, _⟩ := h
    rw [hl] at h1
    cases h1
    exact lt_of_obj h2

theorem Mem.born_of {G : Ctx} {E : Env} {w : World} (m : Mem G E w) {o : Nat} (hd : E.ob o ≠ .dead) : E.born o := by
  rcases Classical.em (E.born o) with h | h
  · exact h
  · exact absurd (m.unb o h) hd

theorem mut_ne {x : Ob} (h : x.mut = true) : x ≠ .dead := by intro h'; rw [h'] at h; cases h

theorem heap_alloc_ne (w : World) (o : Obj) (b : Nat) (h : b < w.heap.size) : (w.alloc o).heap[b]? = w.heap[b]? := RowKit.Below.heap_alloc w o b h
theorem heap_alloc_at (w : World) (o : Obj) : (w.alloc o).heap[w.heap.size]? = some o := by
  show (w.heap.push o)[w.heap.size]? = _
  simp

/-- A new object in a new block, whose world is w' (w with the block laid). -/
theorem evo_new {G : Ctx} {E : Env} {w : World} (m : Mem G E w) {i : Nat} (hi : ¬ E.born i) (x : Ob) (o : Obj) :
    Evo E (E.set i x (some (w.heap.size, 0))) w (w.alloc o) where
  born j hj := .inl hj
  keep j hj := by
    have hne : j ≠ i := fun e => hi (e ▸ hj)
    rw [set_ob_ne _ _ _ hne, set_loc_ne _ _ _ hne]
    cases hx : E.ob j with
    | dead => exact .inl rfl
    | box cs => exact .inr ⟨rfl, rfl⟩
    | arr fz z e xs => exact .inr ⟨⟨rfl, rfl, rfl⟩, rfl⟩
    | lp s fr ps a b pd => exact .inr ⟨trivial, rfl⟩
  own b hb ho := by
    rcases ho with ho | ⟨j, f, h1, h2⟩
    · exact .inl ho
    by_cases hj : j = i
    · subst hj
      rw [set_loc] at h2
      cases h2
      omega
    · rw [set_ob_ne _ _ _ hj] at h1
      rw [set_loc_ne _ _ _ hj] at h2
      exact .inr ⟨j, f, h1, h2⟩
  mem b hb _ := heap_alloc_ne w o b hb
  blk b cs T fz h := ⟨cs, fz, (heap_alloc_ne w o b (lt_of_row h)).trans h, rfl⟩
  size := by
    show w.heap.size ≤ (w.heap.push o).size
    simp
  bad := rfl
  oth b y h := by rw [heap_alloc_ne w o b (lt_of_obj h), h]; exact OthK.same

theorem mem_newO {G : Ctx} {E : Env} {w : World} (m : Mem G E w) {i : Nat} (hi : ¬ E.born i) (x : Ob) (ob : Obj)
    (hok : ObOk (E.set i x (some (w.heap.size, 0))) (w.alloc ob) i x) : Mem G (E.set i x (some (w.heap.size, 0))) (w.alloc ob) := by
  have hev := evo_new m hi x ob
  refine m.step hev (fun j => j = i) (fun j hb hne => ?_) (fun j hj => by subst hj; rw [set_ob]; exact hok) (fun j hb => ?_) (fun o o' b f f' h1 h2 h3 h4 => ?_) (fun o b f h1 h2 => ?_) rfl rfl rfl (fun b hb _ => ?_)
  · have hb' : E.born j := hb.resolve_right hne
    refine ⟨hb', set_ob_ne _ _ _ hne, set_loc_ne _ _ _ hne, fun b f hd hl => heap_alloc_ne w _ b (m.lt hd hl)⟩
  · have hne : j ≠ i := fun e => hb (.inr e)
    rw [set_ob_ne _ _ _ hne]
    exact m.unb j fun h => hb (.inl h)
  · by_cases e1 : o = i <;> by_cases e2 : o' = i
    · omega
    · subst e1
      rw [set_loc] at h3
      rw [set_loc_ne _ _ _ e2] at h4
      rw [set_ob_ne _ _ _ e2] at h2
      cases h3
      have := m.lt h2 h4
      omega
    · subst e2
      rw [set_loc] at h4
      rw [set_loc_ne _ _ _ e1] at h3
      rw [set_ob_ne _ _ _ e1] at h1
      cases h4
      have := m.lt h1 h3
      omega
    · rw [set_loc_ne _ _ _ e1] at h3
      rw [set_loc_ne _ _ _ e2] at h4
      rw [set_ob_ne _ _ _ e1] at h1
      rw [set_ob_ne _ _ _ e2] at h2
      exact m.sep o o' b f f' h1 h2 h3 h4
  · by_cases e1 : o = i
    · subst e1
      rw [set_loc] at h2
      cases h2
      exact .inl m.size
    · rw [set_ob_ne _ _ _ e1] at h1
      rw [set_loc_ne _ _ _ e1] at h2
      exact m.new o b f h1 h2
  · exact heap_alloc_ne w _ b (Nat.lt_of_lt_of_le hb m.size)

theorem mem_new {G : Ctx} {E : Env} {w : World} (m : Mem G E w) {i : Nat} (hi : ¬ E.born i) (x : Ob) (vs : Array Value) (T : TypeId)
    (hok : ObOk (E.set i x (some (w.heap.size, 0))) (w.alloc (.cells vs T)) i x) : Mem G (E.set i x (some (w.heap.size, 0))) (w.alloc (.cells vs T)) := mem_newO m hi x _ hok

/-- Objects that are written no more, or looked at no more. -/
structure Softer (E E' : Env) : Prop where
  loc : E'.loc = E.loc
  born : E'.born = E.born
  bad : E'.bad = E.bad
  ob : ∀ o, E'.ob o = E.ob o ∨ E'.ob o = .dead ∨ ∃ fz z e xs, E.ob o = .arr fz z e xs ∧ E'.ob o = .arr true z e xs

theorem Softer.refl (E : Env) : Softer E E := ⟨rfl, rfl, rfl, fun _ => .inl rfl⟩

theorem Softer.evo {E E' : Env} (h : Softer E E') (w : World) : Evo E E' w w where
  born o ho := by rw [h.born]; exact ho
  keep o ho := by
    rw [h.loc]
    rcases h.ob o with h1 | h1 | ⟨fz, z, e, xs, h1, h2⟩
    · rw [h1]
      cases hx : E.ob o with
      | dead => exact .inl rfl
      | box cs => exact .inr ⟨rfl, rfl⟩
      | arr fz z e xs => exact .inr ⟨⟨rfl, rfl, rfl⟩, rfl⟩
      | lp s fr ps a b pd => exact .inr ⟨trivial, rfl⟩
    · exact .inl h1
    · rw [h1, h2]; exact .inr ⟨⟨rfl, rfl, rfl⟩, rfl⟩
  own b _ ho := by
    rcases ho with ho | ⟨j, f, h1, h2⟩
    · rw [h.bad] at ho; exact .inl ho
    rw [h.loc] at h2
    rcases h.ob j with h3 | h3 | ⟨fz, z, e, xs, h3, h4⟩
    · exact .inr ⟨j, f, by rw [← h3]; exact h1, h2⟩
    · rw [h3] at h1; cases h1
    · rw [h4] at h1; cases h1
  mem _ _ _ := rfl
  blk b cs T fz hc := ⟨cs, fz, hc, rfl⟩
  size := Nat.le_refl _
  bad := h.bad
  oth b y hb := by rw [hb]; exact OthK.same

theorem Softer.mem {G : Ctx} {E E' : Env} {w : World} (m : Mem G E w) (h : Softer E E') : Mem G E' w where
  hp o ho := by
    rw [h.born] at ho
    have hm := m.hp o ho
    rcases h.ob o with h1 | h1 | ⟨fz, z, e, xs, h1, h2⟩
    · rw [h1]
      exact hm.evo (h.evo w) (by rw [h.loc]) (fun _ _ _ _ => rfl)
    · rw [h1]; trivial
    · rw [h2]
      rw [h1] at hm
      have hm2 := hm.evo (h.evo w) (by rw [h.loc]) (fun _ _ _ _ => rfl)
      obtain ⟨a1, a2⟩ := hm2
      refine ⟨a1, ?_⟩
      cases hl : E'.loc o with
      | none => rw [hl] at a2; exact a2
      | some p =>
        obtain ⟨b, off⟩ := p
        rw [hl] at a2
        obtain ⟨vs, T, fzz, b1, _, b3, b4⟩ := a2
        exact ⟨vs, T, fzz, b1, fun hf => (by cases hf), b3, b4⟩
  unb o ho := by
    rw [h.born] at ho
    have := m.unb o ho
    rcases h.ob o with h1 | h1 | ⟨fz, z, e, xs, h1, h2⟩
    · rw [h1]; exact this
    · exact h1
    · rw [this] at h1; cases h1
  sep o o' b f f' h1 h2 h3 h4 := by
    rw [h.loc] at h3 h4
    have live : ∀ j, E'.ob j ≠ .dead → E.ob j ≠ .dead := by
      intro j hj hd
      rcases h.ob j with k1 | k1 | ⟨fz, z, e, xs, k1, k2⟩
      · exact hj (k1.trans hd)
      · exact hj k1
      · rw [hd] at k1; cases k1
    exact m.sep o o' b f f' (live o h1) (live o' h2) h3 h4
  new o b f h1 h2 := by
    rw [h.loc] at h2
    rcases h.ob o with k1 | k1 | ⟨fz, z, e, xs, k1, k2⟩
    · rw [k1] at h1; exact m.new o b f h1 h2
    · exact absurd k1 h1
    · exact m.new o b f (by rw [k1]; simp) h2
  bad b hb := m.bad b (by rw [← h.bad]; exact hb)
  bd := h.bad.trans m.bd
  os := m.os
  tape := m.tape
  output := m.output
  size := m.size
  old := m.old
  sus p hp := (h.evo w).sv (m.sus p hp)
  rdk p hp := (m.rdk p hp).evo (h.evo w)
  mks := m.mks

def frz : Ob → Ob
  | .arr _ z e xs => .arr true z e xs
  | x => x

theorem fo_freeze (hp : List (Nat × Ob)) (l : List Nat) (hp' : List (Nat × Ob)) (o : Nat) :
    fo (uos hp' (freeze (fo hp) l)) o = if o ∈ l ∧ isA (fo hp o) = true then frz (fo hp o) else fo hp' o := by
  induction l generalizing hp' with
  | nil => simp [freeze, uos]
  | cons i l ih =>
    simp only [freeze]
    cases hi : fo hp i with
    | dead =>
      simp only
      rw [ih]
      by_cases e : o = i
      · subst e; simp [hi, isA]
      · simp [e]
    | box cs =>
      simp only
      rw [ih]
      by_cases e : o = i
      · subst e; simp [hi, isA]
      · simp [e]
    | lp s fr ps a b pd =>
      simp only
      rw [ih]
      by_cases e : o = i
      · subst e; simp [hi, isA]
      · simp [e]
    | arr fz z t xs =>
      simp only [uos]
      rw [ih, fo_uo]
      by_cases e : o = i
      · subst e; simp [hi, isA, frz]
      · simp [e]

theorem fo_kill (l : List Nat) (hp' : List (Nat × Ob)) (o : Nat) : fo (uos hp' (kill l)) o = if o ∈ l then .dead else fo hp' o := by
  induction l generalizing hp' with
  | nil => simp [kill, uos]
  | cons i l ih =>
    simp only [kill, uos]
    rw [ih, fo_uo]
    by_cases e : o = i
    · subst e; simp
    · simp [e]

def Env.frozen (E : Env) (l : List Nat) : Env := { E with ob := fun o => if o ∈ l ∧ isA (E.ob o) = true then frz (E.ob o) else E.ob o }
def Env.killed (E : Env) (l : List Nat) : Env := { E with ob := fun o => if o ∈ l then .dead else E.ob o }

theorem Env.frozen_soft (E : Env) (l : List Nat) : Softer E (E.frozen l) := by
  refine ⟨rfl, rfl, rfl, fun o => ?_⟩
  show (if o ∈ l ∧ isA (E.ob o) = true then frz (E.ob o) else E.ob o) = _ ∨ (if o ∈ l ∧ isA (E.ob o) = true then frz (E.ob o) else E.ob o) = _ ∨ _
  by_cases h : o ∈ l ∧ isA (E.ob o) = true
  · rw [if_pos h]
    cases hx : E.ob o with
    | dead => exact .inl rfl
    | box cs => exact .inl rfl
    | lp s fr ps a b pd => exact .inl rfl
    | arr fz z e xs => exact .inr (.inr ⟨fz, z, e, xs, rfl, by show (if _ then _ else _) = _; rw [if_pos h, hx]; rfl⟩)
  · rw [if_neg h]; exact .inl rfl

theorem Env.killed_soft (E : Env) (l : List Nat) : Softer E (E.killed l) := by
  refine ⟨rfl, rfl, rfl, fun o => ?_⟩
  show (if o ∈ l then .dead else E.ob o) = _ ∨ (if o ∈ l then .dead else E.ob o) = _ ∨ _
  by_cases h : o ∈ l
  · rw [if_pos h]; exact .inr (.inl rfl)
  · rw [if_neg h]; exact .inl rfl

theorem Env.frozen_ob {E : Env} {hp : List (Nat × Ob)} (h : ∀ i, E.ob i = fo hp i) (l : List Nat) (i : Nat) : (E.frozen l).ob i = fo (uos hp (freeze (fo hp) l)) i := by
  rw [fo_freeze]
  show (if i ∈ l ∧ isA (E.ob i) = true then frz (E.ob i) else E.ob i) = _
  rw [h i]

/-- Where a frozen array lies nothing is owned. -/
theorem Env.frozen_not {G : Ctx} {E : Env} {w : World} (m : Mem G E w) {l : List Nat} {o b f : Nat} (ho : o ∈ l) (ha : isA (E.ob o) = true) (hl : E.loc o = some (b, f)) : ¬ (E.frozen l).owned b := by
  rintro (hbad | ⟨j, f', h1, h2⟩)
  · have h1 := m.bad b hbad
    have h2 := m.new o b f (by intro hd; rw [hd] at ha; cases ha) hl
    rcases h2 with h2 | h2
    · omega
    · exact h1.2 h2
  have hj : (E.frozen l).ob j ≠ .dead := mut_ne h1
  have live : E.ob j ≠ .dead := by
    intro hd
    apply hj
    show (if j ∈ l ∧ isA (E.ob j) = true then frz (E.ob j) else E.ob j) = _
    rw [hd]; simp [isA]
  have hod : E.ob o ≠ .dead := by intro hd; rw [hd] at ha; cases ha
  have e := m.sep o j b f f' hod live hl h2
  subst e
  have : (E.frozen l).ob o = frz (E.ob o) := by
    show (if o ∈ l ∧ isA (E.ob o) = true then frz (E.ob o) else E.ob o) = _
    rw [if_pos ⟨ho, ha⟩]
  rw [this] at h1
  cases hx : E.ob o with
  | dead => rw [hx] at ha; cases ha
  | box cs => rw [hx] at ha; cases ha
  | lp s fr ps a b pd => rw [hx] at ha; cases ha
  | arr fz z e xs => rw [hx] at h1; cases h1

end Go.Proofs.YtdepbfgnmliggaaGreatDoor.Sx
