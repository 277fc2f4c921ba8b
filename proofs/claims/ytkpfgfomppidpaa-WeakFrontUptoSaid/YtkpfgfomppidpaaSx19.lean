/- The symbolic run holds of the machine. -/
import Derived.Test.YtkpfgfomppidpaaSx18
import Derived.Scope
namespace Go.Proofs.Ytkpfgfomppidpaa.Sx
set_option linter.unusedSimpArgs false
set_option linter.unusedVariables false

structure Conc (P : Program) (G : Ctx) (st : St) (E : Env) (a : Act) (w : World) : Prop where
  pre : Pre P G E w st.hp st.fr a
  born : ∀ i, E.born i → i < st.nx
  len : a.tmps.size = st.fr.length
  dfr : a.defers = []

/-- At a loop's head, behind its test's jump. -/
def LoopW (P : Program) (c : Code) (Q : Exit → Act → World → Prop) (a : Act) (w : World) : Prop :=
  ∀ (b : Frame) (k : List Item) (cs : List Frame), ∃ e a' w', Q e a' w' ∧ Arrives P (lone (b.at a (.code c :: .inLoop c :: k)) cs w) b k cs e a' w'

theorem LoopW.round {P : Program} {c : Code} {Q : Exit → Act → World → Prop} {a : Act} {w : World} (h : c.wp P (Exit.then (LoopW P c Q) Q) a w) : LoopW P c Q a w := by
  intro b k cs
  obtain ⟨e, a₁, w₁, hq, harr⟩ := h b (.inLoop c :: k) cs
  cases e with
  | normal =>
    obtain ⟨e₂, a₂, w₂, hq₂, harr₂⟩ := hq b k cs
    exact ⟨e₂, a₂, w₂, hq₂, .of_steps (Steps.trans harr (.one step_inLoop)) harr₂⟩
  | exit id => exact ⟨_, a₁, w₁, hq, .pass (x := .inLoop c) rfl (fun _ _ => .inl (by simp)) harr⟩
  | goto l => exact ⟨_, a₁, w₁, hq, .pass (x := .inLoop c) rfl (fun _ _ => .inl (by simp)) harr⟩
  | ret => exact ⟨_, a₁, w₁, hq, .pass (x := .inLoop c) rfl (fun _ _ => .inl (by simp)) harr⟩
  | panic ch => exact ⟨_, a₁, w₁, hq, .pass (x := .inLoop c) rfl (fun _ _ => .inl (by simp)) harr⟩
  | outgrown => exact ⟨_, a₁, w₁, hq, .pass (x := .inLoop c) rfl (fun _ _ => .inl (by simp)) harr⟩

theorem LoopW.loop {P : Program} {c : Code} {Q : Exit → Act → World → Prop} {a : Act} {w : World} (h : LoopW P c Q a w) : (Code.loop c).wp P Q a w := by
  intro b k cs
  obtain ⟨e, a', w', hq, harr⟩ := h b k cs
  exact ⟨e, a', w', hq, .of_steps (.one step_loop) harr⟩

/-- What is owed where a stack of code is left in some way. -/
def kont (P : Program) (G : Ctx) (B : Exit → Act → World → Prop) : List It → Exit → Act → World → Prop
  | [], e, a, w => B e a w
  | .c c :: k, e, a, w => match e with
    | .normal => c.wp P (kont P G B k) a w
    | e => kont P G B k e a w
  | .ops all l :: k, e, a, w => match e with
    | .normal => wpList P all.toArray (kont P G B k) l a w
    | e => kont P G B k e a w
  | .blk id :: k, e, a, w => match e with
    | .exit id' => if id' = id then kont P G B k .normal a w else kont P G B k (.exit id') a w
    | e => kont P G B k e a w
  | .fin J :: k, e, a, w => match e with
    | .normal => ∃ st E, Conc P G st E a w ∧ J st
    | e => kont P G B k e a w
  | .scp :: k, e, a, w => match e with
    | .goto _ => False
    | e => kont P G B k e a w
  | .lp c :: k, e, a, w => match e with
    | .normal => LoopW P c (kont P G B k) a w
    | e => kont P G B k e a w

def Ok (P : Program) (G : Ctx) (B : Exit → Act → World → Prop) (k : List It) (st : St) : Prop := ∀ E a w, Conc P G st E a w → kont P G B k .normal a w

theorem kont_ret {P : Program} {G : Ctx} {B : Exit → Act → World → Prop} : ∀ (k : List It) (a : Act) (w : World), kont P G B k .ret a w = B .ret a w
  | [], _, _ => rfl
  | .c _ :: k, a, w => kont_ret k a w
  | .ops _ _ :: k, a, w => kont_ret k a w
  | .blk _ :: k, a, w => kont_ret k a w
  | .fin _ :: k, a, w => kont_ret k a w
  | .scp :: k, a, w => kont_ret k a w
  | .lp _ :: k, a, w => kont_ret k a w

theorem kont_jump {P : Program} {G : Ctx} {B : Exit → Act → World → Prop} {id : Nat} : ∀ (k k' : List It) (a : Act) (w : World), jump id k = some k' → kont P G B k' .normal a w → kont P G B k (.exit id) a w
  | [], _, _, _, h, _ => by cases h
  | .c _ :: k, k', a, w, h, hk => kont_jump k k' a w h hk
  | .ops _ _ :: k, k', a, w, h, hk => kont_jump k k' a w h hk
  | .fin _ :: k, k', a, w, h, hk => kont_jump k k' a w h hk
  | .scp :: k, k', a, w, h, hk => kont_jump k k' a w h hk
  | .lp _ :: k, k', a, w, h, hk => kont_jump k k' a w h hk
  | .blk id' :: k, k', a, w, h, hk => by
    simp only [jump] at h
    show if id = id' then kont P G B k .normal a w else kont P G B k (.exit id) a w
    cases hb : id' == id <;> rw [hb] at h <;> simp only [cond_true, cond_false] at h
    · have hne : id ≠ id' := by simpa using Ne.symm (by simpa using hb)
      rw [if_neg hne]
      exact kont_jump k k' a w h hk
    · have e : id = id' := by simpa using (show id' = id by simpa using hb).symm
      cases h
      rw [if_pos e]; exact hk

theorem gl_sl : ∀ (l : List SV) (i : Nat) (v : SV) (j : Nat), gl (sl l i v) j = if j = i ∧ i < l.length then v else gl l j
  | [], _, _, _ => by simp [sl, gl]
  | x :: l, 0, v, 0 => by simp [sl, gl]
  | x :: l, 0, v, j + 1 => by simp [sl, gl]
  | x :: l, i + 1, v, 0 => by simp [sl, gl]
  | x :: l, i + 1, v, j + 1 => by simp [sl, gl, gl_sl l i v j]

theorem sl_len : ∀ (l : List SV) (i : Nat) (v : SV), (sl l i v).length = l.length
  | [], _, _ => rfl
  | x :: l, 0, v => rfl
  | x :: l, i + 1, v => by simp [sl, sl_len l i v]

theorem gl_out : ∀ (l : List SV) (i : Nat), l.length ≤ i → gl l i = .unk
  | [], _, _ => rfl
  | x :: l, 0, h => by simp at h
  | x :: l, i + 1, h => by simpa [gl] using gl_out l i (by simpa using h)

section
variable {P : Program} {Cs : List Con} {G : Ctx} {B : Exit → Act → World → Prop}

theorem fr_put {E : Env} {w : World} {fr : List SV} {a : Act} (hlen : a.tmps.size = fr.length) (h : ∀ i, SVok E w (gl fr i) (a.tmps.getD i undef)) {d : Option Tmp} {X : SV} {v : Value} (hv : SVok E w X v) :
    (a.put d v).tmps.size = (setD fr d X).length ∧ ∀ i, SVok E w (gl (setD fr d X) i) ((a.put d v).tmps.getD i undef) := by
  cases d with
  | none => exact ⟨hlen, h⟩
  | some d =>
    refine ⟨by simp [Act.put, setD, sl_len, hlen], fun i => ?_⟩
    simp only [setD, gl_sl]
    by_cases hi : i = d ∧ d < fr.length
    · rw [if_pos hi]
      have hlt' : d < a.tmps.size := by rw [hlen]; exact hi.2
      have : (a.put (some d) v).tmps.getD i undef = v := by
        rw [hi.1]
        simp [Act.put, hlt']
      rw [this]; exact hv
    · rw [if_neg hi]
      have : (a.put (some d) v).tmps.getD i undef = a.tmps.getD i undef := by
        by_cases e : i = d
        · subst e
          have hge : ¬ i < a.tmps.size := fun hlt => hi ⟨rfl, by rw [← hlen]; exact hlt⟩
          simp [Act.put, hge]
        · simp [Act.put, Array.getElem?_setIfInBounds_ne (Ne.symm e)]
      rw [this]; exact h i

theorem put_dfr {a : Act} {d : Option Tmp} {v : Value} (h : a.defers = []) : (a.put d v).defers = [] := by cases d <;> exact h

/-- Behind a step. -/
theorem Conc.behind {st : St} {E : Env} {a : Act} {w : World} (h : Conc P G st E a w) {d : Option Tmp} {X : SV} {v : Value} {w' : World} {E' : Env} {hp' : List (Nat × Ob)} {m : Nat} (hm : Mem G E' w') (hev : Evo E E' w w')
    (hob : ∀ i, E'.ob i = fo hp' i) (hb : ∀ i, E'.born i → E.born i ∨ (st.nx ≤ i ∧ i < m)) (hv : SVok E' w' X v) (hnm : st.nx ≤ m) : Conc P G ⟨setD st.fr d X, hp', m⟩ E' (a.put d v) w' := by
  obtain ⟨h1, h2⟩ := fr_put (d := d) h.len (fun i => hev.sv (h.pre.fr i)) hv
  exact ⟨⟨hm, hob, h2⟩, fun i hi => by rcases hb i hi with hi | hi; exact Nat.lt_of_lt_of_le (h.born i hi) hnm; exact hi.2, h1, put_dfr h.dfr⟩

def isB : Value → Option Bool
  | .bool b => some b
  | _ => none

theorem gvB_ok {E : Env} {w : World} {want : Bool} : ∀ {x : SV} {v : Value} {g : Bool}, SVok E w x v → gvB want x = some g → x ≠ .unk ∧ (isB v == some want) = g
  | .s x, v, g, h, hg => by
    cases x <;> simp only [gvB, reduceCtorEq] at hg
    rename_i b
    cases hg
    have : v = .bool b := h
    subst this
    refine ⟨by simp, ?_⟩
    cases want <;> cases b <;> rfl
  | .gd g' x, v, g, h, hg => by
    simp only [gvB] at hg
    split at hg
    · rename_i b hb
      cases hg
      refine ⟨by simp, ?_⟩
      cases g'
      · rw [h.2 rfl]; rfl
      · rw [(gvB_ok (h.1 rfl) hb).2]; simp
    · cases hg
  | .unk, _, _, _, hg => by cases hg
  | .agg _, _, _, _, hg => by cases hg
  | .tup _, _, _, _, hg => by cases hg

theorem gval_ok {st : St} {E : Env} {a : Act} {w : World} (h : Conc P G st E a w) {all : List Oper} {o : Oper} {j : Nat} {want g : Bool} (hg : o.guard = some (j, want)) (hv : gval all st.fr j want = some g) :
    Region.wanted o (yielded all.toArray a.tmps) = g := by
  unfold gval at hv
  split at hv
  · rename_i oj hoj
    split at hv
    · rename_i d hd
      obtain ⟨hne, hw⟩ := gvB_ok (h.pre.fr d) hv
      have hlt : d < a.tmps.size := by
        rcases Nat.lt_or_ge d st.fr.length with hlt | hge
        · rw [h.len]; exact hlt
        · exact absurd (gl_out _ _ hge) hne
      have hy : yielded all.toArray a.tmps j = isB (a.tmps.getD d undef) := by
        have : a.tmps[d]? = some (a.tmps.getD d undef) := by simp [hlt]
        simp only [yielded, List.getElem?_toArray, hoj, hd, Option.bind_some, this]
        cases a.tmps.getD d undef <;> rfl
      simp only [Region.wanted, hg, hy]
      rw [← hw]
    · cases hv
  · cases hv

theorem sCall_hi {ob : Nat → Ob} {nx : Nat} {fr : List SV} {c : Call} {u : Up} (h : sCall P Cs ob nx fr c = some u) : nx ≤ u.hi := by
  simp only [sCall, upV, cond_eq_ite] at h
  repeat' (split at h)
  all_goals (try (first | (cases h; done) | (cases h; simp; done)))
  rename_i u' hu'
  cases h
  show nx ≤ u'.hi
  simp only [sAppend] at hu'
  repeat' (split at hu')
  all_goals (first | (cases hu'; done) | (cases hu'; simp; done))

theorem stepU_hi {ob : Nat → Ob} {nx : Nat} {fr : List SV} {op : Op} {u : Up} (h : stepU P Cs ob nx fr op = some u) : nx ≤ u.hi := by
  cases op
  case call c => exact sCall_hi h
  case makeFunc fn first caps =>
    cases fn <;> simp only [stepU, upV, cond_eq_ite, reduceCtorEq] at h
    repeat' (split at h)
    all_goals (first | (cases h; done) | (cases h; simp; done))
  case slice t x lo hi mx =>
    cases mx <;> simp only [stepU, upV, reduceCtorEq] at h
    repeat' (split at h)
    all_goals (first | (cases h; done) | (cases h; simp; done))
  all_goals simp only [stepU, upV, cond_eq_ite, reduceCtorEq] at h
  all_goals (repeat' (split at h))
  all_goals (first | (cases h; done) | (cases h; simp; done))

theorem Ok.ops_nil {all : List Oper} {k : List It} {st : St} (h : Ok P G B k st) : Ok P G B (.ops all [] :: k) st := fun E a w hc => wpList_nil (P := P) (ops := all.toArray) (h E a w hc)

theorem Ok.op {all l : List Oper} {o : Oper} {k : List It} {st : St} {u : Up} (hCs : ∀ c ∈ Cs, c.Ok P) (hs : stepU P Cs (fo st.hp) st.nx st.fr o.op = some u) (hg : o.guard = none) (howe : u.owe)
    (h : u.gives → Ok P G B (.ops all l :: k) ⟨setD st.fr o.dst u.val, uos st.hp u.ws, u.hi⟩) : Ok P G B (.ops all (o :: l) :: k) st := by
  intro E a w hc
  refine wpList_plain hg fun K hK => ?_
  obtain ⟨d, op, ty, pos, af, gd⟩ := o
  have hL := step_ok (d := d) (ty := ty) (pos := pos) (af := af) (gd := gd) hc.pre hCs hs (fun i hi _ hb => by have := hc.born i hb; omega) howe
  exact hL K _ fun v w' E' hm hev hob hb hv hgv => hK _ _ (h hgv E' _ w' (hc.behind hm hev hob hb hv (stepU_hi hs)))

theorem Ok.opg {all l : List Oper} {o : Oper} {k : List It} {st : St} {u : Up} {j : Nat} {want g : Bool} (hCs : ∀ c ∈ Cs, c.Ok P) (hs : stepU P Cs (fo st.hp) st.nx st.fr o.op = some u) (hg : o.guard = some (j, want))
    (hv : gval all st.fr j want = some g) (howe : g = true → u.owe) (h1 : g = true → u.gives → Ok P G B (.ops all l :: k) ⟨setD st.fr o.dst u.val, uos st.hp u.ws, u.hi⟩)
    (h2 : g = false → Ok P G B (.ops all l :: k) ⟨setD st.fr o.dst .unk, st.hp, st.nx⟩) : Ok P G B (.ops all (o :: l) :: k) st := by
  intro E a w hc
  refine wpList_step fun K hK => ?_
  have hw := gval_ok hc hg hv
  obtain ⟨d, op, ty, pos, af, gd⟩ := o
  cases g
  · rw [if_neg (by rw [hw]; simp)]
    exact hK _ _ (h2 rfl E _ w (hc.behind hc.pre.mem Evo.rfl' hc.pre.ob (fun i hi => .inl hi) (X := .unk) trivial (Nat.le_refl _)))
  · rw [if_pos hw]
    have hL := step_ok (d := d) (ty := ty) (pos := pos) (af := af) (gd := gd) hc.pre hCs hs (fun i hi _ hb => by have := hc.born i hb; omega) (howe rfl)
    exact hL K _ fun v w' E' hm hev hob hb hv hgv => hK _ _ (h1 rfl hgv E' _ w' (hc.behind hm hev hob hb hv (stepU_hi hs)))

theorem Ok.opgd {all l : List Oper} {o : Oper} {k : List It} {st : St} {u : Up} {j : Nat} {want g : Bool} (hCs : ∀ c ∈ Cs, c.Ok P) (hs : stepU P Cs (fo st.hp) st.nx st.fr o.op = some u) (hg : o.guard = some (j, want))
    (hv : gval all st.fr j want = some g) (hws : u.ws = []) (howe : g = true → u.owe) (h : (g = true → u.gives) → Ok P G B (.ops all l :: k) ⟨setD st.fr o.dst (.gd g u.val), st.hp, u.hi⟩) : Ok P G B (.ops all (o :: l) :: k) st := by
  intro E a w hc
  refine wpList_step fun K hK => ?_
  have hw := gval_ok hc hg hv
  obtain ⟨d, op, ty, pos, af, gd⟩ := o
  cases g
  · rw [if_neg (by rw [hw]; simp)]
    exact hK _ _ (h (fun h0 => (by cases h0)) E _ w (hc.behind hc.pre.mem Evo.rfl' hc.pre.ob (fun i hi => .inl hi) (X := .gd false u.val) ⟨fun h0 => (by cases h0), fun _ => rfl⟩ (stepU_hi hs)))
  · rw [if_pos hw]
    have hL := step_ok (d := d) (ty := ty) (pos := pos) (af := af) (gd := gd) hc.pre hCs hs (fun i hi _ hb => by have := hc.born i hb; omega) (howe rfl)
    exact hL K _ fun v w' E' hm hev hob hb hv hgv => hK _ _ (h (fun _ => hgv) E' _ w' (hc.behind hm hev (by rw [hws] at hob; exact hob) hb (X := .gd true u.val) ⟨fun _ => hv, fun h0 => (by cases h0)⟩ (stepU_hi hs)))

theorem Ok.seq {x y : Code} {k : List It} {st : St} (h : Ok P G B (.c x :: .c y :: k) st) : Ok P G B (.c (.seq x y) :: k) st := fun E a w hc =>
  wp_seq (Code.wp_mono (fun e a w q => by cases e <;> exact q) (h E a w hc))

theorem Ok.block {id : Nat} {x : Code} {k : List It} {st : St} (h : Ok P G B (.c x :: .blk id :: k) st) : Ok P G B (.c (.block id x) :: k) st := fun E a w hc =>
  wp_block (Code.wp_mono (fun e a w q => by cases e <;> exact q) (h E a w hc))

theorem Ok.scope {x : Code} {k : List It} {st : St} (h : Ok P G B (.c x :: .scp :: k) st) : Ok P G B (.c (.scope x) :: k) st := fun E a w hc =>
  wp_scope_straight (Code.wp_mono (fun e a w q => by cases e <;> exact q) (h E a w hc))

theorem Ok.lp {x : Code} {k : List It} {st : St} (h : Ok P G B (.c x :: .lp x :: k) st) : Ok P G B (.lp x :: k) st := fun E a w hc =>
  LoopW.round (Code.wp_mono (fun e a w q => by cases e <;> exact q) (h E a w hc))

theorem Ok.unroll {x : Code} {k : List It} {st : St} (h : Ok P G B (.c x :: .lp x :: k) st) : Ok P G B (.c (.loop x) :: k) st := fun E a w hc =>
  LoopW.loop (LoopW.round (Code.wp_mono (fun e a w q => by cases e <;> exact q) (h E a w hc)))

theorem Ok.cond {x : Operand} {p q : Code} {k : List It} {st : St} {t : Bool} (hx : pkV (ev st.fr x) = .s (.bool t)) (hk : pkP (ev st.fr x)) (h1 : t = true → Ok P G B (.c p :: k) st) (h2 : t = false → Ok P G B (.c q :: k) st) :
    Ok P G B (.c (.cond x p q) :: k) st := fun E a w hc => by
  have := hc.pre.pk hk
  rw [hx] at this
  exact wp_cond_split this (fun ht => h1 ht E a w hc) (fun ht => h2 ht E a w hc)

theorem Ok.condM {x : Operand} {p q : Code} {k : List It} {st : St} {t f : Bool} (hx : pkV (ev st.fr x) = .s (.mb t f)) (hk : pkP (ev st.fr x)) (h1 : t = true → Ok P G B (.c p :: k) st) (h2 : f = true → Ok P G B (.c q :: k) st) :
    Ok P G B (.c (.cond x p q) :: k) st := fun E a w hc => by
  have := hc.pre.pk hk
  rw [hx] at this
  obtain ⟨b, e, k1, k2⟩ := this
  exact wp_cond_split e (fun ht => h1 (k1 ht) E a w hc) (fun ht => h2 (k2 ht) E a w hc)

theorem Ok.region {id : Nat} {ops : Array Oper} {k : List It} {st : St} (h : Ok P G B (.ops ops.toList ops.toList :: k) st) : Ok P G B (.c (.region id ops false) :: k) st := fun E a w hc => by
  have := h E a w hc
  have h' : wpList P ops.toList.toArray (kont P G B k) ops.toList a w := this
  rw [Array.toArray_toList] at h'
  exact wp_region_list h'

end
end Go.Proofs.Ytkpfgfomppidpaa.Sx
