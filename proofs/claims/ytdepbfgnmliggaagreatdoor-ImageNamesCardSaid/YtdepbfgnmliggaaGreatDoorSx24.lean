/- Regions that draw their order: the lexical symbolic run speaks for every order. -/
import Derived.Test.YtdepbfgnmliggaaGreatDoorSx23
import Derived.Orders
namespace Go.Proofs.YtdepbfgnmliggaaGreatDoor.Sx
set_option linter.unusedSimpArgs false
set_option linter.unusedVariables false

/-- What has been recorded of an operation of the lexical run. -/
structure Rc where
  j : Nat
  o : Oper
  nx : Nat
  hi : Nat
  val : SV
  ws : List (Nat × Ob)
  rd : List Nat

def updO (ob : Nat → Ob) : List (Nat × Ob) → Nat → Ob
  | [] => ob
  | (o, y) :: ws => updO (fun i => if i = o then y else ob i) ws

theorem updO_fo (hp : List (Nat × Ob)) : ∀ (ws : List (Nat × Ob)), fo (uos hp ws) = updO (fo hp) ws
  | [] => rfl
  | (o, y) :: ws => by
    show fo (uos (uo hp o y) ws) = updO (fun i => if i = o then y else fo hp i) ws
    rw [updO_fo (uo hp o y) ws]
    congr 1
    funext i
    exact fo_uo hp o y i

theorem updO_not : ∀ (ws : List (Nat × Ob)) (ob : Nat → Ob) (i : Nat), i ∉ keys' ws → updO ob ws i = ob i
  | [], _, _, _ => rfl
  | (o, y) :: ws, ob, i, h => by
    have h1 : i ≠ o := fun e => h (by rw [e]; exact List.mem_cons_self ..)
    have h2 : i ∉ keys' ws := fun hm => h (List.mem_cons_of_mem _ hm)
    show updO (fun i => if i = o then y else ob i) ws i = ob i
    rw [updO_not ws _ i h2, if_neg h1]

theorem updO_congr : ∀ (ws : List (Nat × Ob)) (ob ob' : Nat → Ob) (i : Nat), (i ∉ keys' ws → ob i = ob' i) → updO ob ws i = updO ob' ws i
  | [], _, _, _, h => h (by intro h; cases h)
  | (o, y) :: ws, ob, ob', i, h => updO_congr ws _ _ i fun hi => by
    by_cases e : i = o
    · simp [e]
    · simp only [if_neg e]
      refine h fun hm => ?_
      rcases List.mem_cons.1 hm with e' | hm
      · exact e e'
      · exact hi hm

theorem updO_comm (ws ws' : List (Nat × Ob)) (ob : Nat → Ob) (h : ∀ i ∈ keys' ws, i ∉ keys' ws') : updO (updO ob ws) ws' = updO (updO ob ws') ws := by
  funext i
  by_cases h1 : i ∈ keys' ws
  · rw [updO_not ws' _ i (h i h1)]
    exact updO_congr ws _ _ i fun hn => absurd h1 hn
  · rw [updO_not ws _ i h1]
    exact updO_congr ws' _ _ i fun _ => updO_not ws _ i h1

section
variable (P : Program) (Cs : List Con) (all : List Oper)

/-- The operation does this, in this state. -/
def Fit (c : Rc) (fr : List SV) (ob : Nat → Ob) : Prop :=
  match c.o.guard with
  | none => ∃ u, stepU P Cs ob c.nx fr c.o.op = some u ∧ u.owe ∧ u.gives ∧ c.val = u.val ∧ c.ws = u.ws ∧ c.hi = u.hi ∧ ∀ i ∈ rdO fr c.o.op, i ∈ c.rd
  | some (j, want) => ∃ g, gval all fr j want = some g ∧
      ((∃ u, stepU P Cs ob c.nx fr c.o.op = some u ∧ u.ws = [] ∧ (g = true → u.owe ∧ u.gives) ∧ c.val = .gd g u.val ∧ c.ws = [] ∧ c.hi = u.hi ∧ ∀ i ∈ rdO fr c.o.op, i ∈ c.rd) ∨
       (g = true ∧ ∃ u, stepU P Cs ob c.nx fr c.o.op = some u ∧ u.owe ∧ u.gives ∧ c.val = u.val ∧ c.ws = u.ws ∧ c.hi = u.hi ∧ ∀ i ∈ rdO fr c.o.op, i ∈ c.rd) ∨
       (g = false ∧ c.val = .unk ∧ c.ws = [] ∧ c.hi = c.nx))

end

section
variable {P : Program} {Cs : List Con} {all : List Oper}

theorem gl_setD {fr : List SV} {dst : Option Nat} {v : SV} {d : Nat} (h : ∀ e, dst = some e → d ≠ e) : gl (setD fr dst v) d = gl fr d := by
  cases dst with
  | none => rfl
  | some e =>
    simp only [setD, gl_sl]
    rw [if_neg fun hh => h e rfl hh.1]

theorem ev_setD {fr : List SV} {dst : Option Nat} {v : SV} {x : Operand} (h : ∀ e, dst = some e → x ≠ .tmp e) : ev (setD fr dst v) x = ev fr x := by
  cases x with
  | tmp t => exact gl_setD fun e he ht => h e he (by rw [ht])
  | _ => rfl

/-- Two operations that make no difference to each other. -/
def Indep (all : List Oper) (c d : Rc) : Prop := Oper.apart all.toArray c.o d.o = true ∧ (∀ i ∈ keys' c.ws, i ∉ d.rd ∧ i ∉ keys' d.ws) ∧ ∀ i ∈ keys' d.ws, i ∉ c.rd

theorem ops_looks {o : Oper} {ops : Array Oper} {x : Operand} {t : Nat} (h : x ∈ o.op.operands.toList) (e : x = .tmp t) : t ∈ Oper.looksAt ops o := by
  subst e
  refine List.mem_append_left _ (List.mem_filterMap.2 ⟨_, h, rfl⟩)

theorem fit_congr {c : Rc} {fr fr' : List SV} {ob ob' : Nat → Ob} (hs : ∀ t ∈ Oper.looksAt all.toArray c.o, gl fr' t = gl fr t) (ho : ∀ i ∈ c.rd, ob' i = ob i) (h : Fit P Cs all c fr ob) : Fit P Cs all c fr' ob' := by
  have hev : ∀ x ∈ c.o.op.operands.toList, ev fr' x = ev fr x := by
    intro x hx
    cases x with
    | tmp t => exact hs t (ops_looks hx rfl)
    | _ => rfl
  have hrd : rdO fr' c.o.op = rdO fr c.o.op := by
    unfold rdO
    rw [idsO_fr _ hev]
  have hst : (∀ i ∈ rdO fr c.o.op, i ∈ c.rd) → stepU P Cs ob' c.nx fr' c.o.op = stepU P Cs ob c.nx fr c.o.op := by
    intro hsub
    rw [stepU_fr hev]
    refine stepU_ob fun hf i hi => ho i (hsub i ?_)
    unfold rdO
    rw [hf]; exact hi
  have hgv : ∀ j want, c.o.guard = some (j, want) → gval all fr' j want = gval all fr j want := by
    intro j want hg
    unfold gval
    cases hj : all[j]? with
    | none => rfl
    | some oj =>
      simp only []
      cases hd : oj.dst with
      | none => rfl
      | some d =>
        simp only []
        rw [hs d]
        refine List.mem_append_right _ ?_
        rw [hg]
        simp [hj, hd]
  unfold Fit at *
  split at h
  · rename_i hg
    obtain ⟨u, h1, h2, h3, h4, h5, h6, h7⟩ := h
    exact ⟨u, by rw [hst h7]; exact h1, h2, h3, h4, h5, h6, by rw [hrd]; exact h7⟩
  · rename_i j want hg
    obtain ⟨g, h0, h⟩ := h
    refine ⟨g, by rw [hgv j want hg]; exact h0, ?_⟩
    rcases h with ⟨u, h1, h2, h3, h4, h5, h6, h7⟩ | ⟨hgt, u, h1, h2, h3, h4, h5, h6, h7⟩ | h
    · exact .inl ⟨u, by rw [hst h7]; exact h1, h2, h3, h4, h5, h6, by rw [hrd]; exact h7⟩
    · exact .inr (.inl ⟨hgt, u, by rw [hst h7]; exact h1, h2, h3, h4, h5, h6, by rw [hrd]; exact h7⟩)
    · exact .inr (.inr h)

theorem sl_comm : ∀ (l : List SV) (i j : Nat) (v u : SV), i ≠ j → sl (sl l i v) j u = sl (sl l j u) i v
  | [], _, _, _, _, _ => rfl
  | x :: l, 0, 0, v, u, h => absurd rfl h
  | x :: l, 0, j + 1, v, u, h => rfl
  | x :: l, i + 1, 0, v, u, h => rfl
  | x :: l, i + 1, j + 1, v, u, h => by simp only [sl]; rw [sl_comm l i j v u (by omega)]

/-- A chain of operations. -/
def Ch (P : Program) (Cs : List Con) (all : List Oper) : List Rc → List SV → (Nat → Ob) → List SV → (Nat → Ob) → Prop
  | [], fr, ob, fr', ob' => fr = fr' ∧ ob = ob'
  | c :: L, fr, ob, fr', ob' => Fit P Cs all c fr ob ∧ Ch P Cs all L (setD fr c.o.dst c.val) (updO ob c.ws) fr' ob'

theorem swap {c d : Rc} {fr : List SV} {ob : Nat → Ob} (hi : Indep all c d) (hc : Fit P Cs all c fr ob) (hd : Fit P Cs all d (setD fr c.o.dst c.val) (updO ob c.ws)) :
    Fit P Cs all d fr ob ∧ Fit P Cs all c (setD fr d.o.dst d.val) (updO ob d.ws) ∧
      setD (setD fr d.o.dst d.val) c.o.dst c.val = setD (setD fr c.o.dst c.val) d.o.dst d.val ∧ updO (updO ob d.ws) c.ws = updO (updO ob c.ws) d.ws := by
  obtain ⟨h0, h1, h2⟩ := hi
  obtain ⟨a1, a2, a3⟩ := Oper.apart_spec h0
  refine ⟨fit_congr (fun t ht => (gl_setD fun e he hte => a1 e he (hte ▸ ht)).symm) (fun i hi => (updO_not c.ws ob i fun hk => (h1 i hk).1 hi).symm) hd,
    fit_congr (fun t ht => gl_setD fun e he hte => a3 e he (hte ▸ ht)) (fun i hi => updO_not d.ws ob i fun hk => h2 i hk hi) hc, ?_, (updO_comm c.ws d.ws ob fun i hi => (h1 i hi).2).symm⟩
  cases hcd : c.o.dst with
  | none => rfl
  | some x =>
    cases hdd : d.o.dst with
    | none => rfl
    | some y =>
      have hne : x ≠ y := fun e => a2 x hcd (by rw [hdd, e])
      exact sl_comm fr y x d.val c.val (Ne.symm hne)

theorem Ch.front {d : Rc} {fr' : List SV} {ob' : Nat → Ob} : ∀ (L1 L2 : List Rc) (fr : List SV) (ob : Nat → Ob), (∀ c ∈ L1, Indep all c d) → Ch P Cs all (L1 ++ d :: L2) fr ob fr' ob' →
    Ch P Cs all (d :: (L1 ++ L2)) fr ob fr' ob'
  | [], _, _, _, _, h => h
  | c :: L1, L2, fr, ob, hi, ⟨hc, h⟩ => by
    obtain ⟨hd, h⟩ := Ch.front L1 L2 _ _ (fun x hx => hi x (List.mem_cons_of_mem _ hx)) h
    obtain ⟨s1, s2, s3, s4⟩ := swap (hi c (List.mem_cons_self ..)) hc hd
    exact ⟨s1, s2, by rw [s3, s4]; exact h⟩

/-- The state of a run amid a region; the objects as a function. -/
def Con2 (P : Program) (G : Ctx) (fr : List SV) (ob : Nat → Ob) (N : Nat) (E : Env) (a : Act) (w : World) : Prop := ∃ hp, ob = fo hp ∧ Conc P G ⟨fr, hp, N⟩ E a w

theorem fit_step {G : Ctx} {c : Rc} {fr : List SV} {ob : Nat → Ob} {N : Nat} {E : Env} {a : Act} {w : World} {K : Act → World → Prop} {B : Exit → Act → World → Prop} (hCs : ∀ c ∈ Cs, c.Ok P) (hf : Fit P Cs all c fr ob)
    (hc : Con2 P G fr ob N E a w) (hfresh : ∀ i, c.nx ≤ i → i < c.hi → ¬ E.born i) (hN : c.hi ≤ N)
    (hK : ∀ a' w' E', Con2 P G (setD fr c.o.dst c.val) (updO ob c.ws) N E' a' w' → (∀ i, E'.born i → E.born i ∨ (c.nx ≤ i ∧ i < c.hi)) → K a' w') :
    if Region.wanted c.o (yielded all.toArray a.tmps) then c.o.wpIn (Fr G.rd) 0 P a w K B else (∀ f, c.o.about P w a.eval = some f → (Fr G.rd).fn f) ∧ K (a.put c.o.dst undef) w := by
  obtain ⟨hp, rfl, hc⟩ := hc
  have fin : ∀ (val : SV) (ws : List (Nat × Ob)) (v : Value) (w' : World) (E' : Env), Mem G E' w' → Evo E E' w w' → (∀ i, E'.ob i = fo (uos hp ws) i) → (∀ i, E'.born i → E.born i ∨ (c.nx ≤ i ∧ i < c.hi)) → SVok E' w' val v →
      c.val = val → c.ws = ws → K (a.put c.o.dst v) w' := by
    intro val ws v w' E' hm hev hob hb hv e1 e2
    obtain ⟨h1, h2⟩ := fr_put (d := c.o.dst) hc.len (fun i => hev.sv (hc.pre.fr i)) hv
    refine hK _ w' E' ⟨uos hp ws, by rw [e2]; exact (updO_fo hp ws).symm, ⟨⟨hm, hob, by rw [e1]; exact h2⟩, fun i hi => ?_, by rw [e1]; exact h1, put_dfr (hc.dfr.evo hev), hc.rd⟩⟩ hb
    rcases hb i hi with hi | hi
    · exact hc.born i hi
    · show i < N
      omega
  obtain ⟨j, ⟨d, op, ty, pos, af, gd⟩, nx, hi, val, ws, rd⟩ := c
  unfold Fit at hf
  split at hf
  · rename_i hg
    obtain ⟨u, h1, h2, h3, h4, h5, h6, _⟩ := hf
    rw [if_pos (by simp only at hg; simp [Region.wanted, hg])]
    have hL := step_ok (d := d) (ty := ty) (pos := pos) (af := af) (gd := gd) hc.pre hCs h1 (fun i k1 k2 => hfresh i k1 (by rw [h6]; exact k2)) h2
    exact op_in (stepU_nd h1) <| hL K B fun v w' E' hm hev hob hb hv _ => fin u.val u.ws v w' E' hm hev hob (fun i hi' => (hb i hi').imp id fun k => ⟨k.1, by rw [h6]; exact k.2⟩) hv h4 h5
  · rename_i j' want hg
    obtain ⟨g, h0, hf⟩ := hf
    have hw := gval_ok hc hg h0
    rcases hf with ⟨u, h1, h2, h3, h4, h5, h6, _⟩ | ⟨rfl, u, h1, h2, h3, h4, h5, h6, _⟩ | ⟨rfl, h4, h5, h6⟩
    · cases g
      · rw [if_neg (by rw [hw]; simp)]
        exact ⟨fun _ _ => Fr_fn, fin (.gd false u.val) [] undef w E hc.pre.mem Evo.rfl' hc.pre.ob (fun i hi => .inl hi) ⟨fun h => (by cases h), fun _ => rfl⟩ h4 h5⟩
      · rw [if_pos hw]
        have hL := step_ok (d := d) (ty := ty) (pos := pos) (af := af) (gd := gd) hc.pre hCs h1 (fun i k1 k2 => hfresh i k1 (by rw [h6]; exact k2)) (h3 rfl).1
        exact op_in (stepU_nd h1) <| hL K B fun v w' E' hm hev hob hb hv _ => fin (.gd true u.val) [] v w' E' hm hev (by rw [h2] at hob; exact hob) (fun i hi' => (hb i hi').imp id fun k => ⟨k.1, by rw [h6]; exact k.2⟩) ⟨fun _ => hv, fun h => (by cases h)⟩ h4 h5
    · rw [if_pos hw]
      have hL := step_ok (d := d) (ty := ty) (pos := pos) (af := af) (gd := gd) hc.pre hCs h1 (fun i k1 k2 => hfresh i k1 (by rw [h6]; exact k2)) h2
      exact op_in (stepU_nd h1) <| hL K B fun v w' E' hm hev hob hb hv _ => fin u.val u.ws v w' E' hm hev hob (fun i hi' => (hb i hi').imp id fun k => ⟨k.1, by rw [h6]; exact k.2⟩) hv h4 h5
    · rw [if_neg (by rw [hw]; simp)]
      exact ⟨fun _ _ => Fr_fn, fin .unk [] undef w E hc.pre.mem Evo.rfl' hc.pre.ob (fun i hi => .inl hi) trivial h4 h5⟩

/-! ### The orders -/
inductive Anc (all : List Oper) : Nat → Nat → Prop
  | dir {j : Nat} {o : Oper} {e : Edge} : all[j]? = some o → e ∈ o.after.toList → Region.binds .any e = true → Anc all j e.on
  | tr {j : Nat} {o : Oper} {e : Edge} {a : Nat} : all[j]? = some o → e ∈ o.after.toList → Region.binds .any e = true → Anc all e.on a → Anc all j a

theorem ancM_ok {tab : List Nat} : ∀ (l : List Edge) (m a : Nat), (ancM tab l m).testBit a = true → m.testBit a = true ∨ ∃ e ∈ l, Region.binds .any e = true ∧ (a = e.on ∨ (tab.getD e.on 0).testBit a = true)
  | [], m, a, h => .inl h
  | e :: l, m, a, h => by
    rcases ancM_ok l _ a h with h | ⟨e', h1, h2⟩
    · cases hb : Region.binds .any e with
      | false => rw [hb] at h; exact .inl h
      | true =>
        rw [hb] at h
        simp only [cond_true, Nat.testBit_or, Bool.or_eq_true, Nat.one_shiftLeft, Nat.testBit_two_pow, decide_eq_true_eq] at h
        rcases h with h | h | h
        · exact .inl h
        · exact .inr ⟨e, List.mem_cons_self .., hb, .inr h⟩
        · exact .inr ⟨e, List.mem_cons_self .., hb, .inl h.symm⟩
    · exact .inr ⟨e', List.mem_cons_of_mem _ h1, h2⟩

theorem ancT_ok : ∀ (l pre : List Oper) (tab : List Nat), all = pre ++ l → pre.length = tab.length → (∀ j a, (tab.getD j 0).testBit a = true → Anc all j a) → ∀ j a, ((ancT l tab).getD j 0).testBit a = true → Anc all j a
  | [], _, _, _, _, h, j, a, ha => h j a ha
  | o :: l, pre, tab, he, hl, h, j, a, ha => by
    simp only [ancT] at ha
    refine ancT_ok l (pre ++ [o]) _ (by rw [he]; simp) (by simp [hl]) (fun j a ha => ?_) j a ha
    rcases Nat.lt_trichotomy j tab.length with hj | hj | hj
    · refine h j a ?_
      simpa [List.getD_eq_getElem?_getD, List.getElem?_append, hj] using ha
    · subst hj
      have ho : all[tab.length]? = some o := by rw [he, ← hl]; simp
      simp only [List.getD_eq_getElem?_getD, List.getElem?_append, Nat.lt_irrefl, if_false, Nat.sub_self, List.getElem?_cons_zero, Option.getD_some] at ha
      rcases ancM_ok _ _ _ ha with ha | ⟨e, he1, hb, he2⟩
      · simp at ha
      · rcases he2 with rfl | he2
        · exact .dir ho he1 hb
        · exact .tr ho he1 hb (h _ _ he2)
    · have : ¬ j < tab.length := by omega
      have h2 : j - tab.length ≠ 0 := by omega
      obtain ⟨m, hm⟩ := Nat.exists_eq_succ_of_ne_zero h2
      simp [List.getD_eq_getElem?_getD, List.getElem?_append, this, hm] at ha

/-- What has come up: with each all that it waits for. -/
def Down (all : List Oper) (listed : Array Bool) : Prop := ∀ (k : Nat) (o : Oper), all[k]? = some o → listed.getD k false = true → ∀ e ∈ o.after.toList, Region.binds .any e = true → listed.getD e.on false = true

theorem anc_listed {listed : Array Bool} (hd : Down all listed) {j a : Nat} (h : Anc all j a) : (∀ o, all[j]? = some o → ∀ e ∈ o.after.toList, Region.binds .any e = true → listed.getD e.on false = true) → listed.getD a false = true := by
  induction h with
  | dir h1 h2 h3 => exact fun hr => hr _ h1 _ h2 h3
  | tr h1 h2 h3 _ ih => exact fun hr => ih fun o ho e he hb => hd _ o ho (hr _ h1 _ h2 h3) e he hb

/-- What is to come. -/
structure Left (all : List Oper) (L : List Rc) (listed : Array Bool) : Prop where
  at' : ∀ c ∈ L, all[c.j]? = some c.o
  un : ∀ j, listed.getD j true = false ↔ ∃ c ∈ L, c.j = j
  lt : L.Pairwise fun c d => c.j < d.j
  ind : L.Pairwise fun c d => Anc all d.j c.j ∨ Indep all c d
  ids : L.Pairwise fun c d => c.hi ≤ d.nx
  down : Down all listed
  lex : ∀ (j : Nat) o, all[j]? = some o → ∀ e ∈ o.after.toList, Region.binds .any e = true → e.on < j
  size : listed.size = all.length

theorem getD_tf {listed : Array Bool} {j : Nat} (h : listed.getD j true = false) : listed.getD j false = false := by
  rcases Nat.lt_or_ge j listed.size with h' | h'
  · simp [h'] at h ⊢; exact h
  · simp [Array.getElem?_eq_none h'] at h

theorem any_ok {G : Ctx} {Q : Exit → Act → World → Prop} {N : Nat} {fr' : List SV} {ob' : Nat → Ob} (hCs : ∀ c ∈ Cs, c.Ok P) (hQ : ∀ E a w, Con2 P G fr' ob' N E a w → Q .normal a w) :
    ∀ (fuel : Nat) (L : List Rc) (listed : Array Bool) (fr : List SV) (ob : Nat → Ob) (E : Env) (a : Act) (w : World), L.length ≤ fuel → Left all L listed → Ch P Cs all L fr ob fr' ob' → Con2 P G fr ob N E a w →
      (∀ c ∈ L, (∀ i, c.nx ≤ i → i < c.hi → ¬ E.born i) ∧ c.hi ≤ N ∧ c.nx ≤ c.hi) → wpAnyIn (Fr G.rd) 0 P .any all.toArray Q fuel listed a w := by
  have hnil : ∀ (L : List Rc) (listed : Array Bool), Left all L listed → Region.ready .any all.toArray listed = [] → L = [] := by
    intro L listed hl hr
    cases L with
    | nil => rfl
    | cons c L =>
      exfalso
      have hat := hl.at' c (List.mem_cons_self ..)
      have : c.j ∈ Region.ready .any all.toArray listed := by
        refine mem_ready.2 ⟨(hl.un c.j).2 ⟨c, List.mem_cons_self .., rfl⟩, c.o, by simpa using hat, fun e he hb => ?_⟩
        have hlt := hl.lex c.j c.o hat e (by simpa using he) hb
        have hsz : c.j < all.length := (List.getElem?_eq_some_iff.1 hat).1
        have hin : e.on < listed.size := by rw [hl.size]; omega
        cases hv : listed.getD e.on false with
        | true => rfl
        | false =>
          exfalso
          have hv' : listed.getD e.on true = false := by simp [hin] at hv ⊢; exact hv
          obtain ⟨d, hd, hdj⟩ := (hl.un e.on).1 hv'
          rcases List.mem_cons.1 hd with rfl | hd
          · omega
          · have := List.rel_of_pairwise_cons hl.lt hd
            omega
      rw [hr] at this; cases this
  have hend : ∀ (L : List Rc) (listed : Array Bool) (fr : List SV) (ob : Nat → Ob) (E : Env) (a : Act) (w : World), Left all L listed → Ch P Cs all L fr ob fr' ob' → Con2 P G fr ob N E a w → Region.ready .any all.toArray listed = [] → Q .normal a w := by
    intro L listed fr ob E a w hl hch hc hr
    have := hnil L listed hl hr
    subst this
    obtain ⟨rfl, rfl⟩ := hch
    exact hQ E a w hc
  intro fuel
  induction fuel with
  | zero =>
    intro L listed fr ob E a w hlen hl hch hc hids
    have hL : L = [] := by cases L with
      | nil => rfl
      | cons c L => simp at hlen
    have hr : Region.ready .any all.toArray listed = [] := by
      refine List.eq_nil_iff_forall_not_mem.2 fun j hj => ?_
      obtain ⟨h0, _⟩ := mem_ready.1 hj
      obtain ⟨c, hcm, _⟩ := (hl.un j).1 h0
      rw [hL] at hcm; cases hcm
    exact ⟨hr, hend L listed fr ob E a w hl hch hc hr⟩
  | succ fuel ih =>
    intro L listed fr ob E a w hlen hl hch hc hids
    refine ⟨hend L listed fr ob E a w hl hch hc, fun j hj => ?_⟩
    obtain ⟨h0, o, ho, hall⟩ := mem_ready.1 hj
    obtain ⟨d, hdm, hdj⟩ := (hl.un j).1 h0
    obtain ⟨L1, L2, rfl⟩ := List.append_of_mem hdm
    have hat := hl.at' d hdm
    have hoo : o = d.o := by
      rw [hdj] at hat
      have : all[j]? = some o := by simpa using ho
      rw [this] at hat; exact Option.some.inj hat
    have hind : ∀ c ∈ L1, Indep all c d := by
      intro c hc1
      have h1 := List.pairwise_append.1 hl.ind
      rcases h1.2.2 c hc1 d (List.mem_cons_self ..) with hanc | hi
      · exfalso
        have hls := anc_listed hl.down hanc fun o' ho' e he hb => by
          have : o' = o := by rw [hat] at ho'; rw [hoo]; exact (Option.some.inj ho').symm
          subst this
          exact hall e (by simpa using he) hb
        have hcu := (hl.un c.j).2 ⟨c, List.mem_append_left _ hc1, rfl⟩
        rw [getD_tf hcu] at hls; cases hls
      · exact hi
    obtain ⟨hfit, hch'⟩ := Ch.front L1 L2 fr ob hind hch
    have hsub : List.Sublist (L1 ++ L2) (L1 ++ d :: L2) := List.Sublist.append_left (List.sublist_cons_self d L2) L1
    have hd3 := hids d hdm
    have hjlt : j < listed.size := by
      rcases Nat.lt_or_ge j listed.size with h' | h'
      · exact h'
      · simp [Array.getElem?_eq_none h'] at h0
    have hjn : ∀ c ∈ L1 ++ L2, c.j ≠ j := by
      intro c hc1
      have h1 := List.pairwise_append.1 hl.lt
      rcases List.mem_append.1 hc1 with hc1 | hc1
      · have := h1.2.2 c hc1 d (List.mem_cons_self ..); omega
      · have := List.rel_of_pairwise_cons h1.2.1 hc1; omega
    have hleft : Left all (L1 ++ L2) (listed.setIfInBounds j true) := by
      refine ⟨fun c hc1 => hl.at' c (hsub.subset hc1), fun k => ?_, hl.lt.sublist hsub, hl.ind.sublist hsub, hl.ids.sublist hsub, fun k o' hk hkl e he hb => ?_, hl.lex, by simp [hl.size]⟩
      · by_cases hkj : j = k
        · subst hkj
          simp only [Array.getD_eq_getD_getElem?, Array.getElem?_setIfInBounds, hjlt, if_true, Option.getD_some]
          exact ⟨fun h => (by cases h), fun ⟨c, h1, h2⟩ => absurd h2 (hjn c h1)⟩
        · rw [getD_set_ne true hkj, hl.un k]
          constructor
          · rintro ⟨c, h1, h2⟩
            rcases List.mem_append.1 h1 with h1 | h1
            · exact ⟨c, List.mem_append_left _ h1, h2⟩
            · rcases List.mem_cons.1 h1 with rfl | h1
              · exact absurd (hdj.symm.trans h2) hkj
              · exact ⟨c, List.mem_append_right _ h1, h2⟩
          · rintro ⟨c, h1, h2⟩
            exact ⟨c, hsub.subset h1, h2⟩
      · by_cases hkj : j = k
        · subst hkj
          have : o' = o := by
            have : all[j]? = some o := by simpa using ho
            rw [this] at hk; exact (Option.some.inj hk).symm
          subst this
          exact getD_set_true (hall e (by simpa using he) hb)
        · rw [getD_set_ne false hkj] at hkl
          exact getD_set_true (hl.down k o' hk hkl e he hb)
    have hstep := fit_step (K := wpAnyIn (Fr G.rd) 0 P .any all.toArray Q fuel (listed.setIfInBounds j true)) (B := Q) hCs hfit hc hd3.1 hd3.2.1 fun a' w' E' hc' hb' => by
      refine ih (L1 ++ L2) _ _ _ E' a' w' ?_ hleft hch' hc' fun c hc1 => ?_
      · simp at hlen ⊢; omega
      · have h3 := hids c (hsub.subset hc1)
        refine ⟨fun i k1 k2 hbi => ?_, h3.2⟩
        rcases hb' i hbi with hbi | ⟨k3, k4⟩
        · exact h3.1 i k1 k2 hbi
        · have h1 := List.pairwise_append.1 hl.ids
          rcases List.mem_append.1 hc1 with hc1 | hc1
          · have := h1.2.2 c hc1 d (List.mem_cons_self ..); omega
          · have := List.rel_of_pairwise_cons h1.2.1 hc1; omega
    show wpOpIn (Fr G.rd) 0 P all.toArray Q j _ a w
    unfold wpOpIn
    have ho2 : all.toArray[j]? = some d.o := by rw [← hoo]; exact ho
    simp only [ho2]
    split
    · rename_i hw
      rw [if_pos hw] at hstep
      exact hstep
    · rename_i hw
      rw [if_neg hw] at hstep
      exact hstep

end
end Go.Proofs.YtdepbfgnmliggaaGreatDoor.Sx
