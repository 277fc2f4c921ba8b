/- A range over a function, run by that function's body; its rounds. -/
import Derived.Test.YtdepbfgnmliggaaGreatDoorSx26
import Derived.RangeFuncNested
namespace Go.Proofs.YtdepbfgnmliggaaGreatDoor.Sx
set_option linter.unusedSimpArgs false
set_option linter.unusedVariables false

section
variable {P : Program} {Cs : List Con} {G : Ctx} {B : Exit → Act → World → Prop}

theorem evo_grow {E : Env} {w : World} (x : Obj) : Evo E E w (w.alloc x) where
  born _ h := h
  keep o h := (Evo.rfl' (E := E) (w := w)).keep o h
  own _ _ h := h
  mem b hb _ := heap_alloc_ne w x b hb
  blk b cs T fz h := ⟨cs, fz, (heap_alloc_ne w x b (lt_of_row h)).trans h, rfl⟩
  size := by
    show w.heap.size ≤ (w.heap.push x).size
    simp
  bad := rfl
  oth b y h := by rw [heap_alloc_ne w x b (lt_of_obj h), h]; exact OthK.same

theorem Conc.grow {st : St} {E : Env} {a : Act} {w : World} (h : Conc P G st E a w) (x : Obj) : Conc P G st E a (w.alloc x) := by
  have hev := evo_grow (E := E) (w := w) x
  have m := h.pre.mem
  exact ⟨⟨m.step hev (fun _ => False) (fun o ho _ => ⟨ho, rfl, rfl, fun b f hd hl => heap_alloc_ne w x b (m.lt hd hl)⟩) (fun o ho => ho.elim) m.unb m.sep m.new rfl rfl rfl (fun b hb _ => heap_alloc_ne w x b (Nat.lt_of_lt_of_le hb m.size)), h.pre.ob, fun i => hev.sv (h.pre.fr i)⟩, h.born, h.len, h.dfr.evo hev, h.rd⟩

/-- A loop's record turned, or let go. -/
theorem evo_put {E : Env} {w : World} {o l : Nat} {x' : Ob} {r r' : Loop} (hmut : (E.ob o).mut = true) (hl : E.loc o = some (l, 0)) (hh : w.heap[l]? = some (.loop r)) (hsame : x' = .dead ∨ same (E.ob o) x') :
    Evo E (E.set o x' (some (l, 0))) w (w.putObj l (.loop r')) where
  born j hj := .inl hj
  keep j hj := by
    by_cases e : j = o
    · subst e; rw [set_ob, set_loc]; exact hsame.imp id fun h => ⟨h, hl.symm⟩
    · rw [set_ob_ne _ _ _ e, set_loc_ne _ _ _ e]
      exact (Evo.rfl' (E := E) (w := w)).keep j hj
  own b' hb ho := by
    rcases ho with ho | ⟨j, f', h1, h2⟩
    · exact .inl ho
    by_cases e : j = o
    · subst e
      rw [set_loc] at h2
      cases h2
      exact .inr ⟨j, 0, hmut, hl⟩
    · rw [set_ob_ne _ _ _ e] at h1
      rw [set_loc_ne _ _ _ e] at h2
      exact .inr ⟨j, f', h1, h2⟩
  mem b' _ ho := World.putObj_heap_other (fun e => ho (e ▸ .inr ⟨o, 0, hmut, hl⟩))
  blk b' cs T' fz' hc := by
    have e : b' ≠ l := fun e => by subst e; rw [hh] at hc; cases hc
    exact ⟨cs, fz', (World.putObj_heap_other e).trans hc, rfl⟩
  size := by simp
  bad := rfl
  oth b' x hx := by
    by_cases e : b' = l
    · subst e
      rw [hh] at hx
      cases hx
      exact ⟨r', World.putObj_heap_same (lt_of_obj hh)⟩
    · rw [World.putObj_heap_other e, hx]; exact OthK.same

theorem mem_put {E : Env} {w : World} (m : Mem G E w) {o l : Nat} {x' : Ob} {r r' : Loop} (hmut : (E.ob o).mut = true) (hl : E.loc o = some (l, 0)) (hh : w.heap[l]? = some (.loop r)) (hsame : x' = .dead ∨ same (E.ob o) x')
    (hok : Evo E (E.set o x' (some (l, 0))) w (w.putObj l (.loop r')) → ObOk (E.set o x' (some (l, 0))) (w.putObj l (.loop r')) o x') : Mem G (E.set o x' (some (l, 0))) (w.putObj l (.loop r')) := by
  have hev := evo_put (r' := r') hmut hl hh hsame
  have hlive : E.ob o ≠ .dead := mut_ne hmut
  have hbo : E.born o := m.born_of hlive
  have hoth : ∀ b', b' ≠ l → (w.putObj l (.loop r')).heap[b']? = w.heap[b']? := fun b' e => World.putObj_heap_other e
  refine m.step hev (fun j => j = o) (fun j hb hne => ?_) (fun j hj => by subst hj; rw [set_ob]; exact hok hev) (fun j hb => ?_) (fun p p' b' g g' h1 h2 h3 h4 => ?_) (fun p b' g h1 h2 => ?_) rfl rfl rfl (fun b' hb hm => ?_)
  · have hb' : E.born j := hb.resolve_right hne
    refine ⟨hb', set_ob_ne _ _ _ hne, set_loc_ne _ _ _ hne, fun b' g hd hl' => hoth b' fun e => hne ?_⟩
    subst e
    exact m.sep j o b' g 0 hd hlive hl' hl
  · have hne : j ≠ o := fun e => hb (.inr e)
    rw [set_ob_ne _ _ _ hne]
    exact m.unb j fun h => hb (.inl h)
  · have hl1 : ∀ q, (E.set o x' (some (l, 0))).loc q = E.loc q := by
      intro q
      by_cases e : q = o
      · subst e; rw [set_loc, hl]
      · rw [set_loc_ne _ _ _ e]
    have hd1 : ∀ q, (E.set o x' (some (l, 0))).ob q ≠ .dead → E.ob q ≠ .dead := by
      intro q hq
      by_cases e : q = o
      · subst e; exact hlive
      · rw [set_ob_ne _ _ _ e] at hq; exact hq
    rw [hl1] at h3 h4
    exact m.sep p p' b' g g' (hd1 p h1) (hd1 p' h2) h3 h4
  · by_cases e : p = o
    · subst e
      rw [set_loc] at h2
      cases h2
      exact m.new p l 0 hlive hl
    · rw [set_ob_ne _ _ _ e] at h1
      rw [set_loc_ne _ _ _ e] at h2
      exact m.new p b' g h1 h2
  · refine hoth b' fun e => ?_
    rw [e] at hb hm
    rcases m.new o l 0 hlive hl with h1 | h1
    · omega
    · exact hm h1

/-- The state behind a record's turn. -/
theorem Conc.put {st : St} {E : Env} {a : Act} {w : World} (h : Conc P G st E a w) {o l : Nat} {s s' : Nat} {fr : List SV} {ps : List Nat} {asg body : Code} {pd pd' : Option Code} {r : Loop} (ho : fo st.hp o = .lp s fr ps asg body pd) (hl : E.loc o = some (l, 0))
    (hh : w.heap[l]? = some (.loop r)) (r' : Loop) (hr : r' = { r with state := lpS s', pending := pd' }) (hk : r.params = ps.toArray ∧ r.assign = asg ∧ r.body = body ∧ r.tmps.size = fr.length ∧ ∀ i, SVok E w (gl fr i) (r.tmps.getD i undef)) :
    Conc P G ⟨st.fr, uo st.hp o (.lp s' fr ps asg body pd'), st.nx⟩ (E.set o (.lp s' fr ps asg body pd') (some (l, 0))) a (w.putObj l (.loop r')) := by
  have m := h.pre.mem
  have hob : E.ob o = .lp s fr ps asg body pd := (h.pre.ob o).trans ho
  have hmut : (E.ob o).mut = true := by rw [hob]; rfl
  have hsame : Ob.lp s' fr ps asg body pd' = .dead ∨ same (E.ob o) (.lp s' fr ps asg body pd') := .inr (by rw [hob]; trivial)
  have hev := evo_put (r' := r') hmut hl hh hsame
  refine ⟨⟨mem_put m hmut hl hh hsame fun hev => ?_, fun i => ?_, fun i => hev.sv (h.pre.fr i)⟩, fun i hi => ?_, h.len, h.dfr.evo hev, h.rd⟩
  · subst hr
    exact ⟨l, _, set_loc _ _ _ _, World.putObj_heap_same (lt_of_obj hh), rfl, hk.1, hk.2.1, hk.2.2.1, rfl, hk.2.2.2.1, fun i => hev.sv (hk.2.2.2.2 i)⟩
  · show _ = fo (uo st.hp o _) i
    rw [fo_uo]
    by_cases e : i = o
    · subst e; rw [if_pos rfl, set_ob]
    · rw [if_neg e, set_ob_ne _ _ _ e]; exact h.pre.ob i
  · rcases hi with hi | hi
    · exact h.born i hi
    · subst hi; exact h.born i (m.born_of (mut_ne hmut))

/-- The state behind a record that is let go. -/
theorem Conc.drop {st : St} {E : Env} {a : Act} {w : World} (h : Conc P G st E a w) {o l : Nat} {s : Nat} {fr : List SV} {ps : List Nat} {asg body : Code} {pd : Option Code} {r r' : Loop} (ho : fo st.hp o = .lp s fr ps asg body pd) (hl : E.loc o = some (l, 0))
    (hh : w.heap[l]? = some (.loop r)) : Conc P G ⟨st.fr, uo st.hp o .dead, st.nx⟩ (E.set o .dead (some (l, 0))) a (w.putObj l (.loop r')) := by
  have m := h.pre.mem
  have hob : E.ob o = .lp s fr ps asg body pd := (h.pre.ob o).trans ho
  have hmut : (E.ob o).mut = true := by rw [hob]; rfl
  have hev := evo_put (x' := .dead) (r' := r') hmut hl hh (.inl rfl)
  refine ⟨⟨mem_put m hmut hl hh (.inl rfl) fun hev => trivial, fun i => ?_, fun i => hev.sv (h.pre.fr i)⟩, fun i hi => ?_, h.len, h.dfr.evo hev, h.rd⟩
  · show _ = fo (uo st.hp o _) i
    rw [fo_uo]
    by_cases e : i = o
    · subst e; rw [if_pos rfl, set_ob]
    · rw [if_neg e, set_ob_ne _ _ _ e]; exact h.pre.ob i
  · rcases hi with hi | hi
    · exact h.born i hi
    · subst hi; exact h.born i (m.born_of (mut_ne hmut))

/-- What a record's object tells, where its block is known. -/
theorem Conc.recd {st : St} {E : Env} {a : Act} {w : World} (h : Conc P G st E a w) {o l : Nat} (hp : (o, l) ∈ G.rds) {s : Nat} {fr : List SV} {ps : List Nat} {asg body : Code} {pd : Option Code} (ho : fo st.hp o = .lp s fr ps asg body pd) :
    E.loc o = some (l, 0) ∧ ∃ r, w.heap[l]? = some (.loop r) ∧ r.state = lpS s ∧ r.pending = pd ∧ r.params = ps.toArray ∧ r.assign = asg ∧ r.body = body ∧ r.tmps.size = fr.length ∧ ∀ i, SVok E w (gl fr i) (r.tmps.getD i undef) := by
  have m := h.pre.mem
  have hob : E.ob o = .lp s fr ps asg body pd := (h.pre.ob o).trans ho
  obtain ⟨k1, k2, _⟩ := m.rdk _ hp
  have hl : E.loc o = some (l, 0) := by
    rcases k2 with k2 | k2
    · rw [hob] at k2; cases k2
    · exact k2
  have hm := m.hp o k1
  rw [hob] at hm
  obtain ⟨b, r, h1, h2, h3, h4, h5, h6, h7, h8, h9⟩ := hm
  rw [hl] at h1
  cases h1
  exact ⟨hl, r, h2, h3, h7, h4, h5, h6, h8, h9⟩

/-- What is owed when the loop's function comes back. -/
def RJ (P : Program) (G : Ctx) (B : Exit → Act → World → Prop) (k : List It) (fr : List SV) (o : Nat) (st2 : St) : Prop :=
  match fo st2.hp o with
  | .lp s _ _ _ _ none => Nat.beq s 1 = false ∧ Ok P G B k ⟨fr, uo st2.hp o .dead, st2.nx⟩
  | .lp s _ _ _ _ (some c) => Nat.beq s 1 = false ∧ Ok P G B (.c c :: k) ⟨fr, uo st2.hp o .dead, st2.nx⟩
  | _ => False

theorem rngU_some {inl : List Nat} {st : St} {g : Operand} {ps : Array Nat} {asg body : Code} {pre : Prop} {code : Code} {fr' : List SV} {hp' : List (Nat × Ob)} (h : rngU P inl st g ps asg body = some (pre, code, fr', hp')) :
    ∃ f caps fn, fnS (pkV (ev st.fr g)) = .s (.fn f caps) ∧ boxes (fo st.hp) caps = true ∧ P.funcs[f]? = some fn ∧ fn.body = some code ∧ fn.name ≠ "runtime.NumGoroutine" ∧ fn.results.toList = [] ∧ 1 + caps.length ≤ fn.ntmps ∧
      pre = pkP (ev st.fr g) ∧ fr' = .s (.yl st.nx) :: appSV (pbs caps) (unks (fn.ntmps - (1 + caps.length))) ∧ hp' = uo st.hp st.nx (.lp 0 st.fr ps.toList asg body none) := by
  unfold rngU at h
  split at h
  · rename_i f caps hv
    cases hb : (memN f inl && boxes (fo st.hp) caps) <;> rw [hb] at h <;> simp only [cond_true, cond_false, reduceCtorEq] at h
    split at h
    · rename_i code' nt hbi
      cases hs : Nat.ble (1 + caps.length) nt <;> rw [hs] at h <;> simp only [cond_true, cond_false, reduceCtorEq, Option.some.injEq, Prod.mk.injEq] at h
      obtain ⟨rfl, rfl, rfl, rfl⟩ := h
      unfold bodyI at hbi
      split at hbi
      · rename_i fn hf
        split at hbi
        · cases hbi
        · rename_i hn
          unfold bodyF at hbi
          split at hbi
          · rename_i c hc
            simp only [Option.some.injEq, Prod.mk.injEq] at hbi
            obtain ⟨rfl, h2, rfl⟩ := hbi
            simp only [Bool.and_eq_true] at hb
            exact ⟨f, caps, fn, hv, hb.2, hf, hc, hn, h2, Nat.le_of_ble_eq_true hs, rfl, rfl, rfl⟩
          · cases hbi
      · cases hbi
    · cases h
  · cases h

/-- A RANGE OVER A FUNCTION, by that function's body. -/
theorem Ok.range {inl : List Nat} {st : St} {g : Operand} {ps : Array Nat} {asg body : Code} {k : List It} {pre : Prop} {code : Code} {fr' : List SV} {hp' : List (Nat × Ob)} (hi : rngU P inl st g ps asg body = some (pre, code, fr', hp')) (hpre : pre)
    (h : ∀ (G' : Ctx) (B' : Exit → Act → World → Prop), (∀ p ∈ G'.sus, (∃ i, p.1 = gl st.fr i) ∨ p ∈ G.sus) → (∀ p ∈ G'.rds, p.1 = st.nx ∨ p ∈ G.rds) → (∀ st2 E2 a2 w2, RJ P G B k st.fr st.nx st2 → Conc P G' st2 E2 a2 w2 → B' .ret a2 w2 ∧ B' .normal a2 w2) →
      Ok P G' B' [.c code] ⟨fr', hp', st.nx + 1⟩) : Ok P G B (.c (.rangeFunc g ps asg body) :: k) st := by
  obtain ⟨f, caps, fn, hfv, hbx, hf, hb, hn, hres0, hsz, rfl, rfl, rfl⟩ := rngU_some hi
  intro E a w hc
  show cwp P G (.rangeFunc g ps asg body) (kont P G B k) a w
  have hfe := fnS_ok (hc.pre.pk hpre)
  rw [hfv] at hfe
  obtain ⟨cvs, e1, e2, e3⟩ := hfe
  have hbx' := boxes_ok hc.pre.ob caps hbx
  obtain ⟨bs, hde, hnd, hbs⟩ := hc.dfr
  have hnb : ¬ E.born st.nx := fun hb => Nat.lt_irrefl _ (hc.born _ hb)
  refine wpIn_rangeFunc fun fnid _ => ?_
  -- what entering lays
  obtain ⟨l, mark, w₁, bs', rr, hent, w0, hc0, hl0, hw1, hrr, hmark, hnd', hbs'⟩ : ∃ (l : Nat) (mark : List Deferred) (w₁ : World) (bs' : List Nat) (rr : Loop), (Instr.enterLoop fnid a.tmps ps asg body (Fr G.rd).round).run P w = .ok (l, mark) w₁ ∧
      ∃ w0, Conc P G st E a w0 ∧ l = w0.heap.size ∧ w₁ = w0.alloc (.loop rr) ∧ (rr.state = .ready ∧ rr.params = ps ∧ rr.assign = asg ∧ rr.body = body ∧ rr.pending = none ∧ rr.tmps = a.tmps) ∧
      mark ++ a.defers = bs'.map (fun b => { target := .collected b, args := #[] }) ∧ (bs' ++ G.mrk).Nodup ∧ ∀ b ∈ bs', G.w0.heap.size ≤ b ∧ w0.heap[b]? = some (.deferred (some [])) := by
    cases hrd : G.rd with
    | none =>
      have hgr := hc.grow (.deferred (some []))
      refine ⟨_, _, _, w.heap.size :: bs, _, run_enterLoop_outer fnid a.tmps ps asg body, _, hgr, by simp [World.size_alloc], rfl, ⟨rfl, rfl, rfl, rfl, rfl, rfl⟩, by rw [hde]; rfl, ?_, ?_⟩
      · refine List.nodup_cons.2 ⟨fun hm => ?_, hnd⟩
        rcases List.mem_append.1 hm with hm | hm
        · have := lt_of_obj (hbs _ hm).2; omega
        · have := lt_of_obj (hc.pre.mem.mks _ hm); omega
      · intro b hb
        rcases List.mem_cons.1 hb with rfl | hb
        · exact ⟨hc.pre.mem.size, heap_alloc_at w _⟩
        · exact ⟨(hbs b hb).1, (heap_alloc_ne w _ b (lt_of_obj (hbs b hb).2)).trans (hbs b hb).2⟩
    | some p =>
      obtain ⟨o0, l0⟩ := p
      obtain ⟨_, _, r0, hr0⟩ := hc.pre.mem.rdk _ (hc.rd _ hrd)
      exact ⟨_, _, _, bs, _, run_enterLoop_inner hr0 fnid a.tmps ps asg body, _, hc, rfl, rfl, ⟨rfl, rfl, rfl, rfl, rfl, rfl⟩, hde, hnd, hbs⟩
  subst hw1
  obtain ⟨r1, r2, r3, r4, r5, r6⟩ := hrr
  have hcf : ∀ as w, (callFunc f as).run P w = .ok (.enter f as) w := fun as w => by
    have : ¬ fn.name = "runtime.NumGoroutine" := hn
    simp [callFunc, hf, hb, this]
  refine ⟨l, mark, w0.alloc (.loop rr), { target := .fn (.func f) cvs.toArray, args := #[.func (.yield l) #[] #[]] }, w0.alloc (.loop rr), f, #[.func (.yield l) #[] #[]] ++ cvs.toArray, w0.alloc (.loop rr), hent, ?_, fun _ _ => Fr_fn, ?_, Fr_n, ?_⟩
  · simp [resolve, rangeCall, e1, Deferred.ofValue]
    rfl
  · simp [invoke, hcf]
  refine callsIn_fr.2 ((callsIn_fr (r := none) (n := 0)).1 (callsIn_of_wp_marks hf hb trivial ?_ rfl))
  let G' : Ctx := { G with sus := ((List.range st.fr.length).map fun i => (gl st.fr i, a.tmps.getD i undef)) ++ G.sus, rd := none, rds := (st.nx, l) :: G.rds, mrk := bs' ++ G.mrk }
  let E1 : Env := E.set st.nx (.lp 0 st.fr ps.toList asg body none) (some (w0.heap.size, 0))
  have hev : Evo E E1 w0 (w0.alloc (.loop rr)) := evo_new hc0.pre.mem hnb _ _
  have hm1 : Mem G E1 (w0.alloc (.loop rr)) := mem_newO hc0.pre.mem hnb _ _
    ⟨w0.heap.size, rr, set_loc _ _ _ _, heap_alloc_at w0 _, by rw [r1]; rfl, by rw [r2], r3, r4, r5, by rw [r6]; exact hc0.len, fun i => by rw [r6]; exact hev.sv (hc0.pre.fr i)⟩
  have hbnx : E1.born st.nx := .inr rfl
  refine h G' _ ?_ (fun p hp => ?_) (fun st2 E2 a2 w2 hr hc2 => ?_) E1 _ _ ⟨⟨⟨hm1.hp, hm1.unb, hm1.sep, hm1.new, hm1.bad, hm1.bd, hm1.os, hm1.tape, hm1.output, hm1.size, hm1.old, ?_, ?_, ?_⟩, fun i => ?_, fun i => ?_⟩, fun i hi => ?_, ?_, ⟨[], rfl, hnd', fun b hb => (by cases hb)⟩, fun p hp => (by cases hp)⟩
  · intro p hp
    rcases List.mem_append.1 hp with hp | hp
    · obtain ⟨i, _, rfl⟩ := List.mem_map.1 hp
      exact .inl ⟨i, rfl⟩
    · exact .inr hp
  · rcases List.mem_cons.1 hp with rfl | hp
    · exact .inl rfl
    · exact .inr hp
  · have key : ∀ a' w', a'.tmps = a2.tmps → Conc P G' st2 E2 a' w' → ∃ v, (results fn a2.tmps).run P w' = .ok v w' ∧ rangePost (Fr G.rd) 0 P l (kont P G B k) { a with defers := mark ++ a.defers } (.returned v) w' := by
      intro a' w' ht hc2
      refine ⟨_, results_run (vs := []) (by rw [hres0]; rfl), ?_⟩
      unfold RJ at hr
      have fin : ∀ s fr2 ps2 asg2 body2 pd, fo st2.hp st.nx = .lp s fr2 ps2 asg2 body2 pd → Nat.beq s 1 = false → ∃ (w4 : World) (E4 : Env), (Instr.endLoop l).run P w' = .ok pd w4 ∧ Conc P G ⟨st.fr, uo st2.hp st.nx .dead, st2.nx⟩ E4 { a with defers := mark ++ a.defers } w4 := by
        intro s fr2 ps2 asg2 body2 pd ho hs
        obtain ⟨hl, r, hh, h3, h7, _⟩ := hc2.recd (List.mem_cons_self ..) ho
        have hnb : r.state ≠ .busy := by
          rw [h3]
          match s, hs with
          | 0, _ => simp [lpS]
          | s + 2, _ => simp [lpS]
        have hc4 := hc2.drop (r' := { r with state := .exhausted }) ho hl hh
        refine ⟨w'.putObj l (.loop { r with state := .exhausted }), E2.set st.nx .dead (some (l, 0)), ?_, ?_⟩
        · exact (run_endLoop hh hnb).trans (by rw [h7])
        · have m := hc4.pre.mem
          refine ⟨⟨⟨m.hp, m.unb, m.sep, m.new, m.bad, m.bd, m.os, m.tape, m.output, m.size, m.old, fun p hp => m.sus p (List.mem_append_right _ hp), fun p hp => m.rdk p (List.mem_cons_of_mem _ hp), fun b hb => m.mks b (List.mem_append_right _ hb)⟩, hc4.pre.ob, fun i => ?_⟩, hc4.born, hc.len, ⟨bs', hmark, hnd', fun b hb => ⟨(hbs' b hb).1, m.mks b (List.mem_append_left _ hb)⟩⟩, hc.rd⟩
          rcases Nat.lt_or_ge i st.fr.length with hi | hi
          · exact m.sus _ (List.mem_append_left _ (List.mem_map.2 ⟨i, List.mem_range.2 hi, rfl⟩))
          · show SVok _ _ (gl st.fr i) _
            rw [gl_out _ _ hi]; trivial
      split at hr
      · rename_i s fr2 ps2 asg2 body2 ho
        obtain ⟨w4, E4, h1, h2⟩ := fin _ _ _ _ _ _ ho hr.1
        exact ⟨none, w4, h1, hr.2 E4 _ w4 h2⟩
      · rename_i s fr2 ps2 asg2 body2 c ho
        obtain ⟨w4, E4, h1, h2⟩ := fin _ _ _ _ _ _ ho hr.1
        exact ⟨some c, w4, h1, hr.2 E4 _ w4 h2⟩
      · exact hr.elim
    exact ⟨hc2.leave key, hc2.leave key⟩
  · intro p hp
    rcases List.mem_append.1 hp with hp | hp
    · obtain ⟨i, _, rfl⟩ := List.mem_map.1 hp
      exact hev.sv (hc0.pre.fr i)
    · exact hm1.sus p hp
  · intro p hp
    rcases List.mem_cons.1 hp with rfl | hp
    · exact ⟨hbnx, .inr (by rw [hl0]; exact set_loc _ _ _ _), rr, by rw [hl0]; exact heap_alloc_at w0 _⟩
    · exact hm1.rdk p hp
  · intro b hb
    rcases List.mem_append.1 hb with hb | hb
    · exact (heap_alloc_ne w0 _ b (lt_of_obj (hbs' b hb).2)).trans (hbs' b hb).2
    · exact hm1.mks b hb
  · show E1.ob i = fo (uo st.hp st.nx _) i
    rw [fo_uo]
    by_cases e : i = st.nx
    · subst e; rw [if_pos rfl]; exact set_ob _ _ _ _
    · rw [if_neg e]; exact (set_ob_ne _ _ _ e).trans (hc0.pre.ob i)
  · cases i with
    | zero =>
      show S1ok E1 _ (.yl st.nx) _
      refine ⟨hbnx, ?_⟩
      have : E1.ob st.nx = .lp 0 st.fr ps.toList asg body none := set_ob _ _ _ _
      rw [this]
      refine ⟨w0.heap.size, set_loc _ _ _ _, ?_⟩
      rw [hl0]
      show (((#[Value.func (.yield w0.heap.size) #[] #[]] ++ cvs.toArray) ++ _ : Array Value)).getD 0 undef = _
      simp [Array.getElem?_append]
    | succ i =>
      show SVok E1 _ (gl (appSV (pbs caps) (unks (fn.ntmps - (1 + caps.length)))) i) _
      rw [gl_app, pbs_len]
      by_cases hi2 : i < caps.length
      · rw [if_pos hi2, pbs_at, List.getElem?_eq_getElem hi2]
        have hcv : i < cvs.length := by omega
        obtain ⟨hbn, hm⟩ := e3 i _ _ (List.getElem?_eq_getElem hi2)
        obtain ⟨cs, hcs⟩ := hbx' _ _ (List.getElem_mem hi2)
        rw [hcs] at hm
        obtain ⟨b, hl1, hl2⟩ := hm
        have hne : caps[i].1 ≠ st.nx := fun e => hnb (e ▸ hbn)
        refine ⟨.inl hbn, ?_⟩
        have e5 : E1.ob (caps.get ⟨i, hi2⟩).1 = .box cs := (set_ob_ne _ _ _ hne).trans hcs
        rw [e5]
        refine ⟨b, (set_loc_ne _ _ _ hne).trans hl1, ?_⟩
        rw [List.getElem?_eq_getElem hcv] at hl2
        have hl3 := Option.some.inj hl2
        simp [Array.getElem?_append, hcv, hl3]
      · rw [if_neg hi2, gl_unks]; trivial
  · rcases hi with hi | rfl
    · exact Nat.lt_succ_of_lt (hc.born i hi)
    · exact Nat.lt_succ_self _
  · simp [app_len, unks_len, pbs_len, e2]
    omega

/-! ### A call of yield -/

theorem getD_sib (t : Array Value) (p i : Nat) (v : Value) : (t.setIfInBounds p v).getD i undef = if i = p ∧ p < t.size then v else t.getD i undef := by
  simp only [Array.getD_eq_getD_getElem?, Array.getElem?_setIfInBounds]
  by_cases e : p = i
  · subst e
    by_cases h : p < t.size <;> simp [h]
  · rw [if_neg e, if_neg fun h => e h.1.symm]

theorem sets_ok {E : Env} {w : World} : ∀ (ps : List Nat) (vs : List Value) (xs : List SV) (t : Array Value) (fr : List SV), ps.length = vs.length → vs.length = xs.length → (∀ (i : Nat) y v, xs[i]? = some y → vs[i]? = some v → SVok E w y v) → t.size = fr.length → (∀ i, SVok E w (gl fr i) (t.getD i undef)) →
    ((ps.zip vs).foldl (fun t p => t.setIfInBounds p.1 p.2) t).size = (setPs fr ps xs).length ∧ ∀ i, SVok E w (gl (setPs fr ps xs) i) (((ps.zip vs).foldl (fun t p => t.setIfInBounds p.1 p.2) t).getD i undef)
  | [], vs, xs, t, fr, _, _, _, h4, h5 => ⟨by simpa [setPs] using h4, by simpa [setPs] using h5⟩
  | p :: ps, [], xs, t, fr, h1, _, _, _, _ => by simp at h1
  | p :: ps, v :: vs, [], t, fr, _, h2, _, _, _ => by simp at h2
  | p :: ps, v :: vs, x :: xs, t, fr, h1, h2, h3, h4, h5 => by
    simp only [List.zip_cons_cons, List.foldl_cons, setPs]
    refine sets_ok ps vs xs _ _ (by simpa using h1) (by simpa using h2) (fun i y v g1 g2 => h3 (i + 1) y v (by simpa using g1) (by simpa using g2)) (by rw [sl_len]; simpa using h4) fun i => ?_
    rw [gl_sl, getD_sib, ← h4]
    by_cases e : i = p
    · subst e
      by_cases h : i < t.size
      · rw [if_pos ⟨rfl, h⟩, if_pos ⟨rfl, h⟩]
        exact h3 0 x v rfl rfl
      · rw [if_neg fun h' => h h'.2, if_neg fun h' => h h'.2]; exact h5 i
    · rw [if_neg fun h' => e h'.1, if_neg fun h' => e h'.1]; exact h5 i

theorem yldU_some {st : St} {op : Op} {pre : Prop} {lo : Nat} {fr' : List SV} {asg body : Code} (h : yldU st op = some (pre, lo, fr', asg, body)) :
    ∃ c f fr ps, op = .call c ∧ c.callee = .value f ∧ pkV (ev st.fr f) = .s (.yl lo) ∧ fo st.hp lo = .lp 0 fr ps asg body none ∧ c.args.size = ps.length ∧ pre = (pkP (ev st.fr f) ∧ pkPs st.fr c.args.toList) ∧ fr' = setPs fr ps (pkVs st.fr c.args.toList) := by
  unfold yldU at h
  split at h
  · rename_i c
    split at h
    · rename_i f hf
      split at h
      · rename_i o hv
        split at h
        · rename_i fr ps asg' body' ho
          cases hb : Nat.beq c.args.size ps.length <;> rw [hb] at h <;> simp only [cond_true, cond_false, reduceCtorEq, Option.some.injEq, Prod.mk.injEq] at h
          obtain ⟨rfl, rfl, rfl, rfl, rfl⟩ := h
          exact ⟨c, f, fr, ps, rfl, hf, hv, ho, Nat.eq_of_beq_eq_true hb, rfl, rfl⟩
        · cases h
      · cases h
    · cases h
  · cases h

/-- What is owed at a round's end. -/
def RN (R : SV → List (Nat × Ob) → Nat → Prop) (o : Nat) (e : Exit) (st2 : St) : Prop :=
  match fo st2.hp o with
  | .lp 1 fr' ps asg body none => match e with
    | .normal => R (.s (.bool true)) (uo st2.hp o (.lp 0 fr' ps asg body none)) st2.nx
    | .ret => R (.s (.bool false)) (uo st2.hp o (.lp 2 fr' ps asg body (some .ret))) st2.nx
    | .exit id => R (.s (.bool false)) (uo st2.hp o (.lp 2 fr' ps asg body (some (.exit id)))) st2.nx
    | .goto t => R (.s (.bool false)) (uo st2.hp o (.lp 2 fr' ps asg body (some (.goto t)))) st2.nx
    | _ => False
  | _ => False

theorem Ok.beg {o : Nat} {fr : List SV} {ps : List Nat} {asg body : Code} {k : List It} {st : St} (ho : fo st.hp o = .lp 0 fr ps asg body none) (h : Ok P G B k ⟨st.fr, uo st.hp o (.lp 1 fr ps asg body none), st.nx⟩) : Ok P G B (.beg o :: k) st := by
  intro E a w hc l hl
  obtain ⟨h1, r, hh, h3, h7, h4, h5, h6, h8, h9⟩ := hc.recd (hc.rd _ hl) ho
  exact ⟨_, run_beginRound hh (by rw [h3]; rfl), h _ _ _ (hc.put (s' := 1) (pd' := none) ho h1 hh { r with state := .busy } (by rw [← h7]; rfl) ⟨h4, h5, h6, h8, h9⟩)⟩

theorem Ok.rnd {X : Exit → St → Prop} {k : List It} {st : St} (h : X .normal st) : Ok P G B (.rnd X :: k) st := fun E a w hc => ⟨st, E, hc, h⟩

/-- A CALL OF yield, as one operation: a round. -/
theorem yield_gen {R : SV → List (Nat × Ob) → Nat → Prop} {X : Exit → St → Prop} {o : Oper} {st : St} {pre : Prop} {lo : Nat} {fr' : List SV} {asg body : Code} (hi : yldU st o.op = some (pre, lo, fr', asg, body)) (hpre : pre)
    (h : ∀ (G' : Ctx) (B' : Exit → Act → World → Prop), (∀ p ∈ G'.sus, (∃ i, p.1 = gl st.fr i) ∨ p ∈ G.sus) → (∀ p ∈ G'.rds, p.1 = lo ∨ p ∈ G.rds) → Ok P G' B' [.c asg, .beg lo, .c body, .rnd X] ⟨fr', st.hp, st.nx⟩) (hX : ∀ e st2, X e st2 → RN R lo e st2)
    {E : Env} {a : Act} {w : World} (hc : Conc P G st E a w) {K : Act → World → Prop} {Q : Exit → Act → World → Prop} (hK : ∀ v hp nx E a w, R v hp nx → Conc P G ⟨setD st.fr o.dst v, hp, nx⟩ E a w → K a w) : o.wpIn (Fr G.rd) 0 P a w K Q := by
  obtain ⟨c, f, fr, ps, hop, hcal, hv, ho, hsz, rfl, rfl⟩ := yldU_some hi
  have hob : E.ob lo = .lp 0 fr ps asg body none := (hc.pre.ob lo).trans ho
  have hfe := hc.pre.pk hpre.1
  rw [hv] at hfe
  obtain ⟨hbn, hm⟩ := hfe
  rw [hob] at hm
  obtain ⟨l, hl, e1⟩ := hm
  have hm := hc.pre.mem.hp lo hbn
  rw [hob] at hm
  obtain ⟨b, r, g1, g2, g3, g4, g5, g6, g7, g8, g9⟩ := hm
  rw [hl] at g1
  cases g1
  obtain ⟨hal, hav⟩ := pkVs_ok hc.pre c.args.toList hpre.2
  obtain ⟨d, op, ty, pos, af, gd⟩ := o
  simp only at hop
  subst hop
  obtain ⟨callee, args, ats⟩ := c
  simp only at hcal hsz hal hav h hpre
  subst hcal
  have hy := run_yield (P := P) (args := args.map a.eval) g2 (by rw [g4]; simp [hsz])
  have hrun : (execOp a.eval ⟨d, .call { callee := .value f, args := args, argTypes := ats }, ty, pos, af, gd⟩).run P w = .ok (.round l r.fn ((r.params.zip (args.map a.eval)).foldl (fun tmps (t, a) => tmps.setIfInBounds t a) r.tmps) r.assign r.body) w := by
    simp [execOp, resolve, e1, Deferred.ofValue, invoke, hy]
  have e : Oper.semAt (Fr G.rd).round a.eval ⟨d, .call { callee := .value f, args := args, argTypes := ats }, ty, pos, af, gd⟩ = execOp a.eval ⟨d, .call { callee := .value f, args := args, argTypes := ats }, ty, pos, af, gd⟩ := by
    cases G.rd with
    | none => exact Oper.semAt_none ..
    | some p => exact Oper.semAt_some _ _ _ (fun c e => by cases e)
  obtain ⟨bs, hde, hnd, hbs⟩ := hc.dfr
  refine ⟨fun _ _ => Fr_fn, ?_⟩
  rw [e, hrun, Oper.uponIn_round]
  refine ⟨Fr_n, roundIn_of_wpIn Fr_fn ?_⟩
  let G' : Ctx := { G with sus := ((List.range st.fr.length).map fun i => (gl st.fr i, a.tmps.getD i undef)) ++ G.sus, rd := some (lo, l), rds := (lo, l) :: G.rds, mrk := bs ++ G.mrk }
  have hF : (Fr G.rd).inRound l = Fr G'.rd := by cases G.rd <;> rfl
  rw [hF, g5, g6]
  have hz : ((r.params.zip (args.map a.eval)).foldl (fun tmps (t, a) => tmps.setIfInBounds t a) r.tmps) = ((ps.zip (args.toList.map a.eval)).foldl (fun t p => t.setIfInBounds p.1 p.2) r.tmps) := by
    rw [g4, ← Array.foldl_toList]
    simp [Array.toList_zip]
  rw [hz]
  obtain ⟨s1, s2⟩ := sets_ok ps (args.toList.map a.eval) (pkVs st.fr args.toList) r.tmps fr (by simp [hsz]) hal hav g8 g9
  have m := hc.pre.mem
  have hOk := h G' (fun _ _ _ => False) (fun p hp => ?_) (fun p hp => ?_) E { tmps := (ps.zip (args.toList.map a.eval)).foldl (fun t p => t.setIfInBounds p.1 p.2) r.tmps, defers := [] } w
    ⟨⟨⟨m.hp, m.unb, m.sep, m.new, m.bad, m.bd, m.os, m.tape, m.output, m.size, m.old, ?_, ?_, ?_⟩, hc.pre.ob, s2⟩, hc.born, s1, ⟨[], rfl, hnd, fun b hb => (by cases hb)⟩, fun p hp => by cases hp; exact List.mem_cons_self ..⟩
  · refine wpIn_mono hOk fun e a1 w1 hk => ?_
    cases e with
    | normal =>
      obtain ⟨w2, hbr, hbody⟩ := hk l rfl
      refine ⟨w2, hbr, wpIn_mono hbody fun e a2 w3 hk => ?_⟩
      obtain ⟨st2, E2, hc2, hx⟩ := hk
      have hr := hX e st2 hx
      unfold RN at hr
      have fin : ∀ (fr2 : List SV) (ps2 : List Nat) (asg2 body2 : Code), fo st2.hp lo = .lp 1 fr2 ps2 asg2 body2 none → ∀ (jump : Option Code), R (.s (.bool jump.isNone)) (uo st2.hp lo (.lp (if jump.isNone then 0 else 2) fr2 ps2 asg2 body2 jump)) st2.nx →
          ∃ v w', (Instr.endRound l jump).run P w3 = .ok v w' ∧ K (a.put d v) w' := by
        intro fr2 ps2 asg2 body2 ho2 jump hR
        obtain ⟨q1, r2, hh, q3, q7, q4, q5, q6, q8, q9⟩ := hc2.recd (List.mem_cons_self ..) ho2
        have hc4 := hc2.put (s' := if jump.isNone then 0 else 2) (pd' := jump) ho2 q1 hh { r2 with state := if jump.isNone then .ready else .done, pending := jump } (by cases jump <;> rfl) ⟨q4, q5, q6, q8, q9⟩
        refine ⟨_, _, run_endRound jump hh, hK _ _ _ (E2.set lo (.lp (if jump.isNone then 0 else 2) fr2 ps2 asg2 body2 jump) (some (l, 0))) _ _ hR ?_⟩
        have m := hc4.pre.mem
        have hfr : ∀ i, SVok (E2.set lo (.lp (if jump.isNone then 0 else 2) fr2 ps2 asg2 body2 jump) (some (l, 0))) (w3.putObj l (.loop { r2 with state := if jump.isNone then .ready else .done, pending := jump })) (gl st.fr i) (a.tmps.getD i undef) := by
          intro i
          rcases Nat.lt_or_ge i st.fr.length with hi | hi
          · exact m.sus _ (List.mem_append_left _ (List.mem_map.2 ⟨i, List.mem_range.2 hi, rfl⟩))
          · rw [gl_out _ _ hi]; trivial
        obtain ⟨k1, k2⟩ := fr_put (fr := st.fr) (d := d) (X := .s (.bool jump.isNone)) (v := .bool jump.isNone) hc.len hfr rfl
        exact ⟨⟨⟨m.hp, m.unb, m.sep, m.new, m.bad, m.bd, m.os, m.tape, m.output, m.size, m.old, fun p hp => m.sus p (List.mem_append_right _ hp), fun p hp => m.rdk p (List.mem_cons_of_mem _ hp), fun b hb => m.mks b (List.mem_append_right _ hb)⟩, hc4.pre.ob, k2⟩, hc4.born, k1,
          put_dfr (G := G) ⟨bs, hde, hnd, fun b hb => ⟨(hbs b hb).1, m.mks b (List.mem_append_left _ hb)⟩⟩, hc.rd⟩
      split at hr
      · rename_i fr2 ps2 asg2 body2 ho2
        cases e with
        | normal => exact fin _ _ _ _ ho2 none hr
        | ret => exact fin _ _ _ _ ho2 (some .ret) hr
        | exit id => exact fin _ _ _ _ ho2 (some (.exit id)) hr
        | goto t => exact fin _ _ _ _ ho2 (some (.goto t)) hr
        | _ => exact hr.elim
      · exact hr.elim
    | _ => exact hk.elim
  · rcases List.mem_append.1 hp with hp | hp
    · obtain ⟨i, _, rfl⟩ := List.mem_map.1 hp
      exact .inl ⟨i, rfl⟩
    · exact .inr hp
  · rcases List.mem_cons.1 hp with rfl | hp
    · exact .inl rfl
    · exact .inr hp
  · intro p hp
    rcases List.mem_append.1 hp with hp | hp
    · obtain ⟨i, _, rfl⟩ := List.mem_map.1 hp
      exact hc.pre.fr i
    · exact hc.pre.mem.sus p hp
  · intro p hp
    rcases List.mem_cons.1 hp with rfl | hp
    · exact ⟨hbn, .inr hl, r, g2⟩
    · exact m.rdk p hp
  · intro b hb
    rcases List.mem_append.1 hb with hb | hb
    · exact (hbs b hb).2
    · exact m.mks b hb

end
end Go.Proofs.YtdepbfgnmliggaaGreatDoor.Sx
