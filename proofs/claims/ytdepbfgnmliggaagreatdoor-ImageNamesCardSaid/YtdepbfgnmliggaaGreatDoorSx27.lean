/- The symbolic run: what it proves; contracts, loops; what it is evaluated by. -/
import Derived.Test.YtdepbfgnmliggaaGreatDoorSx32
namespace Go.Proofs.YtdepbfgnmliggaaGreatDoor.Sx
set_option linter.unusedSimpArgs false
set_option linter.unusedVariables false

/-- The code k, from the state st on, comes to what Q says of its end; kp: the objects that callers name. -/
def OkQ (P : Program) (kp : List Nat) (Q : St → Prop) (k : List It) (st : St) : Prop :=
  ∀ (G : Ctx) (B : Exit → Act → World → Prop), KpOk G kp → (∀ st E a w, Q st → Conc P G st E a w → B .ret a w ∧ B .normal a w) → Ok P G B k st

section
variable {P : Program} {G : Ctx} {B : Exit → Act → World → Prop}
/-- AN EMPTY OBJECT that lies nowhere: for a nil slice that a loop appends to. -/
theorem Ok.virt (z : Nat) (e : Ty) {k : List It} {fr : List SV} {hp : List (Nat × Ob)} {nx : Nat} (h : Ok P G B k ⟨fr, uo hp nx (.arr false z e []), nx + 1⟩) : Ok P G B k ⟨fr, hp, nx⟩ := by
  intro E a w hc
  have hn : ¬ E.born nx := fun hb => Nat.lt_irrefl _ (hc.born nx hb)
  have m := hc.pre.mem
  have hev : Evo E (E.set nx (.arr false z e []) none) w w := by
    refine ⟨fun j hj => .inl hj, fun j hj => ?_, fun b hb ho => ?_, fun _ _ _ => rfl, fun b cs T fz h => ⟨cs, fz, h, rfl⟩, Nat.le_refl _, rfl, fun b y hy => by rw [hy]; exact OthK.same⟩
    · have hne : j ≠ nx := fun e => hn (e ▸ hj)
      rw [set_ob_ne _ _ _ hne, set_loc_ne _ _ _ hne]
      exact (Evo.rfl' (E := E) (w := w)).keep j hj
    · rcases ho with ho | ⟨j, f, h1, h2⟩
      · exact .inl ho
      by_cases hj : j = nx
      · subst hj; rw [set_loc] at h2; cases h2
      · rw [set_ob_ne _ _ _ hj] at h1
        rw [set_loc_ne _ _ _ hj] at h2
        exact .inr ⟨j, f, h1, h2⟩
  refine h (E.set nx (.arr false z e []) none) a w ⟨⟨m.step hev (fun o => o = nx) (fun o ho hne => ?_) (fun o ho => ?_) (fun o ho => ?_) (fun o o' b f f' h1 h2 h3 h4 => ?_) (fun o b f h1 h2 => ?_) rfl rfl rfl (fun _ _ _ => rfl), fun i => ?_, fun i => hev.sv (hc.pre.fr i)⟩, fun i hi => ?_, hc.len, hc.dfr.evo hev, hc.rd⟩
  · exact ⟨ho.resolve_right hne, set_ob_ne _ _ _ hne, set_loc_ne _ _ _ hne, fun _ _ _ _ => rfl⟩
  · subst ho
    rw [set_ob]
    refine ⟨by simp, ?_⟩
    rw [set_loc]
  · have hne : o ≠ nx := fun e => ho (.inr e)
    rw [set_ob_ne _ _ _ hne]
    exact m.unb o fun hb => ho (.inl hb)
  · by_cases e1 : o = nx
    · subst e1; rw [set_loc] at h3; cases h3
    · by_cases e2 : o' = nx
      · subst e2; rw [set_loc] at h4; cases h4
      · rw [set_ob_ne _ _ _ e1] at h1
        rw [set_ob_ne _ _ _ e2] at h2
        rw [set_loc_ne _ _ _ e1] at h3
        rw [set_loc_ne _ _ _ e2] at h4
        exact m.sep o o' b f f' h1 h2 h3 h4
  · by_cases e1 : o = nx
    · subst e1; rw [set_loc] at h2; cases h2
    · rw [set_ob_ne _ _ _ e1] at h1
      rw [set_loc_ne _ _ _ e1] at h2
      exact m.new o b f h1 h2
  · show _ = fo (uo hp nx _) i
    rw [fo_uo]
    by_cases e1 : i = nx
    · rw [if_pos e1, e1, set_ob]
    · rw [if_neg e1, set_ob_ne _ _ _ e1]; exact hc.pre.ob i
  · rcases hi with hi | hi
    · have := hc.born i hi
      show i < nx + 1
      exact Nat.lt_succ_of_lt this
    · show i < nx + 1
      omega

end

section
variable {P : Program} {Cs : List Con}

theorem RetI.mono {rs : List ResultVar} {R R' : SV → List (Nat × Ob) → Nat → Prop} (hR : ∀ v hp nx, R v hp nx → R' v hp nx) {st : St} (h : RetI P rs R st) : RetI P rs R' st := by
  unfold RetI at h ⊢
  split at h
  · exact ⟨h.1, hR _ _ _ h.2⟩
  · exact h.elim

theorem mem_ddN : ∀ {l : List Nat} {i : Nat}, i ∈ l → i ∈ ddN l
  | x :: l, i, h => by
    unfold ddN
    cases hm : memN x l
    · simp only [cond_false]
      rcases List.mem_cons.1 h with rfl | h
      · exact List.mem_cons_self
      · exact List.mem_cons_of_mem _ (mem_ddN h)
    · simp only [cond_true]
      rcases List.mem_cons.1 h with rfl | h
      · exact mem_ddN ((memN_iff _ _).1 hm)
      · exact mem_ddN h

theorem idsF_at : ∀ (l : List SV) (i : Nat), ∀ o ∈ idsA (gl l i), o ∈ idsF l
  | [], i, o, h => by cases i <;> exact h
  | x :: l, 0, o, h => List.mem_append_left _ h
  | x :: l, i + 1, o, h => List.mem_append_right _ (idsF_at l i o h)

theorem bodyI_some {g : Nat} {code : Code} {rs : List ResultVar} {nt : Nat} (h : bodyI P g = some (code, rs, nt)) : ∃ fn, P.funcs[g]? = some fn ∧ fn.name ≠ "runtime.NumGoroutine" ∧ fn.body = some code ∧ fn.results.toList = rs ∧ fn.ntmps = nt := by
  unfold bodyI at h
  split at h
  · rename_i fn hf
    split at h
    · cases h
    · rename_i hn
      unfold bodyF at h
      split at h
      · rename_i c hc
        cases h
        exact ⟨fn, hf, hn, hc, rfl, rfl⟩
      · cases h
  · cases h

theorem inlU_some {inl : List Nat} {st : St} {op : Op} {pre : Prop} {code : Code} {rs : List ResultVar} {fr' : List SV} (h : inlU P inl st op = some (pre, code, rs, fr')) :
    ∃ c f g caps fn, op = .call c ∧ c.callee = .value f ∧ fnS (pkV (ev st.fr f)) = .s (.fn g caps) ∧ boxes (fo st.hp) caps = true ∧ P.funcs[g]? = some fn ∧ fn.body = some code ∧ fn.name ≠ "runtime.NumGoroutine" ∧
      c.args.size + caps.length ≤ fn.ntmps ∧ fn.results.toList = rs ∧ pre = (pkP (ev st.fr f) ∧ pkPs st.fr c.args.toList) ∧ fr' = appSV (pkVs st.fr c.args.toList) (appSV (pbs caps) (unks (fn.ntmps - (c.args.size + caps.length)))) := by
  unfold inlU at h
  split at h
  · rename_i c
    split at h
    · rename_i f hf
      split at h
      · rename_i g caps hv
        cases hb : (memN g inl && boxes (fo st.hp) caps) <;> rw [hb] at h <;> simp only [cond_true, cond_false, reduceCtorEq] at h
        split at h
        · rename_i code' rs' nt hbi
          cases hs : Nat.ble (c.args.size + caps.length) nt <;> rw [hs] at h <;> simp only [cond_true, cond_false, reduceCtorEq, Option.some.injEq, Prod.mk.injEq] at h
          obtain ⟨rfl, rfl, rfl, rfl⟩ := h
          obtain ⟨fn, h1, h2, h3, h4, h5⟩ := bodyI_some hbi
          subst h5
          simp only [Bool.and_eq_true] at hb
          exact ⟨c, f, g, caps, fn, rfl, hf, hv, hb.2, h1, h3, h2, Nat.le_of_ble_eq_true hs, h4, rfl, rfl⟩
        · cases h
      · cases h
    · cases h
  · cases h

/-- THE SYMBOLIC RUN HOLDS OF THE MACHINE. -/
theorem run_ok (hCs : ∀ c ∈ Cs, c.Ok P) {stp inl : List Nat} {unr : Bool} :
    ∀ (n : Nat) (kp : List Nat) (Q : St → Prop) (k : List It) (st : St), run P Cs stp inl unr (OkQ P) n kp Q k st → OkQ P kp Q k st := by
  intro n
  induction n with
  | zero => intro kp Q k st h; exact h
  | succ n ih =>
    intro kp Q k st h G B hs hQ
    cases k with
    | nil => exact fun E a w hc => (hQ st E a w h hc).2
    | cons i k =>
      cases i with
      | blk id => exact fun E a w hc => ih kp Q k st h G B hs hQ E a w hc
      | scp _ => exact fun E a w hc => ih kp Q k st h G B hs hQ E a w hc
      | rnd X => exact Ok.rnd h
      | beg o =>
        simp only [run] at h
        split at h
        · rename_i ho
          exact Ok.beg ho (ih _ _ _ _ h G B hs hQ)
        · exact h.elim
      | lp c => exact Ok.lp (ih kp Q _ st h G B hs hQ)
      | fin J => exact fun E a w hc => ⟨st, E, hc, h⟩
      | ops all l =>
        cases l with
        | nil => exact Ok.ops_nil (ih kp Q k st h G B hs hQ)
        | cons o l =>
          simp only [run] at h
          split at h
          · split at h
            · split at h
              · split at h
                · exact h G B hs hQ
                · rename_i j want hg
                  split at h
                  · exact h G B hs hQ
                  · rename_i gb hv
                    cases gb
                    · intro E a w hc
                      refine wpListIn_step fun K hK => ?_
                      have hw := gval_ok hc hg hv
                      rw [if_neg (by rw [hw]; simp)]
                      exact ⟨fun _ _ => Fr_fn, hK _ _ (ih kp Q _ _ (h.2 rfl) G B hs hQ E _ w (hc.behind hc.pre.mem Evo.rfl' hc.pre.ob (fun i hi => .inl hi) (X := .unk) trivial (Nat.le_refl _)))⟩
                    · exact h.1 rfl G B hs hQ
              · rename_i pre lo fr' asg body hi
                have key : pre ∧ run P Cs stp inl unr (OkQ P) n (ddN (lo :: (idsF st.fr ++ kp))) noQ [.c asg, .beg lo, .c body, .rnd (rndX (run P Cs stp inl unr (OkQ P) n) kp Q (.ops all l :: k) st.fr o.dst lo)] ⟨fr', st.hp, st.nx⟩ →
                    ∀ {E : Env} {a : Act} {w : World}, Conc P G st E a w → ∀ {K : Act → World → Prop}, (∀ a w, wpListIn (Fr G.rd) 0 P all.toArray (kont P G B k) l a w → K a w) → o.wpIn (Fr G.rd) 0 P a w K (kont P G B k) := by
                  intro hh E a w hc K hK
                  refine yield_gen (R := fun v hp nx => Ok P G B (.ops all l :: k) ⟨setD st.fr o.dst v, hp, nx⟩) hi hh.1 (fun G' B' hs' hr' => ih _ _ _ _ hh.2 G' B' ⟨fun p hp i hi => ?_, fun p hp => ?_⟩ (fun _ _ _ _ hq _ => hq.elim)) (fun e st2 hx => ?_) hc fun v hp nx E a w hok hcc => hK _ _ (hok E a w hcc)
                  · rcases hs' p hp with ⟨j, hj⟩ | hp
                    · rw [hj] at hi
                      exact mem_ddN (List.mem_cons_of_mem _ (List.mem_append_left _ (idsF_at _ _ _ hi)))
                    · exact mem_ddN (List.mem_cons_of_mem _ (List.mem_append_right _ (hs.1 p hp i hi)))
                  · rcases hr' p hp with hp | hp
                    · rw [hp]; exact mem_ddN (List.mem_cons_self ..)
                    · exact mem_ddN (List.mem_cons_of_mem _ (List.mem_append_right _ (hs.2 p hp)))
                  · rw [rndX_at] at hx
                    unfold RN
                    split at hx
                    · rename_i ho2
                      rw [ho2]
                      cases e <;> first | exact ih _ _ _ _ hx G B hs hQ | exact hx.elim
                    · exact hx.elim
                split at h
                · rename_i hg
                  intro E a w hc
                  exact wpListIn_plain hg fun K hK => key h hc hK
                · rename_i j want hg
                  split at h
                  · exact h.elim
                  · rename_i gb hv
                    intro E a w hc
                    refine wpListIn_step fun K hK => ?_
                    have hw := gval_ok hc hg hv
                    cases gb
                    · rw [if_neg (by rw [hw]; simp)]
                      exact ⟨fun _ _ => Fr_fn, hK _ _ (ih kp Q _ _ (h.2 rfl) G B hs hQ E _ w (hc.behind hc.pre.mem Evo.rfl' hc.pre.ob (fun i hi => .inl hi) (X := .unk) trivial (Nat.le_refl _)))⟩
                    · rw [if_pos hw]
                      exact key (h.1 rfl) hc hK
            · rename_i pre code rs fr' hi
              obtain ⟨c, f, g, caps, fn, h1, h2, h3, h4, h5, h6, h7, h8, rfl, rfl, rfl⟩ := inlU_some hi
              have key : (pkP (ev st.fr f) ∧ pkPs st.fr c.args.toList) ∧ run P Cs stp inl unr (OkQ P) n (ddN (idsF st.fr ++ kp)) (inlJ P (run P Cs stp inl unr (OkQ P) n) fn.results.toList kp Q (.ops all l :: k) st.fr o.dst) [.c code] ⟨appSV (pkVs st.fr c.args.toList) (appSV (pbs caps) (unks (fn.ntmps - (c.args.size + caps.length)))), st.hp, st.nx⟩ →
                  ∀ {E : Env} {a : Act} {w : World}, Conc P G st E a w → ∀ {K : Act → World → Prop}, (∀ a w, wpListIn (Fr G.rd) 0 P all.toArray (kont P G B k) l a w → K a w) → o.wpIn (Fr G.rd) 0 P a w K (kont P G B k) := by
                intro hh E a w hc K hK
                refine inline_op h1 h2 h3 hh.1 h4 h5 h6 h7 h8 (fun G' B' hs' hr' hB' => ?_) hc hK
                refine ih _ _ _ _ hh.2 G' B' ⟨fun p hp i hi => ?_, fun p hp => ?_⟩ (fun st2 E2 a2 w2 hr hc2 => hB' st2 E2 a2 w2 (RetI.mono (R := fun v hp nx => run P Cs stp inl unr (OkQ P) n kp Q (.ops all l :: k) ⟨setD st.fr o.dst v, hp, nx⟩) (fun v hp nx hv => ih kp Q _ _ hv G B hs hQ) hr) hc2)
                · rcases hs' p hp with ⟨j, hj⟩ | hp
                  · rw [hj] at hi
                    exact mem_ddN (List.mem_append_left _ (idsF_at _ _ _ hi))
                  · exact mem_ddN (List.mem_append_right _ (hs.1 p hp i hi))
                · rw [hr'] at hp
                  exact mem_ddN (List.mem_append_right _ (hs.2 p hp))
              split at h
              · rename_i hg
                intro E a w hc
                exact wpListIn_plain hg fun K hK => key h hc hK
              · rename_i j want hg
                split at h
                · exact h.elim
                · rename_i gb hv
                  intro E a w hc
                  refine wpListIn_step fun K hK => ?_
                  have hw := gval_ok hc hg hv
                  cases gb
                  · rw [if_neg (by rw [hw]; simp)]
                    exact ⟨fun _ _ => Fr_fn, hK _ _ (ih kp Q _ _ (h.2 rfl) G B hs hQ E _ w (hc.behind hc.pre.mem Evo.rfl' hc.pre.ob (fun i hi => .inl hi) (X := .unk) trivial (Nat.le_refl _)))⟩
                  · rw [if_pos hw]
                    exact key (h.1 rfl) hc hK
          · rename_i u hu
            split at h
            · rename_i hg
              exact Ok.op hCs hu hg h.1 fun hgv => ih _ _ _ _ (h.2 hgv) G B hs hQ
            · rename_i j want hg
              split at h
              · exact h.elim
              · rename_i g hv
                split at h
                · rename_i hws _
                  exact Ok.opgd hCs hu hg hv hws h.1 fun hgv => ih _ _ _ _ (h.2 hgv) G B hs hQ
                · exact Ok.opg hCs hu hg hv (fun hgt => (h.1 hgt).1) (fun hgt hgv => ih _ _ _ _ ((h.1 hgt).2 hgv) G B hs hQ) (fun hgf => ih _ _ _ _ (h.2 hgf) G B hs hQ)
      | c c =>
        cases c with
        | seq x y => exact Ok.seq (ih _ _ _ _ h G B hs hQ)
        | skip => exact fun E a w hc => wpIn_skip (ih kp Q k st h G B hs hQ E a w hc)
        | label l => exact fun E a w hc => wpIn_label (ih kp Q k st h G B hs hQ E a w hc)
        | block id x => exact Ok.block (ih _ _ _ _ h G B hs hQ)
        | scope x => exact Ok.scope (ih _ _ _ _ h G B hs hQ)
        | loop x =>
          simp only [run] at h
          cases unr
          · exact h G B hs hQ
          · exact Ok.unroll (ih _ _ _ _ h G B hs hQ)
        | exit id =>
          simp only [run] at h
          split at h
          · rename_i k' hj
            exact fun E a w hc => wpIn_exit (kont_jump k k' a w hj (ih kp Q k' st h G B hs hQ E a w hc))
          · rename_i hj
            split at h
            · rename_i X hX
              exact fun E a w hc => wpIn_exit (kont_exit k X hj hX ⟨st, E, hc, h⟩)
            · exact h.elim
        | goto l =>
          simp only [run] at h
          split at h
          · rename_i k' hj
            exact fun E a w hc => wpIn_goto (kont_goto k k' a w hj (ih kp Q k' st h G B hs hQ E a w hc))
          · rename_i hj
            split at h
            · rename_i X hX
              exact fun E a w hc => wpIn_goto (kont_gone k X hj hX ⟨st, E, hc, h⟩)
            · exact h.elim
        | ret =>
          simp only [run] at h
          split at h
          · rename_i X hX
            exact fun E a w hc => wpIn_ret (kont_ret k (fun Y hY => by rw [hX] at hY; cases hY; exact ⟨st, E, hc, h⟩) fun hn => by rw [hX] at hn; cases hn)
          · rename_i hX
            exact fun E a w hc => wpIn_ret (kont_ret k (fun Y hY => by rw [hX] at hY; cases hY) fun _ => (hQ st E a w h hc).1)
        | rangeFunc g ps asg body =>
          simp only [run] at h
          split at h
          · exact h G B hs hQ
          · rename_i pre code fr' hp' hi
            refine Ok.range hi h.1 fun G' B' hs' hr' hB' => ih _ _ _ _ h.2 G' B' ⟨fun p hp i hi => ?_, fun p hp => ?_⟩ fun st2 E2 a2 w2 hr hc2 => hB' st2 E2 a2 w2 ?_ hc2
            · rcases hs' p hp with ⟨j, hj⟩ | hp
              · rw [hj] at hi
                exact mem_ddN (List.mem_cons_of_mem _ (List.mem_append_left _ (idsF_at _ _ _ hi)))
              · exact mem_ddN (List.mem_cons_of_mem _ (List.mem_append_right _ (hs.1 p hp i hi)))
            · rcases hr' p hp with hp | hp
              · rw [hp]; exact mem_ddN (List.mem_cons_self ..)
              · exact mem_ddN (List.mem_cons_of_mem _ (List.mem_append_right _ (hs.2 p hp)))
            · rw [rngJ_at] at hr
              unfold RJ
              split at hr
              · rename_i ho2
                rw [ho2]
                exact ⟨hr.1, ih _ _ _ _ hr.2 G B hs hQ⟩
              · rename_i ho2
                rw [ho2]
                exact ⟨hr.1, ih _ _ _ _ hr.2 G B hs hQ⟩
              · exact hr.elim
        | cond x p q =>
          simp only [run] at h
          split at h
          · rename_i t hx
            exact Ok.cond hx h.1 (fun ht => ih _ _ _ _ (h.2.1 ht) G B hs hQ) (fun ht => ih _ _ _ _ (h.2.2 ht) G B hs hQ)
          · rename_i t f hx
            exact Ok.condM hx h.1 (fun ht => ih _ _ _ _ (h.2.1 ht) G B hs hQ) (fun ht => ih _ _ _ _ (h.2.2 ht) G B hs hQ)
          · exact h.elim
        | region id ops draw =>
          cases draw
          · simp only [run] at h
            cases hm : memN id stp <;> rw [hm] at h <;> simp only [cond_true, cond_false] at h
            · exact Ok.region (ih _ _ _ _ h G B hs hQ)
            · exact h G B hs hQ
          · simp only [run] at h
            cases hm : memN id stp <;> rw [hm] at h <;> simp only [cond_true, cond_false] at h
            · exact Ok.drawn hCs h.1 (runD_mono (fun r s hh => ⟨hh.1, ih _ _ k s hh.2 G B hs hQ⟩) _ _ _ h.2)
            · exact h G B hs hQ
        | _ => exact h G B hs hQ

/-- A CONTRACT OUT OF A SYMBOLIC RUN. -/
theorem con_q {c : Con} {fn : Func} {code : Code} (hf : P.funcs[c.f]? = some fn) (hb : fn.body = some code) (hn : fn.name ≠ "runtime.NumGoroutine")
    (h : ∀ x, (tyL c.as).wf x → c.pre x → OkQ P [] (RetC P fn.results.toList c x) [.c code] ⟨appSV (argSV c.as x) (unks (fn.ntmps - c.as.length)), [], 0⟩) (hlen : c.as.length ≤ fn.ntmps) : c.Ok P :=
  con_ok hf hb hn (fun x hx hp G B hs hB => h x hx hp G B ⟨fun p hp => by rw [hs.1] at hp; (cases hp), fun p hp => by rw [hs.2] at hp; (cases hp)⟩ hB) hlen

variable {kp : List Nat} {Q : St → Prop}

/-- At a loop's back edge: the head's state again, lower. -/
def backJ (kp : List Nat) {α : Type} (Pr : α → Prop) (μ : α → Nat) (m : Nat) (I : α → St) : St → Prop := fun st => ∃ y, Pr y ∧ μ y < m ∧ SubQ kp st (I y)
theorem backJ_at {kp : List Nat} {α : Type} {Pr : α → Prop} {μ : α → Nat} {m : Nat} {I : α → St} {st : St} : backJ kp Pr μ m I st = ∃ y, Pr y ∧ μ y < m ∧ SubQ kp st (I y) := rfl
/-- At a cut. -/
def cutJ (kp : List Nat) {α : Type} (Pr : α → Prop) (I : α → St) : St → Prop := fun st => ∃ y, Pr y ∧ SubQ kp st (I y)
theorem cutJ_at {kp : List Nat} {α : Type} {Pr : α → Prop} {I : α → St} {st : St} : cutJ kp Pr I st = ∃ y, Pr y ∧ SubQ kp st (I y) := rfl

/-- A LOOP; what holds at its head, told by what has turned since: W are the slots that its body writes, U what is known of some of them, H of the objects. -/
theorem OkQ.loop {α : Type} (W : List Nat) (U : α → List (Nat × SV)) (H : α → List (Nat × Ob)) (Pr : α → Prop) (μ : α → Nat) (x0 : α) {c : Code} {k : List It} {fr : List SV} {hp : List (Nat × Ob)} {nx : Nat}
    (h0 : Pr x0) (h1 : SubQ kp ⟨fr, hp, nx⟩ ⟨upds (forget fr W) (U x0), uos hp (H x0), nx⟩)
    (hr : ∀ x, Pr x → OkQ P kp Q (.c c :: .fin (backJ kp Pr μ (μ x) fun y => ⟨upds (forget fr W) (U y), uos hp (H y), nx⟩) :: k) ⟨upds (forget fr W) (U x), uos hp (H x), nx⟩) : OkQ P kp Q (.c (.loop c) :: k) ⟨fr, hp, nx⟩ :=
  fun G B hs hB => Ok.loop hs (fun x => ⟨upds (forget fr W) (U x), uos hp (H x), nx⟩) Pr μ ⟨x0, h0, h1⟩ fun x hx => hr x hx G B hs hB

/-- Code and its brackets. -/
def It.pl : It → Bool
  | .c _ => true
  | .blk _ => true
  | .scp _ => true
  | _ => false

theorem kont_cut {G : Ctx} {B : Exit → Act → World → Prop} {k k' : List It} (h : ∀ e a w, kont P G B k e a w → kont P G B k' e a w) : ∀ (l : List It), l.all It.pl = true → ∀ e a w, kont P G B (l ++ k) e a w → kont P G B (l ++ k') e a w
  | [], _, e, a, w, q => h e a w q
  | .c c :: l, hl, e, a, w, q => by
    have ih := kont_cut h l (by simpa [It.pl] using hl)
    cases e <;> first | exact ih _ a w q | exact Code.wpIn_mono (fun e a w q => ih e a w q) q
  | .blk id :: l, hl, e, a, w, q => by
    have ih := kont_cut h l (by simpa [It.pl] using hl)
    cases e with
    | exit id' =>
      show if id' = id then _ else _
      have q : if id' = id then kont P G B (l ++ k) .normal a w else kont P G B (l ++ k) (.exit id') a w := q
      split
      · rename_i e; rw [if_pos e] at q; exact ih _ a w q
      · rename_i e; rw [if_neg e] at q; exact ih _ a w q
    | _ => exact ih _ a w q
  | .scp c :: l, hl, e, a, w, q => by
    have ih := kont_cut h l (by simpa [It.pl] using hl)
    have q : scpQ P G c (kont P G B (l ++ k)) e a w := q
    show scpQ P G c (kont P G B (l ++ k')) e a w
    cases e with
    | goto t =>
      cases hr : findLabel c t with
      | some rest =>
        simp only [scpQ, hr] at q ⊢
        intro b k2 cs hro
        obtain ⟨e, a', w', h1, h2⟩ := q b k2 cs hro
        exact ⟨e, a', w', ih _ _ _ h1, h2⟩
      | none =>
        simp only [scpQ, hr] at q ⊢
        exact ih _ a w q
    | _ => exact ih _ a w q
  | .ops _ _ :: _, hl, _, _, _, _ => by simp [It.pl] at hl
  | .fin _ :: _, hl, _, _, _, _ => by simp [It.pl] at hl
  | .lp _ :: _, hl, _, _, _, _ => by simp [It.pl] at hl
  | .beg _ :: _, hl, _, _, _, _ => by simp [It.pl] at hl
  | .rnd _ :: _, hl, _, _, _, _ => by simp [It.pl] at hl

/-- A CUT behind the first n pieces of the code: what holds there, told by what has turned since. -/
theorem OkQ.cut (n : Nat) {α : Type} (W : List Nat) (U : α → List (Nat × SV)) (H : α → List (Nat × Ob)) (m : Nat) (Pr : α → Prop) {k : List It} {fr : List SV} {hp : List (Nat × Ob)} {nx : Nat} (hn : (k.take n).all It.pl = true)
    (h1 : OkQ P kp Q (k.take n ++ .fin (cutJ kp Pr fun y => ⟨upds (forget fr W) (U y), uos hp (H y), m⟩) :: k.drop n) ⟨fr, hp, nx⟩)
    (h2 : ∀ y, Pr y → OkQ P kp Q (k.drop n) ⟨upds (forget fr W) (U y), uos hp (H y), m⟩) : OkQ P kp Q k ⟨fr, hp, nx⟩ := by
  intro G B hs hB
  have h := h1 G B hs hB
  have e : k = k.take n ++ k.drop n := (List.take_append_drop n k).symm
  rw [e]
  intro E a w hc
  refine kont_cut (k := .fin (cutJ kp Pr fun y => ⟨upds (forget fr W) (U y), uos hp (H y), m⟩) :: k.drop n) (fun e a w q => ?_) _ hn _ a w (h E a w hc)
  cases e <;> try exact q
  obtain ⟨st', E', hc', y, hy, hsub⟩ := q
  obtain ⟨E2, hc2⟩ := sub_ok hs hsub hc'
  exact h2 y hy G B hs hB E2 a w hc2

/-- What is known may be told otherwise. -/
theorem OkQ.sub {k : List It} {st st' : St} (h : SubQ kp st st') (hk : OkQ P kp Q k st') : OkQ P kp Q k st := fun G B hs hB => Ok.sub hs h (hk G B hs hB)


theorem OkQ.virt (z : Nat) (e : Ty) {k : List It} {fr : List SV} {hp : List (Nat × Ob)} {nx : Nat} (h : OkQ P kp Q k ⟨fr, uo hp nx (.arr false z e []), nx + 1⟩) : OkQ P kp Q k ⟨fr, hp, nx⟩ :=
  fun G B hs hB => Ok.virt z e (h G B hs hB)

end
/-- A number that fits stays. -/
theorem wr_lit {k : IntKind} {n : Int} (h : inB k n = true) : wr k n = n := by
  unfold wr
  cases k <;> simp only [inB, Bool.and_eq_true, decide_eq_true_eq] at h <;> simp [IntKind.wrap, IntKind.bits, IntKind.signed] <;> omega

/-- No larger than what the form's reading takes. -/
def Ty.small : (t : Ty) → t.den → Prop
  | .str, s => s.length ≤ 140737488351232
  | .pair a b, x => a.small x.1 ∧ b.small x.2
  | .slice z e, xs => xs.length * z ≤ 140737488351232 ∧ ∀ x ∈ xs, e.small x
  | .int _, _ => True
  | .bool, _ => True
  | .unit, _ => True
  | .opq, _ => True

attribute [congr] brB_congr
attribute [go_sem 2000] brB_true brB_false
attribute [go_sem 500] brB_split
attribute [go_sem] sPick0 sShI ptrB isByteTy run runD stepU upV ev gl setD sl uos uo fo of1 ofVal ofSl inB keq cond_true cond_false sBin sBinI sBinS sNil nilB Nat.beq List.isEmpty_iff List.isEmpty_nil List.drop_zero List.take_zero List.take_nil List.drop_nil Nat.sub_zero List.take_length Nat.sub_self List.take_succ_cons List.drop_succ_cons List.not_mem_nil sUn sPick oPick pickB pkV pkP jump memN gval gvB implies_true imp_self if_true if_false Int.toNat_natCast Int.ofNat_toNat Nat.le_refl ne_eq not_false_eq_true and_self or_true true_or
  List.getElem?_cons_zero List.getElem?_cons_succ List.length_cons List.length_nil Nat.zero_add List.getElem?_toArray beq_self_eq_true Bool.true_beq Bool.false_beq Bool.not_false Bool.not_true true_and and_true forall_const decide_true decide_false Bool.and_true Bool.and_self Bool.true_and Bool.and_false Bool.false_and
  decide_eq_true_eq decide_eq_false_iff_not g1 SV.cells sLoad sStore sIndex sSlice sParts sFill sLen sOwn sList sAppend sMin sConv capsOf boxes sCall cellOr take1 drop1 lay stl ids ids1 idsV obFree idsO rdO keys' freeze
  Bool.or_false Bool.false_or Bool.or_self Bool.true_or Bool.or_true optI Nat.ble idsParts isSA kill tyL findC shape sArgs resL resV resO Ty.hasSl Ty.nest nestL sTup nslL pkPs pkVs allIds rdS cellsS injS injO Ty.nsl Ty.n Ty.zero Ty.cast_self Ty.wf argSV unks appSV Option.map_some Option.map_none Option.getD_some
  RetC RetS rdL roL RetQ retV compOf mtL mt nodupN List.append_nil List.nil_append List.cons_append Op.operands Call.operands forget upds SubQ mchF mchV mch mchL mchO mchH prs clo1 capM ren hasK chkP livR belK keys keepP keepO ddN idsF idsA idsT backJ_at cutJ_at pbs bodyF inlU fnS fnV inlJ_at yldU rngU rngJ_at rndX_at rndK gotoK findLabel setPs noX noQ List.size_toArray Option.toList_none Option.toList_some List.take_left List.length_append Bool.cond_self List.map_cons List.map_nil Nat.blt
  Bool.cond_true_left Bool.cond_false_right Bool.cond_true_right Bool.cond_false_left Bool.or_eq_true Bool.and_eq_true Bool.not_eq_true' Bool.not_eq_false' Bool.or_eq_false_iff Bool.and_eq_false_iff Bool.not_not

theorem wr_i8 {n : Int} (h : -128 ≤ n) (h' : n ≤ 127) : wr .i8 n = n := by unfold wr; simp [IntKind.wrap, IntKind.bits, IntKind.signed]; omega
theorem wr_i64 {n : Int} (h : -9223372036854775808 ≤ n) (h' : n ≤ 9223372036854775807) : wr .i64 n = n := by unfold wr; simp [IntKind.wrap, IntKind.bits, IntKind.signed]; omega
theorem wr_u8 {n : Int} (h : 0 ≤ n) (h' : n ≤ 255) : wr .u8 n = n := by unfold wr; simp [IntKind.wrap, IntKind.bits, IntKind.signed]; omega

theorem nil_ok {P : Program} : ∀ c ∈ ([] : List Con), c.Ok P := fun c h => by cases h
theorem cons_ok {P : Program} {c : Con} {l : List Con} (h : c.Ok P) (h' : ∀ c ∈ l, c.Ok P) : ∀ c' ∈ c :: l, c'.Ok P := fun c' hc => by
  rcases List.mem_cons.1 hc with rfl | hc
  · exact h
  · exact h' c' hc

theorem bt {b : Bool} : (true = b) = (b = true) := by cases b <;> simp
theorem bf {b : Bool} : (false = b) = (b = false) := by cases b <;> simp
theorem tmod2 {l : Int} (h : 0 ≤ l) (k : Int) : l.tmod k = l % k := Int.tmod_eq_emod_of_nonneg h

end Go.Proofs.YtdepbfgnmliggaaGreatDoor.Sx
