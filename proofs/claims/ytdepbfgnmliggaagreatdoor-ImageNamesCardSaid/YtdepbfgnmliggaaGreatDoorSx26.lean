/- A callee's body run within the caller's state. -/
import Derived.Test.YtdepbfgnmliggaaGreatDoorSx25
namespace Go.Proofs.YtdepbfgnmliggaaGreatDoor.Sx
set_option linter.unusedSimpArgs false
set_option linter.unusedVariables false

section
variable {P : Program} {Cs : List Con} {G : Ctx} {B : Exit → Act → World → Prop}

theorem results_run {fn : Func} {a : Act} {vs : List Value} {w : World} (hv1 : (fn.results.toList.mapM (rv a.tmps)).run P w = .ok vs w) :
    (results fn a.tmps).run P w = .ok (if hs : vs.toArray.size = 1 then vs.toArray[0] else .tuple vs.toArray) w := by
  have h0 : results fn a.tmps = (do let us ← fn.results.mapM (rv a.tmps); pure (if h : us.size = 1 then us[0] else .tuple us)) := by
    unfold results
    congr 1
  have h1' : (fn.results.mapM (rv a.tmps)).run P w = .ok vs.toArray w := by
    rw [Array.mapM_eq_mapM_toList]
    simp [hv1]
  rw [h0]
  simp only [Sem.run_bind, h1', Result.andThen_ok, Sem.run_pure]

theorem pbs_at : ∀ (l : List (Nat × Nat)) (i : Nat), gl (pbs l) i = match l[i]? with | some (o, f) => .s (.pb o f) | none => .unk
  | [], _ => rfl
  | (o, f) :: l, 0 => rfl
  | (o, f) :: l, i + 1 => by simpa [pbs, gl] using pbs_at l i

theorem pbs_len : ∀ (l : List (Nat × Nat)), (pbs l).length = l.length
  | [] => rfl
  | (o, f) :: l => by simp [pbs, pbs_len l]

theorem gl_get : ∀ (l : List SV) (i : Nat) (x : SV), l[i]? = some x → gl l i = x
  | [], i, x, h => by simp at h
  | y :: l, 0, x, h => by simpa [gl] using h
  | y :: l, i + 1, x, h => gl_get l i x (by simpa using h)

theorem fnV_ok {E : Env} {w : World} {u v : Value} (h : Rd E.owned w .opq [v] u) : S1ok E w (fnV u) v := by
  unfold fnV
  split
  · rename_i g xs ys
    cases hb : (Nat.beq xs.size 0 && Nat.beq ys.size 0) with
    | false => exact h
    | true =>
      simp only [Bool.and_eq_true] at hb
      obtain rfl : xs = #[] := Array.eq_empty_of_size_eq_zero (Nat.eq_of_beq_eq_true hb.1)
      obtain rfl : ys = #[] := Array.eq_empty_of_size_eq_zero (Nat.eq_of_beq_eq_true hb.2)
      obtain ⟨e, _⟩ := h
      cases e
      exact ⟨[], rfl, rfl, fun i o off hi => by simp at hi⟩
  · exact h
theorem fnS_ok {E : Env} {w : World} {x : SV} {v : Value} (h : SVok E w x v) : SVok E w (fnS x) v := by
  unfold fnS
  split
  · exact fnV_ok h
  · exact h

/-- A call that is run by its body, as one operation. -/
theorem inline_gen {R : SV → List (Nat × Ob) → Nat → Prop} {o : Oper} {st : St} {c : Call} {f : Operand} {g : FuncId} {caps : List (Nat × Nat)} {fn : Func} {code : Code} (hop : o.op = .call c) (hcal : c.callee = .value f)
    (hfv : fnS (pkV (ev st.fr f)) = .s (.fn g caps)) (hpk : pkP (ev st.fr f) ∧ pkPs st.fr c.args.toList) (hbx : boxes (fo st.hp) caps = true)
    (hf : P.funcs[g]? = some fn) (hb : fn.body = some code) (hn : fn.name ≠ "runtime.NumGoroutine") (hsz : c.args.size + caps.length ≤ fn.ntmps)
    (h : ∀ (G' : Ctx) (B' : Exit → Act → World → Prop), (∀ p ∈ G'.sus, (∃ i, p.1 = gl st.fr i) ∨ p ∈ G.sus) → G'.rds = G.rds → (∀ st2 E2 a2 w2, RetI P fn.results.toList R st2 → Conc P G' st2 E2 a2 w2 → B' .ret a2 w2 ∧ B' .normal a2 w2) →
      Ok P G' B' [.c code] ⟨appSV (pkVs st.fr c.args.toList) (appSV (pbs caps) (unks (fn.ntmps - (c.args.size + caps.length)))), st.hp, st.nx⟩)
    {E : Env} {a : Act} {w : World} (hc : Conc P G st E a w) {K : Act → World → Prop} {Q : Exit → Act → World → Prop} (hK : ∀ v hp nx E a w, R v hp nx → Conc P G ⟨setD st.fr o.dst v, hp, nx⟩ E a w → K a w) : o.wpIn (Fr G.rd) 0 P a w K Q := by
  have hfe := fnS_ok (hc.pre.pk hpk.1)
  rw [hfv] at hfe
  obtain ⟨cvs, e1, e2, e3⟩ := hfe
  obtain ⟨d, op, ty, pos, af, gd⟩ := o
  simp only at hop
  subst hop
  obtain ⟨callee, args, ats⟩ := c
  simp only at hcal hpk hsz h
  subst hcal
  have hrun : (execOp a.eval ⟨d, .call { callee := .value f, args := args, argTypes := ats }, ty, pos, af, gd⟩).run P w = .ok (.enter g (args.map a.eval ++ cvs.toArray)) w := by
    have hcf : ∀ as w, (callFunc g as).run P w = .ok (.enter g as) w := fun as w => by
      have : ¬ fn.name = "runtime.NumGoroutine" := hn
      simp [callFunc, hf, hb, this]
    simp [execOp, resolve, e1, Deferred.ofValue, invoke, hcf]
  refine op_in (fun c' e => by cases e) ?_
  unfold Oper.wp
  rw [hrun, Oper.upon_enter]
  refine (callsIn_fr (r := none) (n := 0)).1 (callsIn_of_wp_marks hf hb trivial ?_ rfl)
  obtain ⟨bs, hde, hnd, hbs⟩ := hc.dfr
  let G' : Ctx := { G with sus := ((List.range st.fr.length).map fun i => (gl st.fr i, a.tmps.getD i undef)) ++ G.sus, rd := none, mrk := bs ++ G.mrk }
  obtain ⟨hal, hav⟩ := pkVs_ok hc.pre args.toList hpk.2
  have hbx' := boxes_ok hc.pre.ob caps hbx
  refine h G' _ ?_ rfl (fun st2 E2 a2 w2 hr hc2 => ?_) E _ w ⟨⟨⟨hc.pre.mem.hp, hc.pre.mem.unb, hc.pre.mem.sep, hc.pre.mem.new, hc.pre.mem.bad, hc.pre.mem.bd, hc.pre.mem.os, hc.pre.mem.tape, hc.pre.mem.output, hc.pre.mem.size, hc.pre.mem.old, ?_, hc.pre.mem.rdk, ?_⟩, hc.pre.ob, fun i => ?_⟩, hc.born, ?_, ⟨[], rfl, hnd, fun b hb => (by cases hb)⟩, fun p hp => (by cases hp)⟩
  · intro p hp
    rcases List.mem_append.1 hp with hp | hp
    · obtain ⟨i, _, rfl⟩ := List.mem_map.1 hp
      exact .inl ⟨i, rfl⟩
    · exact .inr hp
  · unfold RetI at hr
    split at hr
    · rename_i p cs hrv
      obtain ⟨hp, hok⟩ := hr
      have key : ∀ a' w', a'.tmps = a2.tmps → Conc P G' st2 E2 a' w' → ∃ v, (results fn a2.tmps).run P w' = .ok v w' ∧ K (a.put d v) w' := fun a' w' ht hc2 => by
        rw [← ht]
        obtain ⟨vs, hv1, hv2⟩ := retV_ok hc2.pre _ p cs hrv hp
        have m := hc2.pre.mem
        refine ⟨_, results_run hv1, hK _ _ _ E2 _ w' hok ?_⟩
        have hfr : ∀ i, SVok E2 w' (gl st.fr i) (a.tmps.getD i undef) := by
          intro i
          rcases Nat.lt_or_ge i st.fr.length with hi | hi
          · exact m.sus _ (List.mem_append_left _ (List.mem_map.2 ⟨i, List.mem_range.2 hi, rfl⟩))
          · rw [gl_out _ _ hi]; trivial
        obtain ⟨k1, k2⟩ := fr_put (E := E2) (w := w') (fr := st.fr) (d := d) hc.len hfr (resV_ok hv2)
        exact ⟨⟨⟨m.hp, m.unb, m.sep, m.new, m.bad, m.bd, m.os, m.tape, m.output, m.size, m.old, fun p hp => m.sus p (List.mem_append_right _ hp), m.rdk, fun b hb => m.mks b (List.mem_append_right _ hb)⟩, hc2.pre.ob, k2⟩, hc2.born, k1,
          put_dfr (G := G) ⟨bs, hde, hnd, fun b hb => ⟨(hbs b hb).1, m.mks b (List.mem_append_left _ hb)⟩⟩, hc.rd⟩
      exact ⟨hc2.leave key, hc2.leave key⟩
    · exact hr.elim
  · intro p hp
    rcases List.mem_append.1 hp with hp | hp
    · obtain ⟨i, _, rfl⟩ := List.mem_map.1 hp
      exact hc.pre.fr i
    · exact hc.pre.mem.sus p hp
  · intro b hb
    rcases List.mem_append.1 hb with hb | hb
    · exact (hbs b hb).2
    · exact hc.pre.mem.mks b hb
  · rw [gl_app]
    by_cases hi : i < (pkVs st.fr args.toList).length
    · rw [if_pos hi]
      have hi' : i < args.size := by rw [← hal] at hi; simpa using hi
      refine hav i _ _ ?_ ?_
      · exact (by rw [List.getElem?_eq_getElem hi, gl_get _ i _ (List.getElem?_eq_getElem hi)])
      · simp [hi', Array.getElem?_append]
    · rw [if_neg hi, gl_app, pbs_len]
      have hps : (pkVs st.fr args.toList).length = args.size := by rw [← hal]; simp
      rw [hps] at hi ⊢
      by_cases hi2 : i - args.size < caps.length
      · rw [if_pos hi2, pbs_at, List.getElem?_eq_getElem hi2]
        have hcv : i - args.size < cvs.length := by omega
        obtain ⟨hbn, hm⟩ := e3 (i - args.size) _ _ (List.getElem?_eq_getElem hi2)
        obtain ⟨cs, hcs⟩ := hbx' _ _ (List.getElem_mem hi2)
        rw [hcs] at hm
        obtain ⟨b, hl1, hl2⟩ := hm
        refine ⟨hbn, ?_⟩
        rw [hcs]
        refine ⟨b, hl1, ?_⟩
        have hge : args.size ≤ i := by omega
        rw [List.getElem?_eq_getElem hcv] at hl2
        have hl3 := Option.some.inj hl2
        simp [Array.getElem?_append, hi, hcv, hl3]
      · rw [if_neg hi2, gl_unks]; trivial
  · simp [app_len, unks_len, pbs_len, ← hal, e2]


/-- A CALL THAT IS RUN BY ITS BODY, as one operation. -/
theorem inline_op {all l : List Oper} {o : Oper} {k : List It} {st : St} {c : Call} {f : Operand} {g : FuncId} {caps : List (Nat × Nat)} {fn : Func} {code : Code} (hop : o.op = .call c) (hcal : c.callee = .value f)
    (hfv : fnS (pkV (ev st.fr f)) = .s (.fn g caps)) (hpk : pkP (ev st.fr f) ∧ pkPs st.fr c.args.toList) (hbx : boxes (fo st.hp) caps = true)
    (hf : P.funcs[g]? = some fn) (hb : fn.body = some code) (hn : fn.name ≠ "runtime.NumGoroutine") (hsz : c.args.size + caps.length ≤ fn.ntmps)
    (h : ∀ (G' : Ctx) (B' : Exit → Act → World → Prop), (∀ p ∈ G'.sus, (∃ i, p.1 = gl st.fr i) ∨ p ∈ G.sus) → G'.rds = G.rds → (∀ st2 E2 a2 w2, RetI P fn.results.toList (fun v hp nx => Ok P G B (.ops all l :: k) ⟨setD st.fr o.dst v, hp, nx⟩) st2 → Conc P G' st2 E2 a2 w2 → B' .ret a2 w2 ∧ B' .normal a2 w2) →
      Ok P G' B' [.c code] ⟨appSV (pkVs st.fr c.args.toList) (appSV (pbs caps) (unks (fn.ntmps - (c.args.size + caps.length)))), st.hp, st.nx⟩)
    {E : Env} {a : Act} {w : World} (hc : Conc P G st E a w) {K : Act → World → Prop} (hK : ∀ a w, wpListIn (Fr G.rd) 0 P all.toArray (kont P G B k) l a w → K a w) : o.wpIn (Fr G.rd) 0 P a w K (kont P G B k) :=
  inline_gen (R := fun v hp nx => Ok P G B (.ops all l :: k) ⟨setD st.fr o.dst v, hp, nx⟩) hop hcal hfv hpk hbx hf hb hn hsz h hc fun v hp nx E a w hok hcc => hK _ _ (hok E a w hcc)

end
end Go.Proofs.YtdepbfgnmliggaaGreatDoor.Sx
