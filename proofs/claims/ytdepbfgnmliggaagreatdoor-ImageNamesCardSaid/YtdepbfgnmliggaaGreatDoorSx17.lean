/- Every symbolic step holds of the machine. -/
import Derived.Test.YtdepbfgnmliggaaGreatDoorSx16
namespace Go.Proofs.YtdepbfgnmliggaaGreatDoor.Sx
set_option linter.unusedSimpArgs false
set_option linter.unusedVariables false

section
variable {P : Program} {Cs : List Con} {G : Ctx} {E : Env} {w : World} {hp : List (Nat × Ob)} {nx : Nat} {fr : List SV} {a : Act}
variable {d : Option Tmp} {ty : TypeId} {pos : String} {af : Array Edge} {gd : Option (Nat × Bool)}

theorem Land.frozen' (l : List Nat) {o : Oper} {u : Up} {ws : List (Nat × Ob)} (hu : u.ws = freeze (fo hp) l ++ ws)
    (hL : Land P G (E.frozen l) w (uos hp (freeze (fo hp) l)) nx o a ⟨u.owe, u.val, ws, u.hi, u.gives⟩) : Land P G E w hp nx o a u := by
  have := Land.frozen l hL
  obtain ⟨ow, X, us, m, gv⟩ := u
  simp only at hu
  subst hu
  exact this

theorem enters_run {f : FuncId} (he : ∀ args w, (callFunc f args).run P w = .ok (.enter f args) w) {fo' : Operand} {args : List Operand} {ats : Array TypeId} {vs : Array Value} (hf : a.eval fo' = .func (.func f) #[] vs) (hvs : vs = #[]) :
    (execOp a.eval ⟨d, .call { callee := .value fo', args := args.toArray, argTypes := ats }, ty, pos, af, gd⟩).run P w = .ok (.enter f (args.map a.eval).toArray) w := by
  subst hvs
  simp [execOp, resolve, hf, Deferred.ofValue, invoke, he]

theorem land_call (h : Pre P G E w hp fr a) {con : Con} (hok : con.Ok P) (hsh : con.sh = false) (hnx : ∀ o, nx ≤ o → o < nx + nslL con.rs → ¬ E.born o) {fo' : Operand} {args : List Operand} {ats : Array TypeId} {x : (tyL con.as).den} {ow : Prop}
    (hf : SVok E w (.s (.fn con.f [])) (a.eval fo')) (hk : pkPs fr args) (hx : sArgs (fo hp) con.as (pkVs fr args) = some x) (hpre : con.pre x) :
    Land P G E w hp nx ⟨d, .call { callee := .value fo', args := args.toArray, argTypes := ats }, ty, pos, af, gd⟩ a
      ⟨ow, resV (resL con.rs (con.F x) nx), (bif nestL con.rs then freeze (fo hp) (allIds (pkVs fr args)) else []) ++ resO con.rs (con.F x) nx, nx + nslL con.rs, (tyL con.rs).wf (con.F x)⟩ := by
  obtain ⟨vs, e1, e2, _⟩ := hf
  have hvs : vs = [] := List.eq_nil_of_length_eq_zero e2
  subst hvs
  have hrun := enters_run (d := d) (ty := ty) (pos := pos) (af := af) (gd := gd) (w := w) (args := args) (ats := ats) hok.enters e1 rfl
  cases hn : nestL con.rs
  · simp only [cond_false, List.nil_append]
    obtain ⟨hl, hv⟩ := pkVs_ok h args hk
    have har := sArgs_ok h (S := fun _ => False) (fun _ hb => hb.elim) con.as _ _ x hx (fun _ _ _ _ _ _ hf => hf) hl hv
    have hcl := hok.calls _ w _ x (fun _ hb => hb.elim) har (har.wf) hpre nx
    unfold Con.Post at hcl
    rw [hsh] at hcl
    exact land_call0 h hnx (S := fun _ => False) (.inl hn) hrun hcl
  · simp only [cond_true]
    refine Land.frozen' (allIds (pkVs fr args)) rfl ?_
    have hF := h.frozen (allIds (pkVs fr args))
    obtain ⟨hl, hv⟩ := pkVs_ok h args hk
    have hsub : ∀ b, (E.frozen (allIds (pkVs fr args))).owned b → E.owned b := by
      intro b hb
      by_cases hb' : b < w.heap.size
      · exact ((E.frozen_soft _).evo w).own b hb' hb
      · rcases hb with hb | ⟨o, f, h1, h2⟩
        · exact .inl hb
        · have hm := (E.frozen_soft (allIds (pkVs fr args))).mem h.mem
          exact absurd (hm.lt (mut_ne h1) h2) hb'
    have har := sArgs_ok h (S := (E.frozen (allIds (pkVs fr args))).owned) hsub con.as _ _ x hx (fun o ho ha b f hlo => Env.frozen_not h.mem ho ha hlo) hl hv
    have hcl := hok.calls _ w _ x (fun b hb => ?_) har har.wf hpre nx
    · unfold Con.Post at hcl
      rw [hsh] at hcl
      exact land_call0 hF hnx (S := (E.frozen (allIds (pkVs fr args))).owned) (.inr rfl) hrun hcl
    rcases hb with hb | ⟨o, f, h1, h2⟩
    · exact Nat.lt_of_lt_of_le (h.mem.bad b hb).1 h.mem.size
    · exact hF.mem.lt (mut_ne h1) h2

theorem land_shr (h : Pre P G E w hp fr a) {con : Con} (hok : con.Ok P) (hsh : con.sh = true) {fo' : Operand} {args : List Operand} {ats : Array TypeId} {x : (tyL con.as).den} {ow : Prop}
    (hf : SVok E w (.s (.fn con.f [])) (a.eval fo')) (hk : pkPs fr args) (hx : sArgs (fo hp) con.as (pkVs fr args) = some x) (hpre : con.pre x) :
    Land P G E w hp nx ⟨d, .call { callee := .value fo', args := args.toArray, argTypes := ats }, ty, pos, af, gd⟩ a
      ⟨ow, resV (roL con.rs (con.F x)), freeze (fo hp) (allIds (pkVs fr args)), nx, (tyL con.rs).wf (con.F x)⟩ := by
  obtain ⟨vs, e1, e2, _⟩ := hf
  have hvs : vs = [] := List.eq_nil_of_length_eq_zero e2
  subst hvs
  have hrun := enters_run (d := d) (ty := ty) (pos := pos) (af := af) (gd := gd) (w := w) (args := args) (ats := ats) hok.enters e1 rfl
  refine Land.frozen' (ws := []) (allIds (pkVs fr args)) (by simp) ?_
  have hF := h.frozen (allIds (pkVs fr args))
  obtain ⟨hl, hv⟩ := pkVs_ok h args hk
  have hsub : ∀ b, (E.frozen (allIds (pkVs fr args))).owned b → E.owned b := by
    intro b hb
    by_cases hb' : b < w.heap.size
    · exact ((E.frozen_soft _).evo w).own b hb' hb
    · rcases hb with hb | ⟨o, f, h1, h2⟩
      · exact .inl hb
      · have hm := (E.frozen_soft (allIds (pkVs fr args))).mem h.mem
        exact absurd (hm.lt (mut_ne h1) h2) hb'
  have har := sArgs_ok h (S := (E.frozen (allIds (pkVs fr args))).owned) hsub con.as _ _ x hx (fun o ho ha b f hlo => Env.frozen_not h.mem ho ha hlo) hl hv
  have hlt : ∀ b, (E.frozen (allIds (pkVs fr args))).owned b → b < w.heap.size := by
    intro b hb
    rcases hb with hb | ⟨o, f, h1, h2⟩
    · exact Nat.lt_of_lt_of_le (h.mem.bad b hb).1 h.mem.size
    · exact hF.mem.lt (mut_ne h1) h2
  have hcl := hok.calls _ w _ x hlt har har.wf hpre nx
  unfold Con.Post at hcl
  rw [hsh] at hcl
  generalize E.frozen (allIds (pkVs fr args)) = F at hF hcl ⊢
  intro K B hK
  unfold Oper.wp
  rw [hrun, Oper.upon_enter]
  refine hcl.mono fun e w' hpost => ?_
  obtain ⟨v, rfl, hbel, hwf, hsv⟩ := hpost
  show K (a.put d v) w'
  have hev : Evo F F w w' := by
    refine ⟨fun q hq => hq, fun q hq => ?_, fun b hb ho => ho, fun b hb _ => hbel.block b hb, fun b cs T fz hc => ⟨cs, fz, (hbel.block b (lt_of_row hc)).trans hc, rfl⟩, hbel.size, rfl, fun b y hy => by rw [hbel.block b (lt_of_obj hy), hy]; exact OthK.same⟩
    cases hx : F.ob q with
    | dead => exact .inl rfl
    | box cs => exact .inr ⟨rfl, rfl⟩
    | arr fz z e xs => exact .inr ⟨⟨rfl, rfl, rfl⟩, rfl⟩
    | lp s fr ps a b pd => exact .inr ⟨trivial, rfl⟩
  refine hK v w' F ?_ hev (fun q => hF.ob q) (fun q hq => .inl hq) (hsv F fun _ h => h) hwf
  exact hF.mem.step hev (fun _ => False) (fun q hb _ => ⟨hb, rfl, rfl, fun b f hd hl => hbel.block b (hF.mem.lt hd hl)⟩) (fun _ hq => hq.elim) (fun q hq => hF.mem.unb q hq)
    (fun p p' b f1 f2 h1 h2 h3 h4 => hF.mem.sep p p' b f1 f2 h1 h2 h3 h4) (fun q b f h1 h2 => hF.mem.new q b f h1 h2) hbel.os hbel.tape hbel.output (fun b hb _ => hbel.block b (Nat.lt_of_lt_of_le hb hF.mem.size))

theorem land_field (h : Pre P G E w hp fr a) {t : TypeId} {x : Operand} {f : Nat} {l : List S1} {b : Bool} {off n : Nat} {ow : Prop} (hx : SVok E w (.agg l) (a.eval x)) (hI : fieldI P t f = some (b, off, n)) (hle : off + n ≤ l.length) :
    Land P G E w hp nx ⟨d, .field t x f, ty, pos, af, gd⟩ a ⟨ow, cellOr b l off n, [], nx, True⟩ := by
  obtain ⟨us, e1, hk⟩ := hx
  unfold fieldI at hI
  split at hI
  · rename_i fs hu
    split at hI
    · rename_i fd hfd
      split at hI
      · rename_i b' n' hag
        simp only [Option.some.injEq, Prod.mk.injEq] at hI
        obtain ⟨rfl, rfl, rfl⟩ := hI
        obtain ⟨h1, h2, h3⟩ := aggI_run hag w
        have hul : us.length = l.length := hk.1
        cases b'
        · have := h3 rfl
          subst this
          have hlt : fd.offset < us.length := by omega
          refine land_val h (v := us[fd.offset]) ?_ (cellOr_ok hk hle h3 (.inr ⟨rfl, ?_⟩)) rfl trivial
          · simp [execOp, e1, Instr.field, run_underlying hu, hfd, part, h1, asAgg, List.getElem?_eq_getElem hlt]
          · apply List.ext_getElem?
            intro j
            cases j with
            | zero => rw [List.getElem?_take_of_lt (by omega), List.getElem?_drop, Nat.add_zero, List.getElem?_eq_getElem hlt]; rfl
            | succ j => rw [List.getElem?_eq_none (by simp; omega)]; simp
        · refine land_val h (v := .agg ((us.drop fd.offset).take n').toArray) ?_ (cellOr_ok hk hle h3 (.inl ⟨rfl, rfl⟩)) rfl trivial
          simp [execOp, e1, Instr.field, run_underlying hu, hfd, part, h1, h2, asAgg, List.extract_eq_take_drop]
      · cases hI
    · cases hI
  · cases hI

theorem land_makeFunc (h : Pre P G E w hp fr a) {f : FuncId} {caps : Array Operand} {l : List (Nat × Nat)} {first : Array Operand} {ow : Prop} (hfirst : first.toList = []) (hs : capsOf fr caps.toList = some l)
    (hb : ∀ o off, (o, off) ∈ l → ∃ cs, E.ob o = .box cs) : Land P G E w hp nx ⟨d, .makeFunc (.func f) first caps, ty, pos, af, gd⟩ a ⟨ow, .s (.fn f l), [], nx, True⟩ := by
  obtain ⟨h1, h2⟩ := caps_ok h caps.toList l hs hb
  have hf0 : first = #[] := by simpa using hfirst
  subst hf0
  refine land_val h (v := .func (.func f) #[] (caps.toList.map a.eval).toArray) ?_ ⟨_, rfl, h1, h2⟩ rfl trivial
  have hm : (caps.toList.map a.eval).toArray = caps.map a.eval := by rw [← Array.toList_map]
  simp [execOp, Instr.makeFunc, hm]

theorem boxes_ok (hob : ∀ i, E.ob i = fo hp i) : ∀ (l : List (Nat × Nat)), boxes (fo hp) l = true → ∀ o off, (o, off) ∈ l → ∃ cs, E.ob o = .box cs
  | [], _, _, _, h => by cases h
  | (p, q) :: l, hb, o, off, h => by
    simp only [boxes] at hb
    split at hb
    · rename_i cs hcs
      rcases List.mem_cons.1 h with h | h
      · cases h; exact ⟨cs, (hob _).trans hcs⟩
      · exact boxes_ok hob l hb o off h
    · cases hb

theorem fill_s (h : Pre P G E w hp fr a) (pl : List (Nat × Nat)) : ∀ (ps : List (Nat × Operand)) (cs : List S1) (l : List S1) (cells : Array Value), sFill pl fr ps cs = some l → S1sok E w cs cells.toList →
    ∃ out, Instr.fill (pl.toArray[·]?) cells (ps.map fun p => (p.1, a.eval p.2)) = some out ∧ S1sok E w l out.toList
  | [], cs, l, cells, hs, hc => by simp only [sFill, Option.some.injEq] at hs; subst hs; exact ⟨cells, rfl, hc⟩
  | (f, x) :: ps, cs, l, cells, hs, hc => by
    simp only [sFill] at hs
    split at hs
    · rename_i off n hpl
      cases hb : ((ev fr x).cells.length == n && Nat.ble (off + n) cs.length && stl (ev fr x).cells && isSA (ev fr x)) <;> rw [hb] at hs <;> simp only [cond_true, cond_false] at hs
      · cases hs
      · simp only [Bool.and_eq_true, beq_iff_eq] at hb
        obtain ⟨⟨⟨hb1, hb2⟩, hb3⟩, hb4⟩ := hb
        have hb2 := Nat.le_of_ble_eq_true hb2
        have hcl : cells.toList.length = cs.length := hc.1
        have hcells : ∃ us, (a.eval x).cells = us.toArray ∧ S1sok E w (ev fr x).cells us := by
          have hx := h.ev x
          cases hX : ev fr x with
          | s y =>
            rw [hX] at hx hb3
            exact cells_ok (b := false) hx rfl (fun _ => hb3)
          | agg m => rw [hX] at hx; exact cells_ok (b := true) hx rfl (fun h => by cases h)
          | unk => rw [hX] at hb4; cases hb4
          | tup m => rw [hX] at hb4; cases hb4
          | gd g y => rw [hX] at hb4; cases hb4
        obtain ⟨us, hu, hk⟩ := hcells
        have hul : us.length = n := hk.1.trans hb1
        have hcs : (a.eval x).cells.size = n := by rw [hu]; simpa using hul
        let c1 := (a.eval x).cells.zipIdx.foldl (fun cs p => cs.setIfInBounds (off + p.2) p.1) cells
        have hsz : cells.size = cells.toList.length := by simp
        have hc1 : c1.toList = splice cells.toList off us := by
          have := fold_set off us 0 cells (by omega)
          rw [Nat.add_zero] at this
          rw [← this]
          show ((a.eval x).cells.zipIdx.foldl _ cells).toList = _
          rw [← Array.foldl_toList, Array.toList_zipIdx, hu]
        have hok1 : S1sok E w (lay cs off (ev fr x).cells) c1.toList := by rw [hc1]; exact lay_ok hc hk (by omega)
        obtain ⟨out, h1, h2⟩ := fill_s h pl ps _ l c1 hs hok1
        refine ⟨out, ?_, h2⟩
        simp only [List.map_cons, Instr.fill]
        have hpl' : (pl.toArray)[f]? = some (off, n) := by simpa using hpl
        rw [hpl']
        have hn : ¬ ((a.eval x).cells.size ≠ n ∨ off + (a.eval x).cells.size > cells.size) := by omega
        simp only
        rw [if_neg (by simpa using hn)]
        exact h1
    · cases hs

theorem land_build (h : Pre P G E w hp fr a) {t : TypeId} {ps : Array (Nat × Operand)} {pl : List (Nat × Nat)} {cs l : List S1} {ow : Prop} (hp' : placesI P t = some pl) (hz : zeroI P t = some cs) (hs : sFill pl fr ps.toList cs = some l) :
    Land P G E w hp nx ⟨d, .build t ps, ty, pos, af, gd⟩ a ⟨ow, .agg l, [], nx, True⟩ := by
  unfold zeroI at hz
  split at hz
  · rename_i i hi
    split at hz
    · rename_i v hv
      split at hz
      · cases hz
        unfold placesI at hp'
        split at hp'
        · rename_i fs hu
          have hc0 : S1sok E w (v.cells.toList.map of1) v.cells.toList := by
            refine ⟨by simp, fun j x u h1 h2 => ?_⟩
            rw [List.getElem?_map, h2] at h1
            cases h1
            exact of1_ok _ _ u
          obtain ⟨out, h1, h2⟩ := fill_s h pl ps.toList _ l v.cells hs hc0
          refine land_val h (v := .agg out) ?_ ⟨out.toList, by simp, h2⟩ rfl trivial
          have hb : P.built t (ps.map fun p => (p.1, a.eval p.2)).toList = some out := by
            unfold Program.built
            simp only [hi, hu, hv, hp']
            rw [Array.toList_map]
            exact h1
          have := run_build (P := P) w t (ps.map fun p => (p.1, a.eval p.2)) out hb
          simp [execOp, this]
        · cases hp'
      · cases hz
    · cases hz
  · cases hz

end
end Go.Proofs.YtdepbfgnmliggaaGreatDoor.Sx
