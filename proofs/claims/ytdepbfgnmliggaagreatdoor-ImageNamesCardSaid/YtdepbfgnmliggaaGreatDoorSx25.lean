/- Regions that draw their order, and the run of a whole body. -/
import Derived.Test.YtdepbfgnmliggaaGreatDoorSx24
namespace Go.Proofs.YtdepbfgnmliggaaGreatDoor.Sx
set_option linter.unusedSimpArgs false
set_option linter.unusedVariables false

theorem wp_ex {P : Program} {o : Oper} {a : Act} {w : World} {K : Act → World → Prop} (h : o.wp P a w K (fun _ _ _ => False)) : ∃ a' w', K a' w' := by
  unfold Oper.wp at h
  generalize (execOp a.eval o).run P w = r at h
  cases r with
  | ok n w' =>
    cases n <;> simp only [Oper.upon] at h
    case value v => exact ⟨_, _, h⟩
    case skip => exact ⟨_, _, h⟩
    case defer d => exact ⟨_, _, h⟩
    case enter f args =>
      obtain ⟨e, w'', fr, hR, _⟩ := h []
      cases e with
      | returned v => exact ⟨_, _, hR⟩
      | panicked c => exact hR.elim
      | outgrown => obtain ⟨_, _, hh⟩ := hR; exact hh.elim
    case row row args =>
      obtain ⟨v, w'', hR, _⟩ := h default []
      exact ⟨_, _, hR⟩
  | halt x w' => cases x <;> simp only [Oper.upon] at h

section
variable {P : Program} {Cs : List Con} {G : Ctx} {all : List Oper}

theorem keys'_nil_iff (ws : List (Nat × Ob)) : keys' [] = ([] : List Nat) := rfl

/-- The lexical run holds of the machine: so what its operations give is true; the chain of them. -/
theorem runD_chain (hCs : ∀ c ∈ Cs, c.Ok P) {Q : List (List Nat × List Nat) → St → Prop} : ∀ (l : List Oper) (n : Nat) (recs : List (List Nat × List Nat)) (st : St) (E : Env) (a : Act) (w : World),
    runD P Cs all Q recs l st → Conc P G st E a w → ∃ L st', Q (recs ++ L.map fun c => (c.rd, keys' c.ws)) st' ∧ L.map (·.o) = l ∧ L.map (·.j) = List.range' n l.length ∧ Ch P Cs all L st.fr (fo st.hp) st'.fr (fo st'.hp) ∧
      L.Pairwise (fun c d => c.hi ≤ d.nx) ∧ (∀ c ∈ L, st.nx ≤ c.nx ∧ c.nx ≤ c.hi ∧ c.hi ≤ st'.nx) ∧ st.nx ≤ st'.nx := by
  intro l
  induction l with
  | nil => exact fun n recs st E a w h hc => ⟨[], st, by simp only [List.map_nil, List.append_nil]; exact h, rfl, rfl, ⟨rfl, rfl⟩, List.Pairwise.nil, fun c hc => (by cases hc), Nat.le_refl _⟩
  | cons o l ih =>
    intro n recs st E a w h hc
    -- what one step adds
    have step : ∀ (c : Rc) (hp' : List (Nat × Ob)) (E' : Env) (a' : Act) (w' : World), c.j = n → c.o = o → c.nx = st.nx → c.nx ≤ c.hi → fo hp' = updO (fo st.hp) c.ws → Fit P Cs all c st.fr (fo st.hp) →
        Conc P G ⟨setD st.fr o.dst c.val, hp', c.hi⟩ E' a' w' → runD P Cs all Q (recs ++ [(c.rd, keys' c.ws)]) l ⟨setD st.fr o.dst c.val, hp', c.hi⟩ →
        ∃ L st', Q (recs ++ L.map fun c => (c.rd, keys' c.ws)) st' ∧ L.map (·.o) = o :: l ∧ L.map (·.j) = List.range' n (o :: l).length ∧ Ch P Cs all L st.fr (fo st.hp) st'.fr (fo st'.hp) ∧
          L.Pairwise (fun c d => c.hi ≤ d.nx) ∧ (∀ c ∈ L, st.nx ≤ c.nx ∧ c.nx ≤ c.hi ∧ c.hi ≤ st'.nx) ∧ st.nx ≤ st'.nx := by
      intro c hp' E' a' w' h1 h2 h3 h4 h5 hf hc' hr
      obtain ⟨L, st', k1, k2, k3, k4, k5, k6, k7⟩ := ih (n + 1) _ _ E' a' w' hr hc'
      simp only at k4 k6 k7
      refine ⟨c :: L, st', by simpa using k1, by simp [k2, h2], by simp [k3, h1, List.range'_succ], ⟨hf, ?_⟩, List.pairwise_cons.2 ⟨fun d hd => (k6 d hd).1, k5⟩, fun d hd => ?_, by omega⟩
      · rw [h2, ← h5]; exact k4
      · rcases List.mem_cons.1 hd with rfl | hd
        · omega
        · have := k6 d hd; omega
    obtain ⟨d, op, ty, pos, af, gd⟩ := o
    simp only [runD] at h
    split at h
    · split at h
      · exact h.elim
      · rename_i j want
        split at h
        · exact h.elim
        · rename_i g hv
          obtain ⟨rfl, h⟩ := h
          have hc' := hc.behind (d := d) (v := undef) hc.pre.mem Evo.rfl' hc.pre.ob (fun i hi => .inl hi) (X := .unk) trivial (Nat.le_refl _)
          exact step ⟨n, ⟨d, op, ty, pos, af, some (j, want)⟩, st.nx, st.nx, .unk, [], []⟩ _ E _ w rfl rfl rfl (Nat.le_refl _) rfl
            (by unfold Fit; exact ⟨false, hv, .inr (.inr ⟨rfl, rfl, rfl, rfl⟩)⟩) hc' h
    · rename_i u hu
      have hhi := stepU_hi hu
      have take : u.owe → ∃ E' a' w', Conc P G ⟨setD st.fr d u.val, uos st.hp u.ws, u.hi⟩ E' a' w' ∧ u.gives ∧ ∀ (g : Bool), g = true → u.ws = [] → Conc P G ⟨setD st.fr d (.gd g u.val), st.hp, u.hi⟩ E' a' w' := by
        intro howe
        have hL := step_ok (d := d) (ty := ty) (pos := pos) (af := af) (gd := gd) hc.pre hCs hu (fun i hi _ hb => by have := hc.born i hb; omega) howe
        obtain ⟨a', w', E', hK⟩ := wp_ex (hL (fun a' w' => ∃ E', Conc P G ⟨setD st.fr d u.val, uos st.hp u.ws, u.hi⟩ E' a' w' ∧ u.gives ∧ ∀ (g : Bool), g = true → u.ws = [] → Conc P G ⟨setD st.fr d (.gd g u.val), st.hp, u.hi⟩ E' a' w')
          (fun _ _ _ => False) fun v w' E' hm hev hob hb hv hgv => ⟨E', hc.behind hm hev hob hb hv hhi, hgv, fun g hg hws => hc.behind hm hev (by rw [hws] at hob; exact hob) hb (X := .gd g u.val) ⟨fun _ => hv, fun h0 => (by rw [hg] at h0; cases h0)⟩ hhi⟩)
        exact ⟨E', a', w', hK⟩
      split at h
      · obtain ⟨E', a', w', hc', hgv, _⟩ := take h.1
        exact step ⟨n, ⟨d, op, ty, pos, af, none⟩, st.nx, u.hi, u.val, u.ws, rdO st.fr op⟩ _ E' a' w' rfl rfl rfl hhi (updO_fo _ _) (by unfold Fit; exact ⟨u, hu, h.1, hgv, rfl, rfl, rfl, fun i hi => hi⟩) hc' (h.2 hgv)
      · rename_i j want
        split at h
        · exact h.elim
        · rename_i g hv
          split at h
          · rename_i hws
            cases g
            · have hc' := hc.behind (d := d) (v := undef) hc.pre.mem Evo.rfl' hc.pre.ob (fun i hi => .inl hi) (X := .gd false u.val) ⟨fun h0 => (by cases h0), fun _ => rfl⟩ hhi
              exact step ⟨n, ⟨d, op, ty, pos, af, some (j, want)⟩, st.nx, u.hi, .gd false u.val, [], rdO st.fr op⟩ _ E _ w rfl rfl rfl hhi rfl
                (by unfold Fit; exact ⟨false, hv, .inl ⟨u, hu, hws, fun h0 => (by cases h0), rfl, rfl, rfl, fun i hi => hi⟩⟩) hc' (h.2 fun h0 => (by cases h0))
            · obtain ⟨E', a', w', _, hgv, hc'⟩ := take (h.1 rfl)
              exact step ⟨n, ⟨d, op, ty, pos, af, some (j, want)⟩, st.nx, u.hi, .gd true u.val, [], rdO st.fr op⟩ _ E' a' w' rfl rfl rfl hhi rfl
                (by unfold Fit; exact ⟨true, hv, .inl ⟨u, hu, hws, fun _ => ⟨h.1 rfl, hgv⟩, rfl, rfl, rfl, fun i hi => hi⟩⟩) (hc' true rfl hws) (h.2 fun _ => hgv)
          · cases g
            · have hc' := hc.behind (d := d) (v := undef) hc.pre.mem Evo.rfl' hc.pre.ob (fun i hi => .inl hi) (X := .unk) trivial (Nat.le_refl _)
              exact step ⟨n, ⟨d, op, ty, pos, af, some (j, want)⟩, st.nx, st.nx, .unk, [], []⟩ _ E _ w rfl rfl rfl (Nat.le_refl _) rfl
                (by unfold Fit; exact ⟨false, hv, .inr (.inr ⟨rfl, rfl, rfl, rfl⟩)⟩) hc' (h.2 rfl)
            · obtain ⟨howe, h⟩ := h.1 rfl
              obtain ⟨E', a', w', hc', hgv, _⟩ := take howe
              exact step ⟨n, ⟨d, op, ty, pos, af, some (j, want)⟩, st.nx, u.hi, u.val, u.ws, rdO st.fr op⟩ _ E' a' w' rfl rfl rfl hhi (updO_fo _ _)
                (by unfold Fit; exact ⟨true, hv, .inr (.inl ⟨rfl, u, hu, howe, hgv, rfl, rfl, rfl, fun i hi => hi⟩)⟩) hc' (h hgv)

theorem lexT_ok : ∀ (l : List Oper) (n : Nat), lexT l n = true → ∀ (j : Nat) o, l[j]? = some o → ∀ e ∈ o.after.toList, Region.binds .any e = true → e.on < n + j
  | [], _, _, j, o, h, _, _, _ => by simp at h
  | x :: l, n, h, j, o, ho, e, he, hb => by
    simp only [lexT, Bool.and_eq_true, List.all_eq_true] at h
    cases j with
    | zero =>
      simp at ho
      subst ho
      have := h.1 e he
      rw [hb] at this
      simpa [Nat.blt_eq] using this
    | succ j =>
      have := lexT_ok l (n + 1) h.2 j o (by simpa using ho) e he hb
      omega

theorem Evo.heap {E : Env} {w w' : World} (h : w'.heap = w.heap) : Evo E E w w' :=
  ⟨fun _ h => h, (Evo.rfl' (E := E) (w := w)).keep, fun _ _ h => h, fun _ _ _ => by rw [h], fun b cs T fz hb => ⟨cs, fz, by rw [h]; exact hb, rfl⟩, by rw [h]; exact Nat.le_refl _, rfl, fun b y hy => by rw [h, hy]; exact OthK.same⟩

theorem Conc.heap {st : St} {E : Env} {a : Act} {w w' : World} (hc : Conc P G st E a w) (h : w'.heap = w.heap) (h1 : w'.os = w.os) (h2 : w'.tape = w.tape) (h3 : w'.output = w.output) : Conc P G st E a w' := by
  have hev : Evo E E w w' := .heap h
  have m := hc.pre.mem
  exact ⟨⟨m.step hev (fun _ => False) (fun o ho _ => ⟨ho, rfl, rfl, fun _ _ _ _ => by rw [h]⟩) (fun o ho => ho.elim) m.unb m.sep m.new h1 h2 h3 (fun b _ _ => by rw [h]), hc.pre.ob, fun i => hev.sv (hc.pre.fr i)⟩, hc.born, hc.len, hc.dfr.evo hev, hc.rd⟩

theorem disj_ok {l m : List Nat} (h : disj l m = true) : ∀ i ∈ l, i ∉ m := by
  intro i hi hm
  have := List.all_eq_true.1 h i hi
  simp [hm] at this

/-- A REGION THAT DRAWS ITS ORDER, as if it were carried out in the order of its text. -/
theorem Ok.drawn {B : Exit → Act → World → Prop} (hCs : ∀ c ∈ Cs, c.Ok P) {id : Nat} {ops : Array Oper} {k : List It} {st : St} (hsta : staB P ops = true)
    (h : runD P Cs ops.toList (fun recs st' => dynB ops recs = true ∧ Ok P G B k st') [] ops.toList st) : Ok P G B (.c (.region id ops true) :: k) st := by
  intro E a w hc
  simp only [staB, Bool.and_eq_true, List.all_eq_true, List.mem_range, Bool.or_eq_true] at hsta
  obtain ⟨⟨hm, hlex⟩, hst⟩ := hsta
  obtain ⟨L, st', ⟨hdyn, hok⟩, k2, k3, k4, k5, k6, k7⟩ := runD_chain hCs ops.toList 0 [] st E a w h hc
  simp only [List.nil_append] at hdyn
  simp only [dynB, List.all_eq_true, List.mem_range, Bool.or_eq_true] at hdyn
  have hlen : L.length = ops.size := by
    have := congrArg List.length k2
    simpa using this
  have hj : ∀ i (hi : i < L.length), L[i].j = i := by
    intro i hi
    have : (L.map (·.j))[i]? = some i := by
      have hi' : i < ops.toList.length := by simpa [← hlen] using hi
      rw [k3, List.getElem?_eq_getElem (by simpa using hi')]; simp
    simpa [hi] using this
  have ho : ∀ i (hi : i < L.length), ops[i]? = some L[i].o := by
    intro i hi
    have : (L.map (·.o))[i]? = ops.toList[i]? := by rw [k2]
    simp [hi] at this
    rw [← this]
  have hanc : ∀ j a, ((ancT ops.toList []).getD j 0).testBit a = true → Anc ops.toList j a := ancT_ok ops.toList [] [] rfl rfl fun j a ha => by simp at ha
  have hleft : Left ops.toList L (Array.replicate ops.size false) := by
    refine ⟨fun c hcm => ?_, fun j => ?_, ?_, ?_, k5, fun k o hk hkl => ?_, fun j o hjo e he hb => ?_, by simp⟩
    · obtain ⟨i, hi, rfl⟩ := List.mem_iff_getElem.1 hcm
      rw [hj i hi]
      simpa using ho i hi
    · constructor
      · intro hjl
        have hlt : j < ops.size := by
          rcases Nat.lt_or_ge j ops.size with h' | h'
          · exact h'
          · simp [h'] at hjl
        exact ⟨L[j], List.getElem_mem _, hj j (by omega)⟩
      · rintro ⟨c, hcm, rfl⟩
        obtain ⟨i, hi, rfl⟩ := List.mem_iff_getElem.1 hcm
        rw [hj i hi]
        rw [hlen] at hi
        simp [hi]
    · refine List.pairwise_iff_getElem.2 fun i j hi hj' hij => ?_
      rw [hj i hi, hj j hj']; exact hij
    · refine List.pairwise_iff_getElem.2 fun i j hi hj' hij => ?_
      rw [hj i hi, hj j hj']
      have hjs : j < ops.size := by omega
      rcases hst j hjs i hij with h1 | h1
      · exact .inl (hanc j i h1)
      · rcases hdyn j hjs i hij with h2 | h2
        · exact .inl (hanc j i h2)
        · refine .inr ⟨?_, ?_⟩
          · rw [ho i hi, ho j hj'] at h1
            rw [Array.toArray_toList]
            exact h1
          · have e1 : (L.map fun c => (c.rd, keys' c.ws))[i]? = some (L[i].rd, keys' L[i].ws) := by simp [hi]
            have e2 : (L.map fun c => (c.rd, keys' c.ws))[j]? = some (L[j].rd, keys' L[j].ws) := by simp [hj']
            rw [e1, e2] at h2
            simp only [Bool.and_eq_true] at h2
            exact ⟨fun x hx => ⟨disj_ok h2.1.1 x hx, disj_ok h2.1.2 x hx⟩, disj_ok h2.2⟩
    · exfalso
      rcases Nat.lt_or_ge k ops.size with h' | h'
      · simp [h'] at hkl
      · have hks : k < ops.toList.length := (List.getElem?_eq_some_iff.1 hk).1
        simp at hks
        omega
    · have := lexT_ok ops.toList 0 hlex j o hjo e he hb
      omega
  have hc' : Conc P G st E a { w with drawn := w.drawn + 1 } := hc.heap rfl rfl rfl rfl
  have hc2 : Con2 P G st.fr (fo st.hp) st'.nx E a { w with drawn := w.drawn + 1 } := ⟨st.hp, rfl, hc'.pre, fun i hi => Nat.lt_of_lt_of_le (hc.born i hi) k7, hc'.len, hc'.dfr, hc'.rd⟩
  have hany := any_ok (all := ops.toList) (Q := kont P G B k) hCs (fun E a w ⟨hp, e, hcc⟩ => hok E a w ⟨⟨hcc.pre.mem, fun i => by rw [e]; exact hcc.pre.ob i, hcc.pre.fr⟩, hcc.born, hcc.len, hcc.dfr, hcc.rd⟩)
    ops.size L (Array.replicate ops.size false) st.fr (fo st.hp) E a _ (by omega) hleft k4 hc2 fun c hcm => by
      have := k6 c hcm
      exact ⟨fun i h1 h2 hb => by have := hc.born i hb; omega, this.2.2, this.2.1⟩
  rw [Array.toArray_toList] at hany
  exact wpIn_region_any hm hany

end

section
variable {P : Program} {Cs : List Con} {G : Ctx} {B : Exit → Act → World → Prop}

theorem runD_mono {all : List Oper} {Q Q' : List (List Nat × List Nat) → St → Prop} (hQ : ∀ r s, Q r s → Q' r s) : ∀ (l : List Oper) (recs : List (List Nat × List Nat)) (st : St), runD P Cs all Q recs l st → runD P Cs all Q' recs l st
  | [], recs, st, h => hQ _ _ h
  | o :: l, recs, st, h => by
    simp only [runD] at h ⊢
    split at h
    · split at h
      · exact h.elim
      · split at h
        · exact h.elim
        · exact ⟨h.1, runD_mono hQ l _ _ h.2⟩
    · split at h
      · exact ⟨h.1, fun hg => runD_mono hQ l _ _ (h.2 hg)⟩
      · split at h
        · exact h.elim
        · split at h
          · exact ⟨h.1, fun hg => runD_mono hQ l _ _ (h.2 hg)⟩
          · exact ⟨fun hg => ⟨(h.1 hg).1, fun hg' => runD_mono hQ l _ _ ((h.1 hg).2 hg')⟩, fun hg => runD_mono hQ l _ _ (h.2 hg)⟩


end
end Go.Proofs.YtdepbfgnmliggaaGreatDoor.Sx
