/- A region that draws its order, whose last operation waits for all others: so that one may be a call that is run by its body. -/
import Derived.Test.YteompacffdeekaaSx28
namespace Go.Proofs.Yteompacffdeekaa.Sx
set_option linter.unusedSimpArgs false
set_option linter.unusedVariables false

section
variable {P : Program} {Cs : List Con}

structure LeftT (all : List Oper) (L : List Rc) (m : Nat) (listed : Array Bool) : Prop where
  at' : ∀ c ∈ L, all[c.j]? = some c.o
  un : ∀ j, listed.getD j true = false ↔ (∃ c ∈ L, c.j = j) ∨ j = m
  ltm : ∀ c ∈ L, c.j < m
  lt : L.Pairwise fun c d => c.j < d.j
  ind : L.Pairwise fun c d => Anc all d.j c.j ∨ Indep all c d
  ids : L.Pairwise fun c d => c.hi ≤ d.nx
  down : Down all listed
  lex : ∀ (j : Nat) o, all[j]? = some o → ∀ e ∈ o.after.toList, Region.binds .any e = true → e.on < j
  size : listed.size = all.length

theorem any_okT {all : List Oper} {G : Ctx} {Q : Exit → Act → World → Prop} {N : Nat} {fr' : List SV} {ob' : Nat → Ob} {m : Nat} {om : Oper} (hCs : ∀ c ∈ Cs, c.Ok P) (hom : all[m]? = some om) (hgd : om.guard = none) (hancm : ∀ j, j < m → Anc all m j)
    (hQ : ∀ E a w, Con2 P G fr' ob' N E a w → om.wpIn (Fr G.rd) 0 P a w (Q .normal) Q) :
    ∀ (fuel : Nat) (L : List Rc) (listed : Array Bool) (fr : List SV) (ob : Nat → Ob) (E : Env) (a : Act) (w : World), L.length + 1 ≤ fuel → LeftT all L m listed → Ch P Cs all L fr ob fr' ob' → Con2 P G fr ob N E a w →
      (∀ c ∈ L, (∀ i, c.nx ≤ i → i < c.hi → ¬ E.born i) ∧ c.hi ≤ N ∧ c.nx ≤ c.hi) → wpAnyIn (Fr G.rd) 0 P .any all.toArray Q fuel listed a w := by
  have hmlt : m < all.length := (List.getElem?_eq_some_iff.1 hom).1
  have hne : ∀ (L : List Rc) (listed : Array Bool), LeftT all L m listed → Region.ready .any all.toArray listed ≠ [] := by
    intro L listed hl hr
    cases L with
    | nil =>
      have : m ∈ Region.ready .any all.toArray listed := by
        refine mem_ready.2 ⟨(hl.un m).2 (.inr rfl), om, by simpa using hom, fun e he hb => ?_⟩
        have hlt := hl.lex m om hom e (by simpa using he) hb
        have hin : e.on < listed.size := by rw [hl.size]; omega
        cases hv : listed.getD e.on false with
        | true => rfl
        | false =>
          exfalso
          have hv' : listed.getD e.on true = false := by simp [hin] at hv ⊢; exact hv
          rcases (hl.un e.on).1 hv' with ⟨d, hd, _⟩ | h
          · cases hd
          · omega
      rw [hr] at this; cases this
    | cons c L =>
      have hat := hl.at' c (List.mem_cons_self ..)
      have : c.j ∈ Region.ready .any all.toArray listed := by
        refine mem_ready.2 ⟨(hl.un c.j).2 (.inl ⟨c, List.mem_cons_self .., rfl⟩), c.o, by simpa using hat, fun e he hb => ?_⟩
        have hlt := hl.lex c.j c.o hat e (by simpa using he) hb
        have hsz : c.j < all.length := (List.getElem?_eq_some_iff.1 hat).1
        have hin : e.on < listed.size := by rw [hl.size]; omega
        cases hv : listed.getD e.on false with
        | true => rfl
        | false =>
          exfalso
          have hv' : listed.getD e.on true = false := by simp [hin] at hv ⊢; exact hv
          rcases (hl.un e.on).1 hv' with ⟨d, hd, hdj⟩ | h
          · rcases List.mem_cons.1 hd with rfl | hd
            · omega
            · have := List.rel_of_pairwise_cons hl.lt hd
              omega
          · have := hl.ltm c (List.mem_cons_self ..)
            omega
      rw [hr] at this; cases this
  intro fuel
  induction fuel with
  | zero => intro L listed fr ob E a w hlen; omega
  | succ fuel ih =>
    intro L listed fr ob E a w hlen hl hch hc hids
    refine ⟨fun hr => absurd hr (hne L listed hl), fun j hj => ?_⟩
    obtain ⟨h0, o, ho, hall⟩ := mem_ready.1 hj
    rcases (hl.un j).1 h0 with ⟨d, hdm, hdj⟩ | rfl
    · obtain ⟨L1, L2, rfl⟩ := List.append_of_mem hdm
      have hat := hl.at' d hdm
      have hoo : o = d.o := by
        rw [hdj] at hat
        have : all[j]? = some o := by simpa using ho
        rw [this] at hat; exact Option.some.inj hat
      have hind : ∀ c ∈ L1, Indep all c d := by
        intro c hc1
        have h1 := List.pairwise_append.1 hl.ind
        rcases h1.2.2 c hc1 d (List.mem_cons_self ..) with hanc | hi
        · exfalso
          have hls := anc_listed hl.down hanc fun o' ho' e he hb => by
            have : o' = o := by rw [hat] at ho'; rw [hoo]; exact (Option.some.inj ho').symm
            subst this
            exact hall e (by simpa using he) hb
          have hcu := (hl.un c.j).2 (.inl ⟨c, List.mem_append_left _ hc1, rfl⟩)
          rw [getD_tf hcu] at hls; cases hls
        · exact hi
      obtain ⟨hfit, hch'⟩ := Ch.front L1 L2 fr ob hind hch
      have hsub : List.Sublist (L1 ++ L2) (L1 ++ d :: L2) := List.Sublist.append_left (List.sublist_cons_self d L2) L1
      have hd3 := hids d hdm
      have hjlt : j < listed.size := by
        rcases Nat.lt_or_ge j listed.size with h' | h'
        · exact h'
        · simp [Array.getElem?_eq_none h'] at h0
      have hjn : ∀ c ∈ L1 ++ L2, c.j ≠ j := by
        intro c hc1
        have h1 := List.pairwise_append.1 hl.lt
        rcases List.mem_append.1 hc1 with hc1 | hc1
        · have := h1.2.2 c hc1 d (List.mem_cons_self ..); omega
        · have := List.rel_of_pairwise_cons h1.2.1 hc1; omega
      have hjm : j ≠ m := by have := hl.ltm d hdm; omega
      have hleft : LeftT all (L1 ++ L2) m (listed.setIfInBounds j true) := by
        refine ⟨fun c hc1 => hl.at' c (hsub.subset hc1), fun k => ?_, fun c hc1 => hl.ltm c (hsub.subset hc1), hl.lt.sublist hsub, hl.ind.sublist hsub, hl.ids.sublist hsub, fun k o' hk hkl e he hb => ?_, hl.lex, by simp [hl.size]⟩
        · by_cases hkj : j = k
          · subst hkj
            simp only [Array.getD_eq_getD_getElem?, Array.getElem?_setIfInBounds, hjlt, if_true, Option.getD_some]
            refine ⟨fun h => (by cases h), fun h => ?_⟩
            rcases h with ⟨c, h1, h2⟩ | h
            · exact absurd h2 (hjn c h1)
            · exact absurd h hjm
          · rw [getD_set_ne true hkj, hl.un k]
            constructor
            · rintro (⟨c, h1, h2⟩ | h)
              · rcases List.mem_append.1 h1 with h1 | h1
                · exact .inl ⟨c, List.mem_append_left _ h1, h2⟩
                · rcases List.mem_cons.1 h1 with rfl | h1
                  · exact absurd (hdj.symm.trans h2) hkj
                  · exact .inl ⟨c, List.mem_append_right _ h1, h2⟩
              · exact .inr h
            · rintro (⟨c, h1, h2⟩ | h)
              · exact .inl ⟨c, hsub.subset h1, h2⟩
              · exact .inr h
        · by_cases hkj : j = k
          · subst hkj
            have : o' = o := by
              have : all[j]? = some o := by simpa using ho
              rw [this] at hk; exact (Option.some.inj hk).symm
            subst this
            exact getD_set_true (hall e (by simpa using he) hb)
          · rw [getD_set_ne false hkj] at hkl
            exact getD_set_true (hl.down k o' hk hkl e he hb)
      have hstep := fit_step (K := wpAnyIn (Fr G.rd) 0 P .any all.toArray Q fuel (listed.setIfInBounds j true)) (B := Q) hCs hfit hc hd3.1 hd3.2.1 fun a' w' E' hc' hb' => by
        refine ih (L1 ++ L2) _ _ _ E' a' w' ?_ hleft hch' hc' fun c hc1 => ?_
        · simp at hlen ⊢; omega
        · have h3 := hids c (hsub.subset hc1)
          refine ⟨fun i k1 k2 hbi => ?_, h3.2⟩
          rcases hb' i hbi with hbi | ⟨k3, k4⟩
          · exact h3.1 i k1 k2 hbi
          · have h1 := List.pairwise_append.1 hl.ids
            rcases List.mem_append.1 hc1 with hc1 | hc1
            · have := h1.2.2 c hc1 d (List.mem_cons_self ..); omega
            · have := List.rel_of_pairwise_cons h1.2.1 hc1; omega
      show wpOpIn (Fr G.rd) 0 P all.toArray Q j _ a w
      unfold wpOpIn
      have ho2 : all.toArray[j]? = some d.o := by rw [← hoo]; exact ho
      simp only [ho2]
      split
      · rename_i hw
        rw [if_pos hw] at hstep
        exact hstep
      · rename_i hw
        rw [if_neg hw] at hstep
        exact hstep
    · -- the last one
      have hoo : o = om := by
        have : all[j]? = some o := by simpa using ho
        rw [this] at hom; exact Option.some.inj hom
      subst hoo
      have hL : L = [] := by
        cases L with
        | nil => rfl
        | cons c L =>
          exfalso
          have hls := anc_listed hl.down (hancm c.j (hl.ltm c (List.mem_cons_self ..))) fun o' ho' e he hb => by
            have : o' = o := by rw [hom] at ho'; exact (Option.some.inj ho').symm
            subst this
            exact hall e (by simpa using he) hb
          have hcu := (hl.un c.j).2 (.inl ⟨c, List.mem_cons_self .., rfl⟩)
          rw [getD_tf hcu] at hls; cases hls
      subst hL
      obtain ⟨rfl, rfl⟩ := hch
      show wpOpIn (Fr G.rd) 0 P all.toArray Q j _ a w
      unfold wpOpIn
      have ho2 : all.toArray[j]? = some o := by simpa using hom
      simp only [ho2]
      rw [if_pos (by simp [Region.wanted, hgd])]
      refine Oper.wpIn_mono (fun a' w' h => ?_) (hQ E a w hc)
      have hjlt : j < listed.size := by rw [hl.size]; exact hmlt
      have hr : Region.ready .any all.toArray (listed.setIfInBounds j true) = [] := by
        refine List.eq_nil_iff_forall_not_mem.2 fun k hk => ?_
        obtain ⟨g0, _⟩ := mem_ready.1 hk
        by_cases hkj : j = k
        · subst hkj
          simp only [Array.getD_eq_getD_getElem?, Array.getElem?_setIfInBounds, hjlt, if_true, Option.getD_some] at g0
          cases g0
        · rw [getD_set_ne true hkj] at g0
          rcases (hl.un k).1 g0 with ⟨c, hc1, _⟩ | h
          · cases hc1
          · exact hkj h.symm
      cases fuel with
      | zero => exact ⟨hr, h⟩
      | succ fuel => exact ⟨fun _ => h, fun k hk => by rw [hr] at hk; cases hk⟩

/-- What is asked of such a region, of its text alone. -/
def tailB (ops : Array Oper) : Bool :=
  let tab := ancT ops.toList []
  Nat.blt 0 ops.size && (match ops[ops.size - 1]? with | some o => o.guard.isNone | none => false) && (List.range (ops.size - 1)).all fun i => (tab.getD (ops.size - 1) 0).testBit i

variable {G : Ctx}

theorem Ok.tail {B : Exit → Act → World → Prop} (hCs : ∀ c ∈ Cs, c.Ok P) {id : Nat} {ops : Array Oper} {k : List It} {st : St} (hsta : staB P ops = true) (htl : tailB ops = true)
    (h : runD P Cs ops.toList (fun recs st' => dynB ops recs = true ∧ Ok P G B (.ops ops.toList (ops.toList.drop (ops.size - 1)) :: k) st') [] ops.toList.dropLast st) : Ok P G B (.c (.region id ops true) :: k) st := by
  intro E a w hc
  simp only [staB, Bool.and_eq_true, List.all_eq_true, List.mem_range, Bool.or_eq_true] at hsta
  obtain ⟨⟨hm, hlex⟩, hst⟩ := hsta
  simp only [tailB, Bool.and_eq_true, List.all_eq_true, List.mem_range] at htl
  obtain ⟨⟨hsz, hgo⟩, htl⟩ := htl
  have hsz : 0 < ops.size := by rw [Nat.blt_eq] at hsz; exact hsz
  have homs : ∃ om, ops[ops.size - 1]? = some om ∧ om.guard = none := by
    split at hgo
    · rename_i o ho; exact ⟨o, ho, by simpa using hgo⟩
    · cases hgo
  obtain ⟨om, hom, hgd⟩ := homs
  have homl : ops.toList[ops.size - 1]? = some om := by simpa using hom
  have hdl : ops.toList.drop (ops.size - 1) = [om] := by
    have hlt : ops.size - 1 < ops.toList.length := by simp; omega
    rw [List.drop_eq_getElem_cons hlt, List.drop_eq_nil_iff.2 (by simp; omega)]
    rw [List.getElem?_eq_getElem hlt] at homl
    rw [Option.some.inj homl]
  rw [hdl] at h
  obtain ⟨L, st', ⟨hdyn, hok⟩, k2, k3, k4, k5, k6, k7⟩ := runD_chain hCs ops.toList.dropLast 0 [] st E a w h hc
  simp only [List.nil_append] at hdyn
  simp only [dynB, List.all_eq_true, List.mem_range, Bool.or_eq_true] at hdyn
  have hdlen : ops.toList.dropLast.length = ops.size - 1 := by simp
  have hlen : L.length = ops.size - 1 := by
    have := congrArg List.length k2
    simpa using this
  have hj : ∀ i (hi : i < L.length), L[i].j = i := by
    intro i hi
    have : (L.map (·.j))[i]? = some i := by
      have hi' : i < ops.toList.dropLast.length := by rw [hdlen]; omega
      rw [k3, List.getElem?_eq_getElem (by simpa using hi')]; simp
    simpa [hi] using this
  have ho : ∀ i (hi : i < L.length), ops[i]? = some L[i].o := by
    intro i hi
    have : (L.map (·.o))[i]? = ops.toList.dropLast[i]? := by rw [k2]
    rw [List.getElem?_dropLast, if_pos (by simp; omega)] at this
    simp [hi] at this
    rw [← this]
  have hanc : ∀ j a, ((ancT ops.toList []).getD j 0).testBit a = true → Anc ops.toList j a := ancT_ok ops.toList [] [] rfl rfl fun j a ha => by simp at ha
  have hleft : LeftT ops.toList L (ops.size - 1) (Array.replicate ops.size false) := by
    refine ⟨fun c hcm => ?_, fun j => ?_, fun c hcm => ?_, ?_, ?_, k5, fun k o hk hkl => ?_, fun j o hjo e he hb => ?_, by simp⟩
    · obtain ⟨i, hi, rfl⟩ := List.mem_iff_getElem.1 hcm
      rw [hj i hi]
      simpa using ho i hi
    · constructor
      · intro hjl
        have hlt : j < ops.size := by
          rcases Nat.lt_or_ge j ops.size with h' | h'
          · exact h'
          · simp [h'] at hjl
        by_cases hjm : j = ops.size - 1
        · exact .inr hjm
        · exact .inl ⟨L[j], List.getElem_mem _, hj j (by omega)⟩
      · rintro (⟨c, hcm, rfl⟩ | rfl)
        · obtain ⟨i, hi, rfl⟩ := List.mem_iff_getElem.1 hcm
          rw [hj i hi]
          rw [hlen] at hi
          simp [show i < ops.size by omega]
        · simp [show ops.size - 1 < ops.size by omega]
    · obtain ⟨i, hi, rfl⟩ := List.mem_iff_getElem.1 hcm
      rw [hj i hi]; omega
    · refine List.pairwise_iff_getElem.2 fun i j hi hj' hij => ?_
      rw [hj i hi, hj j hj']; exact hij
    · refine List.pairwise_iff_getElem.2 fun i j hi hj' hij => ?_
      rw [hj i hi, hj j hj']
      have hjs : j < ops.size := by omega
      rcases hst j hjs i hij with h1 | h1
      · exact .inl (hanc j i h1)
      · rcases hdyn j hjs i hij with h2 | h2
        · exact .inl (hanc j i h2)
        · refine .inr ⟨?_, ?_⟩
          · rw [ho i hi, ho j hj'] at h1
            rw [Array.toArray_toList]
            exact h1
          · have e1 : (L.map fun c => (c.rd, keys' c.ws))[i]? = some (L[i].rd, keys' L[i].ws) := by simp [hi]
            have e2 : (L.map fun c => (c.rd, keys' c.ws))[j]? = some (L[j].rd, keys' L[j].ws) := by simp [hj']
            rw [e1, e2] at h2
            simp only [Bool.and_eq_true] at h2
            exact ⟨fun x hx => ⟨disj_ok h2.1.1 x hx, disj_ok h2.1.2 x hx⟩, disj_ok h2.2⟩
    · exfalso
      rcases Nat.lt_or_ge k ops.size with h' | h'
      · simp [h'] at hkl
      · have hks : k < ops.toList.length := (List.getElem?_eq_some_iff.1 hk).1
        simp at hks
        omega
    · have := lexT_ok ops.toList 0 hlex j o hjo e he hb
      omega
  have hc' : Conc P G st E a { w with drawn := w.drawn + 1 } := hc.heap rfl rfl rfl rfl
  have hc2 : Con2 P G st.fr (fo st.hp) st'.nx E a { w with drawn := w.drawn + 1 } := ⟨st.hp, rfl, hc'.pre, fun i hi => Nat.lt_of_lt_of_le (hc.born i hi) k7, hc'.len, hc'.dfr, hc'.rd⟩
  have hany := any_okT (all := ops.toList) (Q := kont P G B k) hCs homl hgd (fun j hjm => hanc _ _ (htl j hjm))
    (fun E a w ⟨hp, e, hcc⟩ => by
      have hcc' : Conc P G st' E a w := ⟨⟨hcc.pre.mem, fun i => by rw [e]; exact hcc.pre.ob i, hcc.pre.fr⟩, hcc.born, hcc.len, hcc.dfr, hcc.rd⟩
      have h1 : wpListIn (Fr G.rd) 0 P ops.toList.toArray (kont P G B k) [om] a w := hok E a w hcc'
      unfold wpListIn at h1
      rw [if_pos (by simp [Region.wanted, hgd])] at h1
      exact h1)
    ops.size L (Array.replicate ops.size false) st.fr (fo st.hp) E a _ (by omega) hleft k4 hc2 fun c hcm => by
      have := k6 c hcm
      exact ⟨fun i h1 h2 hb => by have := hc.born i hb; omega, this.2.2, this.2.1⟩
  rw [Array.toArray_toList] at hany
  exact wpIn_region_any hm hany

/-- A REGION THAT DRAWS ITS ORDER, its last operation a call by the callee's body. -/
theorem OkQ.tail {kp : List Nat} {Q : St → Prop} (hCs : ∀ c ∈ Cs, c.Ok P) {id : Nat} {ops : Array Oper} {k : List It} {st : St} (hsta : staB P ops = true) (htl : tailB ops = true)
    (h : runD P Cs ops.toList (fun recs st' => dynB ops recs = true ∧ OkQ P kp Q (.ops ops.toList (ops.toList.drop (ops.size - 1)) :: k) st') [] ops.toList.dropLast st) : OkQ P kp Q (.c (.region id ops true) :: k) st :=
  fun G B hs hQ => Ok.tail hCs hsta htl (runD_mono (fun r s hh => ⟨hh.1, hh.2 G B hs hQ⟩) _ _ _ h)

end
end Go.Proofs.Yteompacffdeekaa.Sx
