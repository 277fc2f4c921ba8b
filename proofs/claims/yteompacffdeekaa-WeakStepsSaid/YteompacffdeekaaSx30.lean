/- A region that draws its order, cut where all that comes behind waits for all that stands ahead: so calls amid it may be run by their bodies. -/
import Derived.Test.YteompacffdeekaaSx29
namespace Go.Proofs.Yteompacffdeekaa.Sx
set_option linter.unusedSimpArgs false
set_option linter.unusedVariables false

section
variable {P : Program} {Cs : List Con}

def prefA (n s : Nat) : Array Bool := (List.replicate n true ++ List.replicate (s - n) false).toArray
theorem prefA_at {n s j : Nat} {d : Bool} (hn : n ≤ s) : (prefA n s).getD j d = if j < n then true else if j < s then false else d := by
  simp only [prefA, Array.getD_eq_getD_getElem?, List.getElem?_toArray, List.getElem?_append, List.length_replicate, List.getElem?_replicate]
  by_cases h1 : j < n
  · simp [h1]
  · by_cases h2 : j < s
    · simp [h1, h2, show j - n < s - n by omega]
    · simp [h1, h2, show ¬ j - n < s - n by omega]
theorem prefA_size {n s : Nat} (hn : n ≤ s) : (prefA n s).size = s := by simp [prefA]; omega
theorem prefA_next {n s : Nat} (hn : n < s) : (prefA n s).setIfInBounds n true = prefA (n + 1) s := by
  refine Array.ext (by simp [prefA_size (show n ≤ s by omega), prefA_size (show n + 1 ≤ s by omega)]) fun i h1 h2 => ?_
  have e : ∀ (A : Array Bool) (h : i < A.size), A[i] = A.getD i false := fun A h => by simp [h]
  rw [e, e]
  by_cases hi : n = i
  · subst hi
    rw [prefA_at (by omega), if_pos (by omega)]
    simp [Array.getElem?_setIfInBounds, prefA_size (show n ≤ s by omega), hn]
  · rw [getD_set_ne false hi, prefA_at (by omega), prefA_at (by omega)]
    by_cases h : i < n
    · rw [if_pos h, if_pos (by omega)]
    · simp [h, show ¬ i < n + 1 by omega]
theorem eq_prefA {A : Array Bool} {n s : Nat} (hn : n ≤ s) (hs : A.size = s) (h : ∀ j, A.getD j true = false ↔ n ≤ j ∧ j < s) : A = prefA n s := by
  refine Array.ext (by rw [hs, prefA_size hn]) fun i h1 h2 => ?_
  have e : ∀ (A : Array Bool) (h : i < A.size), A[i] = A.getD i true := fun A h => by simp [h]
  rw [e, e, prefA_at hn]
  have hk := h i
  by_cases c : n ≤ i
  · rw [if_neg (by omega), if_pos (by omega)]
    exact hk.2 ⟨c, by omega⟩
  · rw [if_pos (by omega)]
    cases hv : A.getD i true
    · exact absurd (hk.1 hv).1 c
    · rfl

/-- What is to come up to m; behind it all waits. -/
structure LeftC (all : List Oper) (L : List Rc) (m : Nat) (listed : Array Bool) : Prop where
  at' : ∀ c ∈ L, all[c.j]? = some c.o
  un : ∀ j, listed.getD j true = false ↔ (∃ c ∈ L, c.j = j) ∨ (m ≤ j ∧ j < all.length)
  ltm : ∀ c ∈ L, c.j < m
  cut : ∀ c ∈ L, ∀ j, m ≤ j → j < all.length → Anc all j c.j
  lt : L.Pairwise fun c d => c.j < d.j
  ind : L.Pairwise fun c d => Anc all d.j c.j ∨ Indep all c d
  ids : L.Pairwise fun c d => c.hi ≤ d.nx
  down : Down all listed
  lex : ∀ (j : Nat) o, all[j]? = some o → ∀ e ∈ o.after.toList, Region.binds .any e = true → e.on < j
  size : listed.size = all.length

theorem any_okC {all : List Oper} {G : Ctx} {Q : Exit → Act → World → Prop} {N : Nat} {fr' : List SV} {ob' : Nat → Ob} {m r : Nat} (hCs : ∀ c ∈ Cs, c.Ok P) (hm : m ≤ all.length)
    (hQ : ∀ E a w, Con2 P G fr' ob' N E a w → wpAnyIn (Fr G.rd) 0 P .any all.toArray Q r (prefA m all.length) a w) :
    ∀ (L : List Rc) (listed : Array Bool) (fr : List SV) (ob : Nat → Ob) (E : Env) (a : Act) (w : World), LeftC all L m listed → Ch P Cs all L fr ob fr' ob' → Con2 P G fr ob N E a w →
      (∀ c ∈ L, (∀ i, c.nx ≤ i → i < c.hi → ¬ E.born i) ∧ c.hi ≤ N ∧ c.nx ≤ c.hi) → wpAnyIn (Fr G.rd) 0 P .any all.toArray Q (L.length + r) listed a w := by
  have hne : ∀ (c : Rc) (L : List Rc) (listed : Array Bool), LeftC all (c :: L) m listed → Region.ready .any all.toArray listed ≠ [] := by
    intro c L listed hl hr
    have hat := hl.at' c (List.mem_cons_self ..)
    have : c.j ∈ Region.ready .any all.toArray listed := by
      refine mem_ready.2 ⟨(hl.un c.j).2 (.inl ⟨c, List.mem_cons_self .., rfl⟩), c.o, by simpa using hat, fun e he hb => ?_⟩
      have hlt := hl.lex c.j c.o hat e (by simpa using he) hb
      have hsz : c.j < all.length := (List.getElem?_eq_some_iff.1 hat).1
      have hin : e.on < listed.size := by rw [hl.size]; omega
      cases hv : listed.getD e.on false with
      | true => rfl
      | false =>
        exfalso
        have hv' : listed.getD e.on true = false := by simp [hin] at hv ⊢; exact hv
        rcases (hl.un e.on).1 hv' with ⟨d, hd, hdj⟩ | h
        · rcases List.mem_cons.1 hd with rfl | hd
          · omega
          · have := List.rel_of_pairwise_cons hl.lt hd
            omega
        · have := hl.ltm c (List.mem_cons_self ..)
          omega
    rw [hr] at this; cases this
  intro L
  generalize hn : L.length = n
  induction n generalizing L with
  | zero =>
    intro listed fr ob E a w hl hch hc hids
    obtain rfl : L = [] := List.eq_nil_of_length_eq_zero hn
    obtain ⟨rfl, rfl⟩ := hch
    have e : listed = prefA m all.length := eq_prefA hm hl.size fun j => by
      rw [hl.un j]
      exact ⟨fun h => h.resolve_left fun ⟨c, h1, _⟩ => (by cases h1), .inr⟩
    rw [e, Nat.zero_add]
    exact hQ E a w hc
  | succ n ih =>
    intro listed fr ob E a w hl hch hc hids
    obtain ⟨c0, L0, rfl⟩ : ∃ c0 L0, L = c0 :: L0 := by
      cases L with
      | nil => cases hn
      | cons c L => exact ⟨c, L, rfl⟩
    rw [show n + 1 + r = (n + r) + 1 by omega]
    refine ⟨fun hr => absurd hr (hne c0 L0 listed hl), fun j hj => ?_⟩
    obtain ⟨h0, o, ho, hall⟩ := mem_ready.1 hj
    have hlisted : ∀ a, Anc all j a → listed.getD a false = true := fun a hanc => anc_listed hl.down hanc fun o' ho' e he hb => by
      have : o' = o := by
        have h2 : all[j]? = some o := by simpa using ho
        rw [h2] at ho'; exact (Option.some.inj ho').symm
      subst this
      exact hall e (by simpa using he) hb
    rcases (hl.un j).1 h0 with ⟨d, hdm, hdj⟩ | ⟨h1, h2⟩
    · obtain ⟨L1, L2, hL⟩ := List.append_of_mem hdm
      rw [hL] at hl hch hids hn hdm
      have hat := hl.at' d hdm
      have hoo : o = d.o := by
        rw [hdj] at hat
        have : all[j]? = some o := by simpa using ho
        rw [this] at hat; exact Option.some.inj hat
      have hind : ∀ c ∈ L1, Indep all c d := by
        intro c hc1
        have h1 := List.pairwise_append.1 hl.ind
        rcases h1.2.2 c hc1 d (List.mem_cons_self ..) with hanc | hi
        · exfalso
          have hls := hlisted c.j (by rw [← hdj]; exact hanc)
          have hcu := (hl.un c.j).2 (.inl ⟨c, List.mem_append_left _ hc1, rfl⟩)
          rw [getD_tf hcu] at hls; cases hls
        · exact hi
      obtain ⟨hfit, hch'⟩ := Ch.front L1 L2 fr ob hind hch
      have hsub : List.Sublist (L1 ++ L2) (L1 ++ d :: L2) := List.Sublist.append_left (List.sublist_cons_self d L2) L1
      have hd3 := hids d hdm
      have hjlt : j < listed.size := by
        rcases Nat.lt_or_ge j listed.size with h' | h'
        · exact h'
        · simp [Array.getElem?_eq_none h'] at h0
      have hjn : ∀ c ∈ L1 ++ L2, c.j ≠ j := by
        intro c hc1
        have h1 := List.pairwise_append.1 hl.lt
        rcases List.mem_append.1 hc1 with hc1 | hc1
        · have := h1.2.2 c hc1 d (List.mem_cons_self ..); omega
        · have := List.rel_of_pairwise_cons h1.2.1 hc1; omega
      have hjm : j < m := by have := hl.ltm d hdm; omega
      have hleft : LeftC all (L1 ++ L2) m (listed.setIfInBounds j true) := by
        refine ⟨fun c hc1 => hl.at' c (hsub.subset hc1), fun k => ?_, fun c hc1 => hl.ltm c (hsub.subset hc1), fun c hc1 => hl.cut c (hsub.subset hc1), hl.lt.sublist hsub, hl.ind.sublist hsub, hl.ids.sublist hsub, fun k o' hk hkl e he hb => ?_, hl.lex, by simp [hl.size]⟩
        · by_cases hkj : j = k
          · subst hkj
            simp only [Array.getD_eq_getD_getElem?, Array.getElem?_setIfInBounds, hjlt, if_true, Option.getD_some]
            refine ⟨fun h => (by cases h), fun h => ?_⟩
            rcases h with ⟨c, h1, h2⟩ | h
            · exact absurd h2 (hjn c h1)
            · omega
          · rw [getD_set_ne true hkj, hl.un k]
            constructor
            · rintro (⟨c, h1, h2⟩ | h)
              · rcases List.mem_append.1 h1 with h1 | h1
                · exact .inl ⟨c, List.mem_append_left _ h1, h2⟩
                · rcases List.mem_cons.1 h1 with rfl | h1
                  · exact absurd (hdj.symm.trans h2) hkj
                  · exact .inl ⟨c, List.mem_append_right _ h1, h2⟩
              · exact .inr h
            · rintro (⟨c, h1, h2⟩ | h)
              · exact .inl ⟨c, hsub.subset h1, h2⟩
              · exact .inr h
        · by_cases hkj : j = k
          · subst hkj
            have : o' = o := by
              have : all[j]? = some o := by simpa using ho
              rw [this] at hk; exact (Option.some.inj hk).symm
            subst this
            exact getD_set_true (hall e (by simpa using he) hb)
          · rw [getD_set_ne false hkj] at hkl
            exact getD_set_true (hl.down k o' hk hkl e he hb)
      have hstep := fit_step (K := wpAnyIn (Fr G.rd) 0 P .any all.toArray Q (n + r) (listed.setIfInBounds j true)) (B := Q) hCs hfit hc hd3.1 hd3.2.1 fun a' w' E' hc' hb' => by
        refine ih (L1 ++ L2) (by simp at hn ⊢; omega) _ _ _ E' a' w' hleft hch' hc' fun c hc1 => ?_
        have h3 := hids c (hsub.subset hc1)
        refine ⟨fun i k1 k2 hbi => ?_, h3.2⟩
        rcases hb' i hbi with hbi | ⟨k3, k4⟩
        · exact h3.1 i k1 k2 hbi
        · have h1 := List.pairwise_append.1 hl.ids
          rcases List.mem_append.1 hc1 with hc1 | hc1
          · have := h1.2.2 c hc1 d (List.mem_cons_self ..); omega
          · have := List.rel_of_pairwise_cons h1.2.1 hc1; omega
      show wpOpIn (Fr G.rd) 0 P all.toArray Q j _ a w
      unfold wpOpIn
      have ho2 : all.toArray[j]? = some d.o := by rw [← hoo]; exact ho
      simp only [ho2]
      split
      · rename_i hw
        rw [if_pos hw] at hstep
        exact hstep
      · rename_i hw
        rw [if_neg hw] at hstep
        exact hstep
    · exfalso
      have hls := hlisted c0.j (hl.cut c0 (List.mem_cons_self ..) j h1 h2)
      have hcu := (hl.un c0.j).2 (.inl ⟨c0, List.mem_cons_self .., rfl⟩)
      rw [getD_tf hcu] at hls; cases hls

/-- The region from its first n operations on. -/
def OkP (P : Program) (kp : List Nat) (Q : St → Prop) (ops : Array Oper) (k : List It) (n : Nat) (st : St) : Prop :=
  ∀ (G : Ctx) (B : Exit → Act → World → Prop), KpOk G kp → (∀ st E a w, Q st → Conc P G st E a w → B .ret a w ∧ B .normal a w) →
    ∀ E a w, Conc P G st E a w → wpAnyIn (Fr G.rd) 0 P .any ops (kont P G B k) (ops.size - n) (prefA n ops.size) a w

/-- All behind the first m wait for those from n up to m. -/
def cutB (ops : Array Oper) (n m : Nat) : Bool :=
  let tab := ancT ops.toList []
  (List.range ops.size).all fun j => Nat.blt j m || (List.range m).all fun i => Nat.blt i n || (tab.getD j 0).testBit i
/-- Of those from n up to m, each waits for the other or is apart from it. -/
def staP (ops : Array Oper) (n m : Nat) : Bool :=
  let tab := ancT ops.toList []
  (List.range m).all fun j => Nat.blt j n || (List.range j).all fun i => Nat.blt i n || (tab.getD j 0).testBit i || (match ops[i]?, ops[j]? with
      | some x, some y => Oper.apart ops x y
      | _, _ => true)
def dynP (ops : Array Oper) (n : Nat) (recs : List (List Nat × List Nat)) : Bool :=
  let tab := ancT ops.toList []
  (List.range recs.length).all fun j => (List.range j).all fun i => (tab.getD (n + j) 0).testBit (n + i) || (match recs[i]?, recs[j]? with
      | some (r, w), some (r', w') => disj w r' && disj w w' && disj w' r
      | _, _ => true)
def lexP (P : Program) (ops : Array Oper) : Bool := P.follows .mixedOrders && lexT ops.toList 0

variable {kp : List Nat} {Q : St → Prop}

theorem OkQ.cutStart {id : Nat} {ops : Array Oper} {k : List It} {st : St} (hl : lexP P ops = true) (h : OkP P kp Q ops k 0 st) : OkQ P kp Q (.c (.region id ops true) :: k) st := by
  intro G B hs hQ E a w hc
  simp only [lexP, Bool.and_eq_true] at hl
  have hc' : Conc P G st E a { w with drawn := w.drawn + 1 } := hc.heap rfl rfl rfl rfl
  have := h G B hs hQ E a _ hc'
  refine wpIn_region_any hl.1 ?_
  have e : prefA 0 ops.size = Array.replicate ops.size false := by simp [prefA]
  rw [← e]
  exact this

theorem OkP.stop {ops : Array Oper} {k : List It} {n : Nat} {st : St} (hn : ops.size = n) (h : OkQ P kp Q k st) : OkP P kp Q ops k n st := by
  subst hn
  intro G B hs hQ E a w hc
  rw [Nat.sub_self]
  refine ⟨List.eq_nil_iff_forall_not_mem.2 fun j hj => ?_, h G B hs hQ E a w hc⟩
  obtain ⟨h0, o, ho, _⟩ := mem_ready.1 hj
  have hlt : j < ops.size := (Array.getElem?_eq_some_iff.1 ho).1
  rw [prefA_at (Nat.le_refl _), if_pos hlt] at h0
  cases h0

theorem prefA_down {ops : Array Oper} {n : Nat} (hn : n ≤ ops.size) (hlex : ∀ (j : Nat) o, ops.toList[j]? = some o → ∀ e ∈ o.after.toList, Region.binds .any e = true → e.on < j) : Down ops.toList (prefA n ops.size) := by
  intro k o hk hkl e he hb
  have := hlex k o hk e he hb
  rw [prefA_at hn] at hkl ⊢
  by_cases h : k < n
  · rw [if_pos (by omega)]
  · rw [if_neg h] at hkl
    have hks : k < ops.size := by have := (List.getElem?_eq_some_iff.1 hk).1; simpa using this
    rw [if_pos hks] at hkl; cases hkl

theorem OkP.draw (hCs : ∀ c ∈ Cs, c.Ok P) {ops : Array Oper} {k : List It} {n : Nat} {st : St} (m : Nat) (hl : lexP P ops = true) (hnm : Nat.ble n m = true ∧ Nat.ble m ops.size = true) (hcut : cutB ops n m = true) (hsta : staP ops n m = true)
    (h : runD P Cs ops.toList (fun recs st' => dynP ops n recs = true ∧ OkP P kp Q ops k m st') [] ((ops.toList.drop n).take (m - n)) st) : OkP P kp Q ops k n st := by
  intro G B hs hQ E a w hc
  have hnm1 : n ≤ m := Nat.le_of_ble_eq_true hnm.1
  have hms : m ≤ ops.size := Nat.le_of_ble_eq_true hnm.2
  simp only [lexP, Bool.and_eq_true] at hl
  have hlex : ∀ (j : Nat) o, ops.toList[j]? = some o → ∀ e ∈ o.after.toList, Region.binds .any e = true → e.on < j := fun j o hjo e he hb => by
    have := lexT_ok ops.toList 0 hl.2 j o hjo e he hb
    omega
  simp only [cutB, List.all_eq_true, List.mem_range, Bool.or_eq_true, Nat.blt_eq] at hcut
  simp only [staP, List.all_eq_true, List.mem_range, Bool.or_eq_true, Nat.blt_eq] at hsta
  have hseg : ((ops.toList.drop n).take (m - n)).length = m - n := by simp; omega
  obtain ⟨L, st', ⟨hdyn, hok⟩, k2, k3, k4, k5, k6, k7⟩ := runD_chain hCs ((ops.toList.drop n).take (m - n)) n [] st E a w h hc
  simp only [List.nil_append] at hdyn
  simp only [dynP, List.all_eq_true, List.mem_range, Bool.or_eq_true, List.length_map] at hdyn
  have hlen : L.length = m - n := by
    have := congrArg List.length k2
    rw [List.length_map, hseg] at this; exact this
  have hj : ∀ i (hi : i < L.length), L[i].j = n + i := by
    intro i hi
    have : (L.map (·.j))[i]? = some (n + i) := by
      rw [k3, hseg, List.getElem?_eq_getElem (by simpa using (by omega : i < m - n))]; simp
    simpa [hi] using this
  have ho : ∀ i (hi : i < L.length), ops[n + i]? = some L[i].o := by
    intro i hi
    have : (L.map (·.o))[i]? = ((ops.toList.drop n).take (m - n))[i]? := by rw [k2]
    rw [List.getElem?_take_of_lt (by omega), List.getElem?_drop] at this
    simp [hi] at this
    rw [← this]
  have hanc : ∀ j a, ((ancT ops.toList []).getD j 0).testBit a = true → Anc ops.toList j a := ancT_ok ops.toList [] [] rfl rfl fun j a ha => by simp at ha
  have hleft : LeftC ops.toList L m (prefA n ops.size) := by
    refine ⟨fun c hcm => ?_, fun j => ?_, fun c hcm => ?_, fun c hcm j h1 h2 => ?_, ?_, ?_, k5, prefA_down (by omega) hlex, hlex, by rw [prefA_size (by omega)]; simp⟩
    · obtain ⟨i, hi, rfl⟩ := List.mem_iff_getElem.1 hcm
      rw [hj i hi]
      simpa using ho i hi
    · rw [prefA_at (by omega)]
      simp only [Array.length_toList]
      constructor
      · intro hjl
        by_cases h1 : j < n
        · rw [if_pos h1] at hjl; cases hjl
        · rw [if_neg h1] at hjl
          by_cases h2 : j < ops.size
          · by_cases h3 : j < m
            · exact .inl ⟨L[j - n]'(by omega), List.getElem_mem _, by rw [hj _ (by omega)]; omega⟩
            · exact .inr ⟨by omega, h2⟩
          · rw [if_neg h2] at hjl; cases hjl
      · rintro (⟨c, hcm, rfl⟩ | ⟨h1, h2⟩)
        · obtain ⟨i, hi, rfl⟩ := List.mem_iff_getElem.1 hcm
          rw [hj i hi, if_neg (by omega), if_pos (by omega)]
        · rw [if_neg (by omega), if_pos h2]
    · obtain ⟨i, hi, rfl⟩ := List.mem_iff_getElem.1 hcm
      rw [hj i hi]; omega
    · obtain ⟨i, hi, rfl⟩ := List.mem_iff_getElem.1 hcm
      rw [hj i hi]
      simp only [Array.length_toList] at h2
      rcases hcut j h2 with h3 | h3
      · omega
      · rcases h3 (n + i) (by omega) with h4 | h4
        · omega
        · exact hanc _ _ h4
    · refine List.pairwise_iff_getElem.2 fun i j hi hj' hij => ?_
      rw [hj i hi, hj j hj']; omega
    · refine List.pairwise_iff_getElem.2 fun i j hi hj' hij => ?_
      rw [hj i hi, hj j hj']
      rcases hsta (n + j) (by omega) with h1 | h1
      · omega
      · rcases h1 (n + i) (by omega) with (h2 | h2) | h2
        · omega
        · exact .inl (hanc _ _ h2)
        · rcases hdyn j hj' i hij with h3 | h3
          · exact .inl (hanc _ _ h3)
          · refine .inr ⟨?_, ?_⟩
            · rw [ho i hi, ho j hj'] at h2
              rw [Array.toArray_toList]
              exact h2
            · have e1 : (L.map fun c => (c.rd, keys' c.ws))[i]? = some (L[i].rd, keys' L[i].ws) := by simp [hi]
              have e2 : (L.map fun c => (c.rd, keys' c.ws))[j]? = some (L[j].rd, keys' L[j].ws) := by simp [hj']
              rw [e1, e2] at h3
              simp only [Bool.and_eq_true] at h3
              exact ⟨fun x hx => ⟨disj_ok h3.1.1 x hx, disj_ok h3.1.2 x hx⟩, disj_ok h3.2⟩
  have hc2 : Con2 P G st.fr (fo st.hp) st'.nx E a w := ⟨st.hp, rfl, hc.pre, fun i hi => Nat.lt_of_lt_of_le (hc.born i hi) k7, hc.len, hc.dfr, hc.rd⟩
  have hany := any_okC (all := ops.toList) (Q := kont P G B k) (m := m) (r := ops.size - m) hCs (by simpa using hms)
    (fun E a w ⟨hp, e, hcc⟩ => by
      have := hok G B hs hQ E a w ⟨⟨hcc.pre.mem, fun i => by rw [e]; exact hcc.pre.ob i, hcc.pre.fr⟩, hcc.born, hcc.len, hcc.dfr, hcc.rd⟩
      simpa using this)
    L (prefA n ops.size) st.fr (fo st.hp) E a w hleft k4 hc2 fun c hcm => by
      have := k6 c hcm
      exact ⟨fun i h1 h2 hb => by have := hc.born i hb; omega, this.2.2, this.2.1⟩
  rw [Array.toArray_toList] at hany
  rw [show ops.size - n = L.length + (ops.size - m) by omega]
  exact hany

/-- The n-th operation, a call by the callee's body. -/
def callP (P : Program) (inl : List Nat) (kp : List Nat) (Q : St → Prop) (ops : Array Oper) (k : List It) (n : Nat) (st : St) : Prop :=
  match ops[n]? with
  | none => False
  | some o => match inlU P inl st o.op with
    | none => False
    | some (pre, code, rs, fr') => match o.guard with
      | none => pre ∧ OkQ P (ddN (idsF st.fr ++ kp)) (RetI P rs fun v hp nx => OkP P kp Q ops k (n + 1) ⟨setD st.fr o.dst v, hp, nx⟩) [.c code] ⟨fr', st.hp, st.nx⟩
      | some (j, want) => match gval ops.toList st.fr j want with
        | none => False
        | some g => brB g (pre ∧ OkQ P (ddN (idsF st.fr ++ kp)) (RetI P rs fun v hp nx => OkP P kp Q ops k (n + 1) ⟨setD st.fr o.dst v, hp, nx⟩) [.c code] ⟨fr', st.hp, st.nx⟩)
            (OkP P kp Q ops k (n + 1) ⟨setD st.fr o.dst .unk, st.hp, st.nx⟩)

theorem OkP.call (inl : List Nat) {ops : Array Oper} {k : List It} {n : Nat} {st : St} (hl : lexP P ops = true) (hcut : cutB ops n (n + 1) = true) (h : callP P inl kp Q ops k n st) : OkP P kp Q ops k n st := by
  intro G B hs hQ E a w hc
  simp only [lexP, Bool.and_eq_true] at hl
  have hlex : ∀ (j : Nat) o, ops.toList[j]? = some o → ∀ e ∈ o.after.toList, Region.binds .any e = true → e.on < j := fun j o hjo e he hb => by
    have := lexT_ok ops.toList 0 hl.2 j o hjo e he hb
    omega
  simp only [cutB, List.all_eq_true, List.mem_range, Bool.or_eq_true, Nat.blt_eq] at hcut
  have hanc : ∀ j a, ((ancT ops.toList []).getD j 0).testBit a = true → Anc ops.toList j a := ancT_ok ops.toList [] [] rfl rfl fun j a ha => by simp at ha
  unfold callP at h
  split at h
  · exact h.elim
  rename_i o ho
  have hns : n < ops.size := (Array.getElem?_eq_some_iff.1 ho).1
  have hol : ops.toList[n]? = some o := by simpa using ho
  -- the ready ones
  have hready : ∀ j ∈ Region.ready .any ops (prefA n ops.size), j = n := by
    intro j hj
    obtain ⟨h0, o', ho', hall⟩ := mem_ready.1 hj
    have hjs : j < ops.size := (Array.getElem?_eq_some_iff.1 ho').1
    rcases Nat.lt_trichotomy j n with c | c | c
    · rw [prefA_at (by omega), if_pos c] at h0; cases h0
    · exact c
    · exfalso
      rcases hcut j hjs with h3 | h3
      · omega
      · rcases h3 n (by omega) with h4 | h4
        · omega
        · have hls := anc_listed (prefA_down (n := n) (by omega) hlex) (hanc _ _ h4) fun o2 ho2 e he hb => by
            have : o2 = o' := by
              have h2 : ops.toList[j]? = some o' := by simpa using ho'
              rw [h2] at ho2; exact (Option.some.inj ho2).symm
            subst this
            exact hall e (by simpa using he) hb
          rw [prefA_at (n := n) (s := ops.size) (by omega), if_neg (by omega), if_pos hns] at hls
          cases hls
  have hin : n ∈ Region.ready .any ops (prefA n ops.size) := by
    refine mem_ready.2 ⟨by rw [prefA_at (by omega), if_neg (by omega), if_pos hns], o, ho, fun e he hb => ?_⟩
    have := hlex n o hol e (by simpa using he) hb
    rw [prefA_at (by omega), if_pos (by omega)]
  obtain ⟨r, hr⟩ : ∃ r, ops.size - n = r + 1 := ⟨ops.size - n - 1, by omega⟩
  rw [hr]
  refine ⟨fun hr => (by rw [hr] at hin; cases hin), fun j hj => ?_⟩
  obtain rfl := hready j hj
  rw [prefA_next hns]
  have hr2 : ops.size - (j + 1) = r := by omega
  have next : ∀ st', OkP P kp Q ops k (j + 1) st' → ∀ E a w, Conc P G st' E a w → wpAnyIn (Fr G.rd) 0 P .any ops (kont P G B k) r (prefA (j + 1) ops.size) a w := fun st' h' E a w hc' => by
    have := h' G B hs hQ E a w hc'
    rw [hr2] at this; exact this
  show wpOpIn (Fr G.rd) 0 P ops (kont P G B k) j _ a w
  unfold wpOpIn
  simp only [ho]
  split at h
  · exact h.elim
  rename_i pre code rs fr' hi
  obtain ⟨c, f, g, caps, fn, h1, h2, h3, h4, h5, h6, h7, h8, rfl, rfl, rfl⟩ := inlU_some hi
  have key : ((pkP (ev st.fr f) ∧ pkPs st.fr c.args.toList) ∧ OkQ P (ddN (idsF st.fr ++ kp)) (RetI P fn.results.toList fun v hp nx => OkP P kp Q ops k (j + 1) ⟨setD st.fr o.dst v, hp, nx⟩) [.c code] ⟨appSV (pkVs st.fr c.args.toList) (appSV (pbs caps) (unks (fn.ntmps - (c.args.size + caps.length)))), st.hp, st.nx⟩) →
      o.wpIn (Fr G.rd) 0 P a w (wpAnyIn (Fr G.rd) 0 P .any ops (kont P G B k) r (prefA (j + 1) ops.size)) (kont P G B k) := by
    intro hh
    refine inline_gen (R := fun v hp nx => OkP P kp Q ops k (j + 1) ⟨setD st.fr o.dst v, hp, nx⟩) h1 h2 h3 hh.1 h4 h5 h6 h7 h8 (fun G' B' hs' hr' hB' => ?_) hc fun v hp nx E a w hok hcc => next _ hok E a w hcc
    refine hh.2 G' B' ⟨fun p hp i hi => ?_, fun p hp => ?_⟩ fun st2 E2 a2 w2 hr hc2 => hB' st2 E2 a2 w2 hr hc2
    · rcases hs' p hp with ⟨q, hq⟩ | hp
      · rw [hq] at hi
        exact mem_ddN (List.mem_append_left _ (idsF_at _ _ _ hi))
      · exact mem_ddN (List.mem_append_right _ (hs.1 p hp i hi))
    · rw [hr'] at hp
      exact mem_ddN (List.mem_append_right _ (hs.2 p hp))
  split at h
  · rename_i hg
    rw [if_pos (by simp [Region.wanted, hg])]
    exact key h
  · rename_i j' want hg
    split at h
    · exact h.elim
    · rename_i gb hv
      have hv' : gval ops.toList st.fr j' want = some gb := hv
      have hw := gval_ok hc hg hv'
      rw [Array.toArray_toList] at hw
      cases gb
      · rw [if_neg (by rw [hw]; simp)]
        exact ⟨fun _ _ => Fr_fn, next _ (h.2 rfl) E _ w (hc.behind hc.pre.mem Evo.rfl' hc.pre.ob (fun i hi => .inl hi) (X := .unk) trivial (Nat.le_refl _))⟩
      · rw [if_pos hw]
        exact key (h.1 rfl)

end
end Go.Proofs.Yteompacffdeekaa.Sx
