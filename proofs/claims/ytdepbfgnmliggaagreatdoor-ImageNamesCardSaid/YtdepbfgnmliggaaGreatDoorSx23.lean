/- What a symbolic step looks at. -/
import Derived.Test.YtdepbfgnmliggaaGreatDoorSx22
namespace Go.Proofs.YtdepbfgnmliggaaGreatDoor.Sx
set_option linter.unusedSimpArgs false
set_option linter.unusedVariables false

section
variable {P : Program} {Cs : List Con} {nx : Nat} {ob ob' : Nat → Ob} {fr fr' : List SV}

/-! ### The slots -/
theorem pkPs_fr : ∀ (l : List Operand), (∀ x ∈ l, ev fr x = ev fr' x) → pkPs fr l = pkPs fr' l
  | [], _ => rfl
  | x :: l, h => by simp only [pkPs, h x (List.mem_cons_self ..), pkPs_fr l fun y hy => h y (List.mem_cons_of_mem _ hy)]
theorem pkVs_fr : ∀ (l : List Operand), (∀ x ∈ l, ev fr x = ev fr' x) → pkVs fr l = pkVs fr' l
  | [], _ => rfl
  | x :: l, h => by simp only [pkVs, h x (List.mem_cons_self ..), pkVs_fr l fun y hy => h y (List.mem_cons_of_mem _ hy)]
theorem idsO_fr : ∀ (l : List Operand), (∀ x ∈ l, ev fr x = ev fr' x) → idsO fr l = idsO fr' l
  | [], _ => rfl
  | x :: l, h => by simp only [idsO, h x (List.mem_cons_self ..), idsO_fr l fun y hy => h y (List.mem_cons_of_mem _ hy)]
theorem capsOf_fr : ∀ (l : List Operand), (∀ x ∈ l, ev fr x = ev fr' x) → capsOf fr l = capsOf fr' l
  | [], _ => rfl
  | x :: l, h => by simp only [capsOf, h x (List.mem_cons_self ..), capsOf_fr l fun y hy => h y (List.mem_cons_of_mem _ hy)]
theorem sParts_fr (e : Ty) : ∀ (l : List (Nat × Operand)) (i : Nat), (∀ x ∈ l, ev fr x.2 = ev fr' x.2) → sParts ob e fr l i = sParts ob e fr' l i
  | [], _, _ => rfl
  | (j, x) :: l, i, h => by simp only [sParts, h (j, x) (List.mem_cons_self ..), sParts_fr e l (i + 1) fun y hy => h y (List.mem_cons_of_mem _ hy)]
theorem idsParts_fr : ∀ (l : List (Nat × Operand)), (∀ x ∈ l, ev fr x.2 = ev fr' x.2) → idsParts fr l = idsParts fr' l
  | [], _ => rfl
  | (j, x) :: l, h => by simp only [idsParts, h (j, x) (List.mem_cons_self ..), idsParts_fr l fun y hy => h y (List.mem_cons_of_mem _ hy)]
theorem sFill_fr (pl : List (Nat × Nat)) : ∀ (l : List (Nat × Operand)) (cs : List S1), (∀ x ∈ l, ev fr x.2 = ev fr' x.2) → sFill pl fr l cs = sFill pl fr' l cs
  | [], _, _ => rfl
  | (j, x) :: l, cs, h => by
    have hx := h (j, x) (List.mem_cons_self ..)
    simp only at hx
    simp only [sFill, hx, sFill_fr pl l _ fun y hy => h y (List.mem_cons_of_mem _ hy)]

theorem sCall_fr {c : Call} (h : ∀ x ∈ c.operands.toList, ev fr x = ev fr' x) : sCall P Cs ob nx fr c = sCall P Cs ob nx fr' c := by
  have ha : ∀ x ∈ c.args.toList, ev fr x = ev fr' x := fun x hx => h x (by simp [Call.operands, Array.toList_append]; exact .inr (by simpa using hx))
  have hf : ∀ f, c.callee = .value f → ev fr f = ev fr' f := fun f hf => h f (by simp [Call.operands, hf])
  obtain ⟨callee, args, at'⟩ := c
  simp only at ha hf
  cases callee with
  | value f =>
    simp only [sCall, hf f rfl, pkVs_fr _ ha, pkPs_fr _ ha]
  | invoke r s => rfl
  | builtin b =>
    simp only [sCall]
    generalize args.toList = l at ha
    match l, ha with
    | [], _ => cases b <;> rfl
    | [x], ha => have h1 := ha x (by simp); cases b <;> first | rfl | (cases at'.toList <;> first | rfl | simp only [h1])
    | [x, y], ha =>
      have h1 := ha x (by simp)
      have h2 := ha y (by simp)
      generalize at'.toList = tl
      cases b <;> first | rfl | (simp only [h1, h2]; done) | (rcases tl with _ | ⟨t, _ | ⟨t', _ | ⟨t3, tl⟩⟩⟩ <;> first | rfl | simp only [h1, h2])
    | _ :: _ :: _ :: _, _ => cases b <;> rfl

theorem stepU_fr {op : Op} (h : ∀ x ∈ op.operands.toList, ev fr x = ev fr' x) : stepU P Cs ob nx fr op = stepU P Cs ob nx fr' op := by
  cases op
  case call c => exact sCall_fr h
  case makeFunc f first caps =>
    cases f <;> try rfl
    rename_i f
    simp only [stepU]
    rw [capsOf_fr _ fun x hx => h x (by simp [Op.operands]; exact .inr (by simpa using hx))]
  case slice t x lo hi mx =>
    cases mx <;> try rfl
    have h1 := h x (by simp [Op.operands])
    cases lo <;> cases hi <;> simp [Op.operands] at h <;> simp [stepU, pkPs, h]
  case buildSlice t n ps =>
    have hp : ∀ x ∈ ps.toList, ev fr x.2 = ev fr' x.2 := fun x hx => h x.2 (by simp [Op.operands]; exact ⟨x.1, by simpa using hx⟩)
    simp only [stepU]
    split
    · rw [sParts_fr _ _ _ hp, idsParts_fr _ hp]
    · rfl
  case build t ps =>
    have hp : ∀ x ∈ ps.toList, ev fr x.2 = ev fr' x.2 := fun x hx => h x.2 (by simp [Op.operands]; exact ⟨x.1, by simpa using hx⟩)
    simp only [stepU]
    split
    · rw [sFill_fr _ _ _ hp]
    · rfl
  all_goals try rfl
  all_goals
    simp [Op.operands] at h
    simp only [stepU, h]

/-! ### The objects -/
theorem idsV_pk (v : SV) : idsV (pkV v) = idsV v := by
  induction v with
  | gd g x ih => exact ih
  | _ => rfl

theorem ids_sub : ∀ (l : List S1), ∀ i ∈ ids l, i ∈ ids1 l
  | [], i, h => by cases h
  | x :: l, i, h => by
    cases x <;> simp only [ids, ids1] at h ⊢
    case sub o lo hi =>
      rcases List.mem_cons.1 h with e | h
      · subst e; exact List.mem_cons_self ..
      · exact List.mem_cons_of_mem _ (ids_sub l i h)
    case pb => exact List.mem_cons_of_mem _ (ids_sub l i h)
    case pe => exact List.mem_cons_of_mem _ (ids_sub l i h)
    case fn => exact List.mem_append_right _ (ids_sub l i h)
    case yl => exact List.mem_cons_of_mem _ (ids_sub l i h)
    all_goals exact ids_sub l i h

theorem cells_ids (v : SV) : ∀ i ∈ ids1 v.cells, i ∈ idsV v := by
  cases v <;> intro i h
  case s x => exact h
  case agg l => exact h
  all_goals cases h

theorem freeze_ob : ∀ (l : List Nat), (∀ i ∈ l, ob i = ob' i) → freeze ob l = freeze ob' l
  | [], _ => rfl
  | o :: l, h => by simp only [freeze, h o (List.mem_cons_self ..), freeze_ob l fun y hy => h y (List.mem_cons_of_mem _ hy)]

theorem rdS_rest : ∀ (t : Ty) (l : List S1) (x : t.den) (r : List S1), rdS ob t l = some (x, r) → ∀ i ∈ ids1 r, i ∈ ids1 l := by
  intro t
  induction t with
  | pair a b iha ihb =>
    intro l x r h i hi
    simp only [rdS] at h
    split at h
    · rename_i y l' h1
      split at h
      · rename_i z l'' h2
        cases h
        exact iha _ _ _ h1 i (ihb _ _ _ h2 i hi)
      · cases h
    · cases h
  | unit => intro l x r h i hi; simp only [rdS] at h; cases h; exact hi
  | _ =>
    intro l x r h i hi
    cases l with
    | nil => simp [rdS] at h
    | cons y l =>
      have hsub : ∀ i, i ∈ ids1 l → i ∈ ids1 (y :: l) := by
        intro i hi
        cases y <;> simp only [ids1] <;> first | exact hi | exact List.mem_cons_of_mem _ hi | exact List.mem_append_right _ hi
      have : r = l := by
        cases y <;> first
          | (simp only [rdS, cond_eq_ite] at h <;> (repeat' (split at h)) <;> first | (cases h; done) | (cases h; rfl))
          | (rename_i f caps; cases caps <;> simp only [rdS] at h <;> first | (cases h; done) | (cases h; rfl))
      rw [this] at hi
      exact hsub i hi

theorem rdS_ob : ∀ (t : Ty) (l : List S1), (∀ i ∈ ids1 l, ob i = ob' i) → rdS ob t l = rdS ob' t l := by
  intro t
  induction t with
  | pair a b iha ihb =>
    intro l h
    simp only [rdS]
    rw [iha l h]
    split
    · rename_i y l' h1
      rw [ihb l' fun i hi => h i (rdS_rest _ _ _ _ h1 i hi)]
    · rfl
  | slice z e _ =>
    intro l h
    cases l with
    | nil => rfl
    | cons y l =>
      cases y <;> try rfl
      rename_i o lo hi
      simp only [rdS, h o (List.mem_cons_self ..)]
  | _ => intro l h; cases l <;> first | rfl | (rename_i y l; cases y <;> first | rfl | (rename_i f caps; cases caps <;> rfl))

theorem sLoad_ob (agg : Bool) (n : Nat) (v : SV) (h : ∀ i ∈ idsV v, ob i = ob' i) : sLoad ob agg n v = sLoad ob' agg n v := by
  cases v <;> try rfl
  rename_i x
  cases x <;> try rfl
  all_goals simp only [idsV, ids1, List.mem_cons, List.not_mem_nil, or_false, forall_eq] at h
  all_goals simp only [sLoad, h]

theorem sStore_ob (n : Nat) (vs : List S1) (v : SV) (h : ∀ i ∈ idsV v, ob i = ob' i) (h2 : ∀ i ∈ ids1 vs, ob i = ob' i) : sStore ob n vs v = sStore ob' n vs v := by
  cases v <;> try rfl
  rename_i x
  cases x <;> try rfl
  case pb o off =>
    simp only [idsV, ids1, List.mem_cons, List.not_mem_nil, or_false, forall_eq] at h
    simp only [sStore, h]
  case pe o i off =>
    simp only [idsV, ids1, List.mem_cons, List.not_mem_nil, or_false, forall_eq] at h
    simp only [sStore, h]
    cases ho : ob' o with
    | dead => rfl
    | box cs => rfl
    | lp s fr ps a b pd => rfl
    | arr fz z e xs =>
      cases fz
      · have hl : ∀ j ∈ ids1 (lay (cellsS e (xs.getD i e.zero)) off vs), ob j = ob' j := by
          intro j hj
          have key : ∀ (cs : List S1) (off : Nat) (ws : List S1), (∀ j ∈ ids1 cs, ob j = ob' j) → (∀ j ∈ ids1 ws, ob j = ob' j) → ∀ j ∈ ids1 (lay cs off ws), ob j = ob' j := by
            intro cs
            have ids1_cons : ∀ (y : S1) (l : List S1) j, j ∈ ids1 (y :: l) ↔ j ∈ ids1 [y] ∨ j ∈ ids1 l := by
              intro y l j
              cases y <;> simp [ids1]
            induction cs with
            | nil => intro off ws h1 h2 j hj; cases ws <;> simp [lay, ids1] at hj
            | cons y cs ih =>
              intro off ws h1 h2 j hj
              cases ws with
              | nil => simp only [lay] at hj; exact h1 j hj
              | cons w ws =>
                cases off with
                | zero =>
                  simp only [lay] at hj
                  rcases (ids1_cons _ _ _).1 hj with hj | hj
                  · exact h2 j ((ids1_cons _ _ _).2 (.inl hj))
                  · exact ih 0 ws (fun j hj => h1 j ((ids1_cons _ _ _).2 (.inr hj))) (fun j hj => h2 j ((ids1_cons _ _ _).2 (.inr hj))) j hj
                | succ off =>
                  simp only [lay] at hj
                  rcases (ids1_cons _ _ _).1 hj with hj | hj
                  · exact h1 j ((ids1_cons _ _ _).2 (.inl hj))
                  · exact ih off (w :: ws) (fun j hj => h1 j ((ids1_cons _ _ _).2 (.inr hj))) h2 j hj
          refine key _ _ _ ?_ h2 j hj
          have cl : ∀ (t : Ty) (x : t.den), ids1 (cellsS t x) = [] := by
            intro t
            induction t with
            | pair a b iha ihb =>
              intro x
              have app : ∀ l m : List S1, ids1 (l ++ m) = ids1 l ++ ids1 m := by
                intro l m
                induction l with
                | nil => rfl
                | cons y l ih => cases y <;> simp [ids1, ih]
              simp [cellsS, app, iha, ihb]
            | _ => intro x; rfl
          intro j hj
          rw [cl] at hj; cases hj
        simp only [rdS_ob _ _ hl, freeze_ob _ fun j hj => h2 j (ids_sub _ j hj)]
      · rfl

theorem sIndex_ob (t : TypeId) (i : Int) (v : SV) (h : ∀ i ∈ idsV v, ob i = ob' i) : sIndex P ob t i v = sIndex P ob' t i v := by
  cases v <;> try rfl
  rename_i x
  cases x <;> try rfl
  case sub o l k =>
    simp only [idsV, ids1, List.mem_cons, List.not_mem_nil, or_false, forall_eq] at h
    simp only [sIndex, h]
  case ro t x => cases t <;> rfl

theorem nilB_ob (x : S1) (h : ∀ i ∈ ids1 [x], ob i = ob' i) : nilB ob x = nilB ob' x := by
  cases x <;> try rfl
  case sub o l k =>
    simp only [ids1, List.mem_cons, List.not_mem_nil, or_false, forall_eq] at h
    simp only [nilB, h]
  case ro t x => cases t <;> rfl

theorem ptrB_ob (x : S1) (h : ∀ i ∈ ids1 [x], ob i = ob' i) : ptrB ob x = ptrB ob' x := by
  cases x <;> try rfl
  case pb o l =>
    simp only [ids1, List.mem_cons, List.not_mem_nil, or_false, forall_eq] at h
    simp only [ptrB, h]
  case pe o l k =>
    simp only [ids1, List.mem_cons, List.not_mem_nil, or_false, forall_eq] at h
    simp only [ptrB, h]
  case val v => cases v <;> rfl

theorem sConv_ob (src dst : TypeId) (x : SV) (h : ∀ i ∈ idsV x, ob i = ob' i) : sConv P ob src dst x = sConv P ob' src dst x := by
  cases x <;> try rfl
  rename_i y
  have e : ∀ z, sList ob z (.int .u8) (.s y) = sList ob' z (.int .u8) (.s y) := fun z => by simp only [sList, rdS_ob _ [y] h]
  cases y <;> try rfl
  all_goals simp only [sConv, e]

theorem sNil_ob (op : BinOp) (t : TypeId) (v y : SV) (h : ∀ i ∈ idsV v, ob i = ob' i) : sNil P ob op t v y = sNil P ob' op t v y := by
  cases v <;> try rfl
  rename_i x
  have e := nilB_ob x h
  have e2 := ptrB_ob x h
  cases y <;> try rfl
  rename_i y
  cases y <;> try rfl
  · cases x <;> simp only [sNil, e]
  · rename_i v
    cases v <;> try (cases x <;> rfl)
    rename_i q
    cases q
    · cases x <;> simp only [sNil, e2]
    · cases x <;> rfl

theorem sSlice_ob (t : TypeId) (lo hi : Option SV) (v : SV) (h : ∀ i ∈ idsV v, ob i = ob' i) : sSlice P ob t lo hi v = sSlice P ob' t lo hi v := by
  cases v <;> try rfl
  rename_i x
  cases x <;> try rfl
  case sub o l k =>
    simp only [idsV, ids1, List.mem_cons, List.not_mem_nil, or_false, forall_eq] at h
    simp only [sSlice, h]
  case ro t x => cases t <;> rfl

theorem sLen_ob (t : TypeId) (v : SV) (h : ∀ i ∈ idsV v, ob i = ob' i) : sLen P ob t v = sLen P ob' t v := by
  cases v <;> try rfl
  rename_i x
  cases x <;> try rfl
  case sub o l k =>
    simp only [idsV, ids1, List.mem_cons, List.not_mem_nil, or_false, forall_eq] at h
    simp only [sLen, h]
  case ro t x => cases t <;> rfl

theorem sAppend_ob (t : TypeId) (s x : SV) (h : ∀ i ∈ idsV s, ob i = ob' i) (h2 : ∀ i ∈ idsV x, ob i = ob' i) : sAppend P ob nx t s x = sAppend P ob' nx t s x := by
  unfold sAppend
  split
  · rename_i e z _
    have h3 : sOwn ob z e s = sOwn ob' z e s := by
      cases s <;> try rfl
      rename_i y
      cases y <;> try rfl
      simp only [idsV, ids1, List.mem_cons, List.not_mem_nil, or_false, forall_eq] at h
      simp only [sOwn, h]
    have h4 : sList ob z e x = sList ob' z e x := by
      cases x <;> try rfl
      rename_i y
      simp only [sList, rdS_ob _ [y] h2]
    rw [h3, h4, freeze_ob _ fun j hj => h2 j (cells_ids x j (ids_sub _ j hj))]
  · rfl

theorem sArgs_ob : ∀ (as : List (Bool × Ty)) (xs : List SV), (∀ x ∈ xs, ∀ i ∈ idsV x, ob i = ob' i) → sArgs ob as xs = sArgs ob' as xs
  | [], [], _ => rfl
  | [], _ :: _, _ => rfl
  | _ :: _, [], _ => rfl
  | (b, t) :: as, x :: xs, h => by
    simp only [sArgs, rdS_ob t x.cells fun i hi => h x (List.mem_cons_self ..) i (cells_ids x i hi), sArgs_ob as xs fun y hy => h y (List.mem_cons_of_mem _ hy)]

theorem idsO_mem {l : List Operand} {x : Operand} (hx : x ∈ l) {i : Nat} (hi : i ∈ idsV (ev fr x)) : i ∈ idsO fr l := by
  induction l with
  | nil => cases hx
  | cons y l ih =>
    rcases List.mem_cons.1 hx with e | h
    · subst e; exact List.mem_append_left _ hi
    · exact List.mem_append_right _ (ih h)

theorem pkVs_mem : ∀ {l : List Operand} {y : SV}, y ∈ pkVs fr l → ∃ x ∈ l, y = pkV (ev fr x)
  | x :: l, y, h => by
    rcases List.mem_cons.1 h with e | h
    · exact ⟨x, List.mem_cons_self .., e⟩
    · obtain ⟨z, h1, h2⟩ := pkVs_mem h
      exact ⟨z, List.mem_cons_of_mem _ h1, h2⟩

theorem allIds_mem : ∀ {l : List SV} {i : Nat}, i ∈ allIds l → ∃ y ∈ l, i ∈ ids1 y.cells
  | x :: l, i, h => by
    rcases List.mem_append.1 h with h | h
    · exact ⟨x, List.mem_cons_self .., ids_sub _ i h⟩
    · obtain ⟨y, h1, h2⟩ := allIds_mem h
      exact ⟨y, List.mem_cons_of_mem _ h1, h2⟩

theorem sCall_ob {c : Call} (h : ∀ x ∈ c.operands.toList, ∀ i ∈ idsV (ev fr x), ob i = ob' i) : sCall P Cs ob nx fr c = sCall P Cs ob' nx fr c := by
  have ha : ∀ x ∈ c.args.toList, ∀ i ∈ idsV (pkV (ev fr x)), ob i = ob' i := fun x hx => by
    rw [idsV_pk]
    exact h x (by simp [Call.operands, Array.toList_append]; exact .inr (by simpa using hx))
  obtain ⟨callee, args, at'⟩ := c
  simp only at ha
  cases callee with
  | value f =>
    have h1 : ∀ as, sArgs ob as (pkVs fr args.toList) = sArgs ob' as (pkVs fr args.toList) := fun as => sArgs_ob as _ fun y hy => by
      obtain ⟨x, hx, e⟩ := pkVs_mem hy
      rw [e]; exact ha x hx
    have h2 : freeze ob (allIds (pkVs fr args.toList)) = freeze ob' (allIds (pkVs fr args.toList)) := freeze_ob _ fun i hi => by
      obtain ⟨y, hy, hi⟩ := allIds_mem hi
      obtain ⟨x, hx, e⟩ := pkVs_mem hy
      exact ha x hx i (by rw [← e]; exact cells_ids y i hi)
    simp only [sCall, h1, h2]
  | invoke r s => rfl
  | builtin b =>
    simp only [sCall]
    generalize args.toList = l at ha
    match l, ha with
    | [], _ => cases b <;> rfl
    | [x], ha =>
      cases b <;> try rfl
      cases at'.toList <;> try rfl
      simp only [sLen_ob _ _ (ha x (by simp))]
    | [x, y], ha =>
      cases b <;> try rfl
      generalize at'.toList = tl
      match tl with
      | [] => rfl
      | [_] => rfl
      | [t, t'] => simp only [sAppend_ob t _ _ (ha x (by simp)) (ha y (by simp))]
      | _ :: _ :: _ :: _ => rfl
    | _ :: _ :: _ :: _, _ => cases b <;> rfl

theorem boxes_ob : ∀ (l : List (Nat × Nat)), (∀ i ∈ l.map (·.1), ob i = ob' i) → boxes ob l = boxes ob' l
  | [], _ => rfl
  | (o, f) :: l, h => by
    simp only [boxes, h o (by simp), boxes_ob l fun i hi => h i (List.mem_cons_of_mem _ hi)]

theorem capsOf_ids : ∀ {l : List Operand} {cs : List (Nat × Nat)}, capsOf fr l = some cs → ∀ i ∈ cs.map (·.1), ∃ x ∈ l, i ∈ idsV (ev fr x)
  | [], cs, h, i, hi => by cases h; cases hi
  | x :: l, cs, h, i, hi => by
    simp only [capsOf] at h
    split at h
    · rename_i o off r h1 h2
      cases h
      rcases List.mem_cons.1 hi with e | hi
      · exact ⟨x, List.mem_cons_self .., by rw [h1, e]; simp [idsV, ids1]⟩
      · obtain ⟨y, k1, k2⟩ := capsOf_ids h2 i hi
        exact ⟨y, List.mem_cons_of_mem _ k1, k2⟩
    · cases h

theorem sParts_ob (e : Ty) : ∀ (l : List (Nat × Operand)) (i : Nat), (∀ x ∈ l, ∀ i ∈ idsV (ev fr x.2), ob i = ob' i) → sParts ob e fr l i = sParts ob' e fr l i
  | [], _, _ => rfl
  | (j, x) :: l, i, h => by
    have hx := h (j, x) (List.mem_cons_self ..)
    simp only [sParts, rdS_ob _ _ fun i hi => hx i (cells_ids _ i hi), sParts_ob e l (i + 1) fun y hy => h y (List.mem_cons_of_mem _ hy)]

theorem idsParts_mem : ∀ {l : List (Nat × Operand)} {i : Nat}, i ∈ idsParts fr l → ∃ x ∈ l, i ∈ idsV (ev fr x.2)
  | (j, x) :: l, i, h => by
    rcases List.mem_append.1 h with h | h
    · exact ⟨(j, x), List.mem_cons_self .., cells_ids _ i (ids_sub _ i h)⟩
    · obtain ⟨y, h1, h2⟩ := idsParts_mem h
      exact ⟨y, List.mem_cons_of_mem _ h1, h2⟩

theorem stepU_ob {op : Op} (h : obFree op = false → ∀ i ∈ idsO fr op.operands.toList, ob i = ob' i) : stepU P Cs ob nx fr op = stepU P Cs ob' nx fr op := by
  have hV : obFree op = false → ∀ x ∈ op.operands.toList, ∀ i ∈ idsV (pkV (ev fr x)), ob i = ob' i := fun hf x hx i hi => h hf i (idsO_mem hx (by rw [idsV_pk] at hi; exact hi))
  cases op
  case call c => exact sCall_ob fun x hx i hi => h rfl i (idsO_mem hx hi)
  case makeFunc f first caps =>
    cases f <;> try rfl
    rename_i f
    simp only [stepU]
    split
    · rename_i l _ hc
      rw [boxes_ob l fun i hi => by
        obtain ⟨x, h1, h2⟩ := capsOf_ids hc i hi
        exact h rfl i (idsO_mem (by simp [Op.operands]; exact .inr (by simpa using h1)) h2)]
    · rfl
  case slice t x lo hi mx =>
    cases mx <;> try rfl
    simp only [stepU, sSlice_ob t _ _ _ (hV rfl x (by simp [Op.operands]))]
  case buildSlice t n ps =>
    have hp : ∀ x ∈ ps.toList, ∀ i ∈ idsV (ev fr x.2), ob i = ob' i := fun x hx i hi => h rfl i (idsO_mem (x := x.2) (by simp [Op.operands]; exact ⟨x.1, by simpa using hx⟩) hi)
    simp only [stepU]
    split
    · rw [sParts_ob _ _ _ hp, freeze_ob _ fun i hi => by
        obtain ⟨x, h1, h2⟩ := idsParts_mem hi
        exact hp x h1 i h2]
    · rfl
  case convert src dst x => simp only [stepU, sConv_ob src dst _ (hV rfl x (by simp [Op.operands]))]
  case load t a => simp only [stepU, sLoad_ob _ _ _ (hV rfl a (by simp [Op.operands]))]
  case store t a v => simp only [stepU, sStore_ob _ _ _ (hV rfl a (by simp [Op.operands])) fun i hi => hV rfl v (by simp [Op.operands]) i (cells_ids _ i hi)]
  case indexAddr t x i => simp only [stepU, sIndex_ob t _ _ (hV rfl x (by simp [Op.operands]))]
  case fieldAddr t x f =>
    have hx := hV rfl x (by simp [Op.operands])
    simp only [stepU]
    split
    · split
      · rename_i hv; rw [hv] at hx; simp only [hx _ (List.mem_cons_self ..)]
      · rename_i hv; rw [hv] at hx; simp only [hx _ (List.mem_cons_self ..)]
      · rfl
      · rfl
    · rfl
  case nilCheck x =>
    have hx := hV rfl x (by simp [Op.operands])
    simp only [stepU]
    split
    · rename_i hv; rw [hv] at hx; simp only [hx _ (List.mem_cons_self ..)]
    · rename_i hv; rw [hv] at hx; simp only [hx _ (List.mem_cons_self ..)]
    · rfl
    · rfl
    · rfl
  case binOp op t x y t' =>
    have hx := hV rfl x (by simp [Op.operands])
    simp only [stepU]
    rw [sNil_ob op t _ _ hx]
  all_goals rfl

end
end Go.Proofs.YtdepbfgnmliggaaGreatDoor.Sx
