/- The symbolic run holds of the machine. -/
import Derived.Test.YtdepbfgnmliggaaGreatDoorSx18
import Derived.Scope
import Derived.TacticsIn
import Derived.OrdersIn
import Derived.RangeFuncIn
import Derived.RangeFuncLeaves
import Derived.RangeFuncRecord
namespace Go.Proofs.YtdepbfgnmliggaaGreatDoor.Sx
set_option linter.unusedSimpArgs false
set_option linter.unusedVariables false

/-- The fence in which a frame runs: none but for the round that it belongs to. -/
def Fr (r : Option (Nat × Nat)) : Fence := match r with
  | none => Fence.wide
  | some (_, l) => Fence.wide.inRound l
theorem Fr_fn {r : Option (Nat × Nat)} {f : FuncId} : (Fr r).fn f := by cases r <;> trivial
theorem Fr_depth {r : Option (Nat × Nat)} : (Fr r).depth = none := by cases r <;> rfl
theorem Fr_room {r : Option (Nat × Nat)} {n : Nat} : (Fr r).room n := fun d hd => by rw [Fr_depth] at hd; cases hd
theorem Fr_n {r : Option (Nat × Nat)} {n : Nat} : (Fr r).depth.isSome = true → 1 ≤ n := by rw [Fr_depth]; exact fun h => by cases h
theorem Fr_fenced {P : Program} {r : Option (Nat × Nat)} {m : Machine} : m.fenced P (Fr r) := by cases r <;> exact fenced_wide P m

theorem comesIn_fr {P : Program} {r : Option (Nat × Nat)} {m m' : Machine} {e : Ending} : ComesIn (Machine.fenced P (Fr r)) P m m' e ↔ Comes P m m' e := by
  cases r <;> exact comesIn_wide
theorem callsIn_fr {P : Program} {r : Option (Nat × Nat)} {n : Nat} {f : FuncId} {args : Array Value} {w : World} {R : Ending → World → Prop} : CallsIn (Fr r) n P f args w R ↔ Calls P f args w R := by
  cases r <;> exact callsIn_wide
theorem rowsIn_fr {P : Program} {r : Option (Nat × Nat)} {n : Nat} {row : String} {args : Array Value} {w : World} {R : Value → World → Prop} (h : Rows P row args w R) : RowsIn (Fr r) n P row args w R := fun c cs _ => by
  obtain ⟨v, w', h1, h2⟩ := h c cs
  exact ⟨v, w', h1, (StepsIn.of_steps h2).mono fun _ _ => Fr_fenced⟩

/-- What holds of an operation holds of it in any round, but for a deferred call. -/
theorem op_in {P : Program} {r : Option (Nat × Nat)} {o : Oper} {a : Act} {w : World} {K : Act → World → Prop} {Q : Exit → Act → World → Prop} (hd : ∀ c, o.op ≠ .defer c) (h : o.wp P a w K Q) : o.wpIn (Fr r) 0 P a w K Q := by
  unfold Oper.wp at h
  refine ⟨fun _ _ => Fr_fn, ?_⟩
  have e : o.semAt (Fr r).round a.eval = execOp a.eval o := by
    cases r with
    | none => exact Oper.semAt_none ..
    | some p => exact Oper.semAt_some _ _ _ hd
  rw [e]
  generalize (execOp a.eval o).run P w = x at *
  cases x with
  | ok x w' => cases x with
    | value v => exact h
    | skip => exact h
    | defer d => exact h
    | enter f args => exact ⟨Fr_n, callsIn_fr.2 h⟩
    | row row args => exact ⟨Fr_n, rowsIn_fr h⟩
    | _ => exact h.elim
  | halt x w' => cases x <;> exact h

/-- The marks of the loops that the frame has begun. -/
def Marks (G : Ctx) (w : World) (ds : List Deferred) : Prop := ∃ bs : List Nat, ds = bs.map (fun b => { target := .collected b, args := #[] }) ∧ (bs ++ G.mrk).Nodup ∧ ∀ b ∈ bs, G.w0.heap.size ≤ b ∧ w.heap[b]? = some (.deferred (some []))
theorem Marks.evo {G : Ctx} {E E' : Env} {w w' : World} {ds : List Deferred} (m : Marks G w ds) (h : Evo E E' w w') : Marks G w' ds := by
  obtain ⟨bs, e, hn, hb⟩ := m
  exact ⟨bs, e, hn, fun b hm => ⟨(hb b hm).1, h.oth b _ (hb b hm).2⟩⟩

structure Conc (P : Program) (G : Ctx) (st : St) (E : Env) (a : Act) (w : World) : Prop where
  pre : Pre P G E w st.hp st.fr a
  born : ∀ i, E.born i → i < st.nx
  len : a.tmps.size = st.fr.length
  dfr : Marks G w a.defers
  rd : ∀ p, G.rd = some p → p ∈ G.rds

/-- Code as it is walked in the frame's round. -/
abbrev cwp (P : Program) (G : Ctx) (c : Code) (Q : Exit → Act → World → Prop) (a : Act) (w : World) : Prop := c.wpIn (Fr G.rd) 0 P Q a w

/-- With an item x of its own behind the code c. -/
def BehW (P : Program) (G : Ctx) (x : Item) (c : Code) (Q : Exit → Act → World → Prop) (a : Act) (w : World) : Prop :=
  ∀ (b : Frame) (k : List Item) (cs : List Frame), b.roundOf = (Fr G.rd).round → ∃ e a' w', Q e a' w' ∧ ArrivesIn (Machine.fenced P (Fr G.rd)) P (lone (b.atR a (.code c :: x :: k)) cs w) b k cs e a' w'

/-- At a loop's head, behind its test's jump. -/
abbrev LoopW (P : Program) (G : Ctx) (c : Code) (Q : Exit → Act → World → Prop) (a : Act) (w : World) : Prop := BehW P G (.inLoop c) c Q a w

theorem LoopW.round {P : Program} {G : Ctx} {c : Code} {Q : Exit → Act → World → Prop} {a : Act} {w : World} (h : cwp P G c (Exit.then (LoopW P G c Q) Q) a w) : LoopW P G c Q a w := by
  intro b k cs hro
  obtain ⟨e, a₁, w₁, hq, harr⟩ := h b (.inLoop c :: k) cs hro Fr_fn Fr_room
  cases e with
  | normal =>
    obtain ⟨e₂, a₂, w₂, hq₂, harr₂⟩ := hq b k cs hro
    exact ⟨e₂, a₂, w₂, hq₂, .of_steps (StepsIn.trans harr (.one Fr_fenced stepR_inLoop)) harr₂⟩
  | exit id => exact ⟨_, a₁, w₁, hq, .pass (x := .inLoop c) rfl (fun _ _ => .inl (by simp)) harr⟩
  | goto l => exact ⟨_, a₁, w₁, hq, .pass (x := .inLoop c) rfl (fun _ _ => .inl (by simp)) harr⟩
  | ret => exact ⟨_, a₁, w₁, hq, .pass (x := .inLoop c) rfl (fun _ _ => .inl (by simp)) harr⟩
  | panic ch => exact ⟨_, a₁, w₁, hq, .pass (x := .inLoop c) rfl (fun _ _ => .inl (by simp)) harr⟩
  | outgrown => exact ⟨_, a₁, w₁, hq, .pass (x := .inLoop c) rfl (fun _ _ => .inl (by simp)) harr⟩

theorem LoopW.loop {P : Program} {G : Ctx} {c : Code} {Q : Exit → Act → World → Prop} {a : Act} {w : World} (h : LoopW P G c Q a w) : cwp P G (.loop c) Q a w := by
  intro b k cs hro _ _
  obtain ⟨e, a', w', hq, harr⟩ := h b k cs hro
  exact ⟨e, a', w', hq, .of_steps (.one Fr_fenced stepR_loop) harr⟩

theorem stepR_scope' {P : Program} {b : Frame} {a : Act} {k : List Item} {cs : List Frame} {w : World} {c : Code} : step P (lone (b.atR a (.code (.scope c) :: k)) cs w) = .next (lone (b.atR a (.code c :: .inScope c :: k)) cs w) :=
  step_lone_go (by simp [stepG, stepG.exec, Frame.atR])
theorem stepR_inScope' {P : Program} {b : Frame} {a : Act} {k : List Item} {cs : List Frame} {w : World} {c : Code} : step P (lone (b.atR a (.inScope c :: k)) cs w) = .next (lone (b.atR a k) cs w) :=
  step_lone_go (by simp [stepG, stepG.exec, Frame.atR])

/-- What is owed behind the code c of a scope, by the way in which it is left. -/
def scpQ (P : Program) (G : Ctx) (c : Code) (Q : Exit → Act → World → Prop) : Exit → Act → World → Prop
  | .goto l, a, w => match findLabel c l with
    | some rest => BehW P G (.inScope c) rest Q a w
    | none => Q (.goto l) a w
  | e, a, w => Q e a w

theorem ScW.of {P : Program} {G : Ctx} {x c : Code} {Q : Exit → Act → World → Prop} {a : Act} {w : World} (h : cwp P G x (scpQ P G c Q) a w) : BehW P G (.inScope c) x Q a w := by
  intro b k cs hro
  obtain ⟨e, a₁, w₁, hq, harr⟩ := h b (.inScope c :: k) cs hro Fr_fn Fr_room
  cases e with
  | normal => exact ⟨.normal, a₁, w₁, hq, StepsIn.trans harr (.one Fr_fenced stepR_inScope')⟩
  | exit id => exact ⟨.exit id, a₁, w₁, hq, fun k' hk => harr.1 k' (by simp [exitTo, hk]), fun hr hk => harr.2 hr (by simp [exitTo, hk])⟩
  | goto l =>
    cases hf : findLabel c l with
    | some rest =>
      have hq : BehW P G (.inScope c) rest Q a₁ w₁ := by simpa only [scpQ, hf] using hq
      obtain ⟨e₂, a₂, w₂, hq₂, harr₂⟩ := hq b k cs hro
      exact ⟨e₂, a₂, w₂, hq₂, .of_steps (harr.1 _ (by simp [gotoIn, hf])) harr₂⟩
    | none =>
      have hq : Q (.goto l) a₁ w₁ := by simpa only [scpQ, hf] using hq
      exact ⟨.goto l, a₁, w₁, hq, fun k' hk => harr.1 k' (by simp [gotoIn, hf, hk]), fun hr hk => harr.2 hr (by simp [gotoIn, hf, hk])⟩
  | ret => exact ⟨_, a₁, w₁, hq, harr⟩
  | panic ch => exact ⟨_, a₁, w₁, hq, harr⟩
  | outgrown => exact ⟨_, a₁, w₁, hq, harr⟩

theorem ScW.scope {P : Program} {G : Ctx} {c : Code} {Q : Exit → Act → World → Prop} {a : Act} {w : World} (h : BehW P G (.inScope c) c Q a w) : cwp P G (.scope c) Q a w := by
  intro b k cs hro _ _
  obtain ⟨e, a', w', hq, harr⟩ := h b k cs hro
  exact ⟨e, a', w', hq, .of_steps (.one Fr_fenced stepR_scope') harr⟩

/-- What is owed where a stack of code is left in some way. -/
def kont (P : Program) (G : Ctx) (B : Exit → Act → World → Prop) : List It → Exit → Act → World → Prop
  | [], e, a, w => B e a w
  | .c c :: k, e, a, w => match e with
    | .normal => cwp P G c (kont P G B k) a w
    | e => kont P G B k e a w
  | .ops all l :: k, e, a, w => match e with
    | .normal => wpListIn (Fr G.rd) 0 P all.toArray (kont P G B k) l a w
    | e => kont P G B k e a w
  | .blk id :: k, e, a, w => match e with
    | .exit id' => if id' = id then kont P G B k .normal a w else kont P G B k (.exit id') a w
    | e => kont P G B k e a w
  | .fin J :: k, e, a, w => match e with
    | .normal => ∃ st E, Conc P G st E a w ∧ J st
    | e => kont P G B k e a w
  | .scp c :: k, e, a, w => scpQ P G c (kont P G B k) e a w
  | .lp c :: k, e, a, w => match e with
    | .normal => LoopW P G c (kont P G B k) a w
    | e => kont P G B k e a w
  | .beg o :: k, e, a, w => match e with
    | .normal => ∀ l, G.rd = some (o, l) → ∃ w', (Instr.beginRound l).run P w = .ok () w' ∧ kont P G B k .normal a w'
    | _ => False
  | .rnd X :: _, e, a, w => ∃ st E, Conc P G st E a w ∧ X e st

def Ok (P : Program) (G : Ctx) (B : Exit → Act → World → Prop) (k : List It) (st : St) : Prop := ∀ E a w, Conc P G st E a w → kont P G B k .normal a w

theorem kont_ret {P : Program} {G : Ctx} {B : Exit → Act → World → Prop} {a : Act} {w : World} : ∀ (k : List It), (∀ X, rndK k = some X → ∃ st E, Conc P G st E a w ∧ X .ret st) → (rndK k = none → B .ret a w) → kont P G B k .ret a w
  | [], _, h => h rfl
  | .c _ :: k, h1, h2 => kont_ret k h1 h2
  | .ops _ _ :: k, h1, h2 => kont_ret k h1 h2
  | .blk _ :: k, h1, h2 => kont_ret k h1 h2
  | .fin _ :: k, h1, h2 => kont_ret k h1 h2
  | .scp _ :: k, h1, h2 => kont_ret k h1 h2
  | .lp _ :: k, h1, h2 => kont_ret k h1 h2
  | .beg _ :: k, h1, _ => (h1 noX rfl).elim fun _ h => h.elim fun _ h => h.2
  | .rnd X :: _, h1, _ => h1 X rfl

theorem kont_jump {P : Program} {G : Ctx} {B : Exit → Act → World → Prop} {id : Nat} : ∀ (k k' : List It) (a : Act) (w : World), jump id k = some k' → kont P G B k' .normal a w → kont P G B k (.exit id) a w
  | [], _, _, _, h, _ => by cases h
  | .c _ :: k, k', a, w, h, hk => kont_jump k k' a w h hk
  | .ops _ _ :: k, k', a, w, h, hk => kont_jump k k' a w h hk
  | .fin _ :: k, k', a, w, h, hk => kont_jump k k' a w h hk
  | .scp _ :: k, k', a, w, h, hk => kont_jump k k' a w h hk
  | .lp _ :: k, k', a, w, h, hk => kont_jump k k' a w h hk
  | .beg _ :: _, _, _, _, h, _ => by cases h
  | .rnd _ :: _, _, _, _, h, _ => by cases h
  | .blk id' :: k, k', a, w, h, hk => by
    simp only [jump] at h
    show if id = id' then kont P G B k .normal a w else kont P G B k (.exit id) a w
    cases hb : id' == id <;> rw [hb] at h <;> simp only [cond_true, cond_false] at h
    · have hne : id ≠ id' := by simpa using Ne.symm (by simpa using hb)
      rw [if_neg hne]
      exact kont_jump k k' a w h hk
    · have e : id = id' := by simpa using (show id' = id by simpa using hb).symm
      cases h
      rw [if_pos e]; exact hk

theorem kont_exit {P : Program} {G : Ctx} {B : Exit → Act → World → Prop} {id : Nat} {a : Act} {w : World} : ∀ (k : List It) (X : Exit → St → Prop), jump id k = none → rndK k = some X → (∃ st E, Conc P G st E a w ∧ X (.exit id) st) → kont P G B k (.exit id) a w
  | [], _, _, h, _ => by cases h
  | .c _ :: k, X, h, h1, h2 => kont_exit k X h h1 h2
  | .ops _ _ :: k, X, h, h1, h2 => kont_exit k X h h1 h2
  | .fin _ :: k, X, h, h1, h2 => kont_exit k X h h1 h2
  | .scp _ :: k, X, h, h1, h2 => kont_exit k X h h1 h2
  | .lp _ :: k, X, h, h1, h2 => kont_exit k X h h1 h2
  | .beg _ :: _, X, _, h1, h2 => by cases h1; exact h2.elim fun _ h => h.elim fun _ h => h.2
  | .rnd _ :: _, X, _, h1, h2 => by cases h1; exact h2
  | .blk id' :: k, X, h, h1, h2 => by
    simp only [jump] at h
    show if id = id' then kont P G B k .normal a w else kont P G B k (.exit id) a w
    cases hb : id' == id <;> rw [hb] at h <;> simp only [cond_true, cond_false] at h
    · have hne : id ≠ id' := by simpa using Ne.symm (by simpa using hb)
      rw [if_neg hne]
      exact kont_exit k X h h1 h2
    · cases h

theorem kont_goto {P : Program} {G : Ctx} {B : Exit → Act → World → Prop} {l : Nat} : ∀ (k k' : List It) (a : Act) (w : World), gotoK l k = some k' → kont P G B k' .normal a w → kont P G B k (.goto l) a w
  | [], _, _, _, h, _ => by cases h
  | .c _ :: k, k', a, w, h, hk => kont_goto k k' a w h hk
  | .ops _ _ :: k, k', a, w, h, hk => kont_goto k k' a w h hk
  | .fin _ :: k, k', a, w, h, hk => kont_goto k k' a w h hk
  | .lp _ :: k, k', a, w, h, hk => kont_goto k k' a w h hk
  | .blk _ :: k, k', a, w, h, hk => kont_goto k k' a w h hk
  | .beg _ :: _, _, _, _, h, _ => by cases h
  | .rnd _ :: _, _, _, _, h, _ => by cases h
  | .scp c :: k, k', a, w, h, hk => by
    simp only [gotoK] at h
    show scpQ P G c (kont P G B k) (.goto l) a w
    cases hf : findLabel c l with
    | some rest =>
      rw [hf] at h
      cases h
      simp only [scpQ, hf]
      exact ScW.of (Code.wpIn_mono (fun e a w q => by cases e <;> exact q) hk)
    | none =>
      rw [hf] at h
      simp only [scpQ, hf]
      exact kont_goto k k' a w h hk

theorem kont_gone {P : Program} {G : Ctx} {B : Exit → Act → World → Prop} {l : Nat} {a : Act} {w : World} : ∀ (k : List It) (X : Exit → St → Prop), gotoK l k = none → rndK k = some X → (∃ st E, Conc P G st E a w ∧ X (.goto l) st) → kont P G B k (.goto l) a w
  | [], _, _, h, _ => by cases h
  | .c _ :: k, X, h, h1, h2 => kont_gone k X h h1 h2
  | .ops _ _ :: k, X, h, h1, h2 => kont_gone k X h h1 h2
  | .fin _ :: k, X, h, h1, h2 => kont_gone k X h h1 h2
  | .lp _ :: k, X, h, h1, h2 => kont_gone k X h h1 h2
  | .blk _ :: k, X, h, h1, h2 => kont_gone k X h h1 h2
  | .beg _ :: _, X, _, h1, h2 => by cases h1; exact h2.elim fun _ h => h.elim fun _ h => h.2
  | .rnd _ :: _, X, _, h1, h2 => by cases h1; exact h2
  | .scp c :: k, X, h, h1, h2 => by
    simp only [gotoK] at h
    show scpQ P G c (kont P G B k) (.goto l) a w
    cases hf : findLabel c l with
    | some rest => rw [hf] at h; cases h
    | none =>
      rw [hf] at h
      simp only [scpQ, hf]
      exact kont_gone k X h h1 h2

theorem gl_sl : ∀ (l : List SV) (i : Nat) (v : SV) (j : Nat), gl (sl l i v) j = if j = i ∧ i < l.length then v else gl l j
  | [], _, _, _ => by simp [sl, gl]
  | x :: l, 0, v, 0 => by simp [sl, gl]
  | x :: l, 0, v, j + 1 => by simp [sl, gl]
  | x :: l, i + 1, v, 0 => by simp [sl, gl]
  | x :: l, i + 1, v, j + 1 => by simp [sl, gl, gl_sl l i v j]

theorem sl_len : ∀ (l : List SV) (i : Nat) (v : SV), (sl l i v).length = l.length
  | [], _, _ => rfl
  | x :: l, 0, v => rfl
  | x :: l, i + 1, v => by simp [sl, sl_len l i v]

theorem gl_out : ∀ (l : List SV) (i : Nat), l.length ≤ i → gl l i = .unk
  | [], _, _ => rfl
  | x :: l, 0, h => by simp at h
  | x :: l, i + 1, h => by simpa [gl] using gl_out l i (by simpa using h)

section
variable {P : Program} {Cs : List Con} {G : Ctx} {B : Exit → Act → World → Prop}

theorem fr_put {E : Env} {w : World} {fr : List SV} {a : Act} (hlen : a.tmps.size = fr.length) (h : ∀ i, SVok E w (gl fr i) (a.tmps.getD i undef)) {d : Option Tmp} {X : SV} {v : Value} (hv : SVok E w X v) :
    (a.put d v).tmps.size = (setD fr d X).length ∧ ∀ i, SVok E w (gl (setD fr d X) i) ((a.put d v).tmps.getD i undef) := by
  cases d with
  | none => exact ⟨hlen, h⟩
  | some d =>
    refine ⟨by simp [Act.put, setD, sl_len, hlen], fun i => ?_⟩
    simp only [setD, gl_sl]
    by_cases hi : i = d ∧ d < fr.length
    · rw [if_pos hi]
      have hlt' : d < a.tmps.size := by rw [hlen]; exact hi.2
      have : (a.put (some d) v).tmps.getD i undef = v := by
        rw [hi.1]
        simp [Act.put, hlt']
      rw [this]; exact hv
    · rw [if_neg hi]
      have : (a.put (some d) v).tmps.getD i undef = a.tmps.getD i undef := by
        by_cases e : i = d
        · subst e
          have hge : ¬ i < a.tmps.size := fun hlt => hi ⟨rfl, by rw [← hlen]; exact hlt⟩
          simp [Act.put, hge]
        · simp [Act.put, Array.getElem?_setIfInBounds_ne (Ne.symm e)]
      rw [this]; exact h i

theorem put_dfr {a : Act} {d : Option Tmp} {v : Value} {w : World} (h : Marks G w a.defers) : Marks G w (a.put d v).defers := by cases d <;> exact h

/-- Behind a step. -/
theorem Conc.behind {st : St} {E : Env} {a : Act} {w : World} (h : Conc P G st E a w) {d : Option Tmp} {X : SV} {v : Value} {w' : World} {E' : Env} {hp' : List (Nat × Ob)} {m : Nat} (hm : Mem G E' w') (hev : Evo E E' w w')
    (hob : ∀ i, E'.ob i = fo hp' i) (hb : ∀ i, E'.born i → E.born i ∨ (st.nx ≤ i ∧ i < m)) (hv : SVok E' w' X v) (hnm : st.nx ≤ m) : Conc P G ⟨setD st.fr d X, hp', m⟩ E' (a.put d v) w' := by
  obtain ⟨h1, h2⟩ := fr_put (d := d) h.len (fun i => hev.sv (h.pre.fr i)) hv
  exact ⟨⟨hm, hob, h2⟩, fun i hi => by rcases hb i hi with hi | hi; exact Nat.lt_of_lt_of_le (h.born i hi) hnm; exact hi.2, h1, put_dfr (h.dfr.evo hev), h.rd⟩

def isB : Value → Option Bool
  | .bool b => some b
  | _ => none

theorem gvB_ok {E : Env} {w : World} {want : Bool} : ∀ {x : SV} {v : Value} {g : Bool}, SVok E w x v → gvB want x = some g → x ≠ .unk ∧ (isB v == some want) = g
  | .s x, v, g, h, hg => by
    cases x <;> simp only [gvB, reduceCtorEq] at hg
    rename_i b
    cases hg
    have : v = .bool b := h
    subst this
    refine ⟨by simp, ?_⟩
    cases want <;> cases b <;> rfl
  | .gd g' x, v, g, h, hg => by
    simp only [gvB] at hg
    split at hg
    · rename_i b hb
      cases hg
      refine ⟨by simp, ?_⟩
      cases g'
      · rw [h.2 rfl]; rfl
      · rw [(gvB_ok (h.1 rfl) hb).2]; simp
    · cases hg
  | .unk, _, _, _, hg => by cases hg
  | .agg _, _, _, _, hg => by cases hg
  | .tup _, _, _, _, hg => by cases hg

theorem gval_ok {st : St} {E : Env} {a : Act} {w : World} (h : Conc P G st E a w) {all : List Oper} {o : Oper} {j : Nat} {want g : Bool} (hg : o.guard = some (j, want)) (hv : gval all st.fr j want = some g) :
    Region.wanted o (yielded all.toArray a.tmps) = g := by
  unfold gval at hv
  split at hv
  · rename_i oj hoj
    split at hv
    · rename_i d hd
      obtain ⟨hne, hw⟩ := gvB_ok (h.pre.fr d) hv
      have hlt : d < a.tmps.size := by
        rcases Nat.lt_or_ge d st.fr.length with hlt | hge
        · rw [h.len]; exact hlt
        · exact absurd (gl_out _ _ hge) hne
      have hy : yielded all.toArray a.tmps j = isB (a.tmps.getD d undef) := by
        have : a.tmps[d]? = some (a.tmps.getD d undef) := by simp [hlt]
        simp only [yielded, List.getElem?_toArray, hoj, hd, Option.bind_some, this]
        cases a.tmps.getD d undef <;> rfl
      simp only [Region.wanted, hg, hy]
      rw [← hw]
    · cases hv
  · cases hv

theorem sCall_hi {ob : Nat → Ob} {nx : Nat} {fr : List SV} {c : Call} {u : Up} (h : sCall P Cs ob nx fr c = some u) : nx ≤ u.hi := by
  simp only [sCall, upV, cond_eq_ite] at h
  repeat' (split at h)
  all_goals (try (first | (cases h; done) | (cases h; simp; done)))
  rename_i u' hu'
  cases h
  show nx ≤ u'.hi
  simp only [sAppend] at hu'
  repeat' (split at hu')
  all_goals (first | (cases hu'; done) | (cases hu'; simp; done))

theorem stepU_hi {ob : Nat → Ob} {nx : Nat} {fr : List SV} {op : Op} {u : Up} (h : stepU P Cs ob nx fr op = some u) : nx ≤ u.hi := by
  cases op
  case call c => exact sCall_hi h
  case makeFunc fn first caps =>
    cases fn <;> simp only [stepU, upV, cond_eq_ite, reduceCtorEq] at h
    repeat' (split at h)
    all_goals (first | (cases h; done) | (cases h; simp; done))
  case slice t x lo hi mx =>
    cases mx <;> simp only [stepU, upV, reduceCtorEq] at h
    repeat' (split at h)
    all_goals (first | (cases h; done) | (cases h; simp; done))
  all_goals simp only [stepU, upV, cond_eq_ite, reduceCtorEq] at h
  all_goals (repeat' (split at h))
  all_goals (first | (cases h; done) | (cases h; simp; done))

theorem stepU_nd {ob : Nat → Ob} {nx : Nat} {fr : List SV} {op : Op} {u : Up} (h : stepU P Cs ob nx fr op = some u) : ∀ c, op ≠ .defer c := fun c e => by subst e; cases h

theorem Ok.ops_nil {all : List Oper} {k : List It} {st : St} (h : Ok P G B k st) : Ok P G B (.ops all [] :: k) st := fun E a w hc => wpListIn_nil (F := Fr G.rd) (n := 0) (P := P) (ops := all.toArray) (h E a w hc)

theorem Ok.op {all l : List Oper} {o : Oper} {k : List It} {st : St} {u : Up} (hCs : ∀ c ∈ Cs, c.Ok P) (hs : stepU P Cs (fo st.hp) st.nx st.fr o.op = some u) (hg : o.guard = none) (howe : u.owe)
    (h : u.gives → Ok P G B (.ops all l :: k) ⟨setD st.fr o.dst u.val, uos st.hp u.ws, u.hi⟩) : Ok P G B (.ops all (o :: l) :: k) st := by
  intro E a w hc
  refine wpListIn_plain hg fun K hK => ?_
  obtain ⟨d, op, ty, pos, af, gd⟩ := o
  have hL := step_ok (d := d) (ty := ty) (pos := pos) (af := af) (gd := gd) hc.pre hCs hs (fun i hi _ hb => by have := hc.born i hb; omega) howe
  exact op_in (stepU_nd hs) <| hL K _ fun v w' E' hm hev hob hb hv hgv => hK _ _ (h hgv E' _ w' (hc.behind hm hev hob hb hv (stepU_hi hs)))

theorem Ok.opg {all l : List Oper} {o : Oper} {k : List It} {st : St} {u : Up} {j : Nat} {want g : Bool} (hCs : ∀ c ∈ Cs, c.Ok P) (hs : stepU P Cs (fo st.hp) st.nx st.fr o.op = some u) (hg : o.guard = some (j, want))
    (hv : gval all st.fr j want = some g) (howe : g = true → u.owe) (h1 : g = true → u.gives → Ok P G B (.ops all l :: k) ⟨setD st.fr o.dst u.val, uos st.hp u.ws, u.hi⟩)
    (h2 : g = false → Ok P G B (.ops all l :: k) ⟨setD st.fr o.dst .unk, st.hp, st.nx⟩) : Ok P G B (.ops all (o :: l) :: k) st := by
  intro E a w hc
  refine wpListIn_step fun K hK => ?_
  have hw := gval_ok hc hg hv
  obtain ⟨d, op, ty, pos, af, gd⟩ := o
  cases g
  · rw [if_neg (by rw [hw]; simp)]
    exact ⟨fun _ _ => Fr_fn, hK _ _ (h2 rfl E _ w (hc.behind hc.pre.mem Evo.rfl' hc.pre.ob (fun i hi => .inl hi) (X := .unk) trivial (Nat.le_refl _)))⟩
  · rw [if_pos hw]
    have hL := step_ok (d := d) (ty := ty) (pos := pos) (af := af) (gd := gd) hc.pre hCs hs (fun i hi _ hb => by have := hc.born i hb; omega) (howe rfl)
    exact op_in (stepU_nd hs) <| hL K _ fun v w' E' hm hev hob hb hv hgv => hK _ _ (h1 rfl hgv E' _ w' (hc.behind hm hev hob hb hv (stepU_hi hs)))

theorem Ok.opgd {all l : List Oper} {o : Oper} {k : List It} {st : St} {u : Up} {j : Nat} {want g : Bool} (hCs : ∀ c ∈ Cs, c.Ok P) (hs : stepU P Cs (fo st.hp) st.nx st.fr o.op = some u) (hg : o.guard = some (j, want))
    (hv : gval all st.fr j want = some g) (hws : u.ws = []) (howe : g = true → u.owe) (h : (g = true → u.gives) → Ok P G B (.ops all l :: k) ⟨setD st.fr o.dst (.gd g u.val), st.hp, u.hi⟩) : Ok P G B (.ops all (o :: l) :: k) st := by
  intro E a w hc
  refine wpListIn_step fun K hK => ?_
  have hw := gval_ok hc hg hv
  obtain ⟨d, op, ty, pos, af, gd⟩ := o
  cases g
  · rw [if_neg (by rw [hw]; simp)]
    exact ⟨fun _ _ => Fr_fn, hK _ _ (h (fun h0 => (by cases h0)) E _ w (hc.behind hc.pre.mem Evo.rfl' hc.pre.ob (fun i hi => .inl hi) (X := .gd false u.val) ⟨fun h0 => (by cases h0), fun _ => rfl⟩ (stepU_hi hs)))⟩
  · rw [if_pos hw]
    have hL := step_ok (d := d) (ty := ty) (pos := pos) (af := af) (gd := gd) hc.pre hCs hs (fun i hi _ hb => by have := hc.born i hb; omega) (howe rfl)
    exact op_in (stepU_nd hs) <| hL K _ fun v w' E' hm hev hob hb hv hgv => hK _ _ (h (fun _ => hgv) E' _ w' (hc.behind hm hev (by rw [hws] at hob; exact hob) hb (X := .gd true u.val) ⟨fun _ => hv, fun h0 => (by cases h0)⟩ (stepU_hi hs)))

theorem Ok.seq {x y : Code} {k : List It} {st : St} (h : Ok P G B (.c x :: .c y :: k) st) : Ok P G B (.c (.seq x y) :: k) st := fun E a w hc =>
  wpIn_seq (Code.wpIn_mono (fun e a w q => by cases e <;> exact q) (h E a w hc))

theorem Ok.block {id : Nat} {x : Code} {k : List It} {st : St} (h : Ok P G B (.c x :: .blk id :: k) st) : Ok P G B (.c (.block id x) :: k) st := fun E a w hc =>
  wpIn_block (Code.wpIn_mono (fun e a w q => by cases e <;> exact q) (h E a w hc))

theorem Ok.scope {x : Code} {k : List It} {st : St} (h : Ok P G B (.c x :: .scp x :: k) st) : Ok P G B (.c (.scope x) :: k) st := fun E a w hc =>
  ScW.scope (ScW.of (Code.wpIn_mono (fun e a w q => by cases e <;> exact q) (h E a w hc)))

theorem Ok.lp {x : Code} {k : List It} {st : St} (h : Ok P G B (.c x :: .lp x :: k) st) : Ok P G B (.lp x :: k) st := fun E a w hc =>
  LoopW.round (Code.wpIn_mono (fun e a w q => by cases e <;> exact q) (h E a w hc))

theorem Ok.unroll {x : Code} {k : List It} {st : St} (h : Ok P G B (.c x :: .lp x :: k) st) : Ok P G B (.c (.loop x) :: k) st := fun E a w hc =>
  LoopW.loop (LoopW.round (Code.wpIn_mono (fun e a w q => by cases e <;> exact q) (h E a w hc)))

theorem Ok.cond {x : Operand} {p q : Code} {k : List It} {st : St} {t : Bool} (hx : pkV (ev st.fr x) = .s (.bool t)) (hk : pkP (ev st.fr x)) (h1 : t = true → Ok P G B (.c p :: k) st) (h2 : t = false → Ok P G B (.c q :: k) st) :
    Ok P G B (.c (.cond x p q) :: k) st := fun E a w hc => by
  have := hc.pre.pk hk
  rw [hx] at this
  exact wpIn_cond_split this (fun ht => h1 ht E a w hc) (fun ht => h2 ht E a w hc)

theorem Ok.condM {x : Operand} {p q : Code} {k : List It} {st : St} {t f : Bool} (hx : pkV (ev st.fr x) = .s (.mb t f)) (hk : pkP (ev st.fr x)) (h1 : t = true → Ok P G B (.c p :: k) st) (h2 : f = true → Ok P G B (.c q :: k) st) :
    Ok P G B (.c (.cond x p q) :: k) st := fun E a w hc => by
  have := hc.pre.pk hk
  rw [hx] at this
  obtain ⟨b, e, k1, k2⟩ := this
  exact wpIn_cond_split e (fun ht => h1 (k1 ht) E a w hc) (fun ht => h2 (k2 ht) E a w hc)

theorem Ok.region {id : Nat} {ops : Array Oper} {k : List It} {st : St} (h : Ok P G B (.ops ops.toList ops.toList :: k) st) : Ok P G B (.c (.region id ops false) :: k) st := fun E a w hc => by
  have := h E a w hc
  have h' : wpListIn (Fr G.rd) 0 P ops.toList.toArray (kont P G B k) ops.toList a w := this
  rw [Array.toArray_toList] at h'
  exact wpIn_region_list h'

/-! ### A frame's end, its marks -/
structure Calm (w w' : World) : Prop where
  cells : ∀ (b : Nat) cs T fz, w.heap[b]? = some (.cells cs T fz) → w'.heap[b]? = w.heap[b]?
  loop : ∀ (b : Nat) r, w.heap[b]? = some (.loop r) → w'.heap[b]? = w.heap[b]?
  size : w'.heap.size = w.heap.size
  os : w'.os = w.os
  tape : w'.tape = w.tape
  output : w'.output = w.output

theorem cell_calm {w w' : World} (h : Calm w w') {b off : Nat} {u : Value} (hc : w.cell? ⟨b, off, none⟩ = some u) : w'.cell? ⟨b, off, none⟩ = some u := by
  have key : ∃ cs T fz, w.heap[b]? = some (.cells cs T fz) := by
    unfold World.cell? at hc
    split at hc
    · rename_i cs T fz hb
      exact ⟨_, _, _, hb⟩
    · cases hc
  obtain ⟨cs, T, fz, hb⟩ := key
  rw [cell_same (h.cells b cs T fz hb)]; exact hc

theorem Rd.calm {S : Nat → Prop} {w w' : World} (h : Calm w w') : ∀ (t : Ty) (vs : List Value) (x : t.den), Rd S w t vs x → Rd S w' t vs x
  | .int _, _, _, r => r
  | .bool, _, _, r => r
  | .str, _, _, r => r
  | .unit, _, _, r => r
  | .opq, _, _, r => r
  | .pair a b, _, _, ⟨v1, v2, e, r1, r2⟩ => ⟨v1, v2, e, Rd.calm h a v1 _ r1, Rd.calm h b v2 _ r2⟩
  | .slice _ e, _, _, ⟨hl, r⟩ => by
    refine ⟨hl, r.imp id ?_⟩
    rintro ⟨b, off, c, ev, hc, hne, hS, hb, hx⟩
    refine ⟨b, off, c, ev, hc, hne, hS, by rw [h.size]; exact hb, fun i hi => ?_⟩
    obtain ⟨us, hu, hcell, hr⟩ := hx i hi
    exact ⟨us, hu, fun j u hj => cell_calm h (hcell j u hj), Rd.calm h e us _ hr⟩

theorem S1ok.calm {E : Env} {w w' : World} (h : Calm w w') {x : S1} {v : Value} (r : S1ok E w x v) : S1ok E w' x v := by
  cases x with
  | unk => trivial
  | int k n => exact r
  | bool b => exact r
  | mb t f => exact r
  | str s => exact r
  | nils => exact r
  | val u => exact r
  | ro t x => exact Rd.calm h _ _ _ r
  | sub o lo hi =>
    obtain ⟨hb, r⟩ := r
    refine ⟨hb, ?_⟩
    cases ho : E.ob o with
    | dead => rw [ho] at r; exact r
    | box cs => rw [ho] at r; exact r
    | lp s fr ps a b pd => rw [ho] at r; exact r
    | arr fz z e xs =>
      rw [ho] at r
      obtain ⟨h1, h2, h3⟩ := r
      refine ⟨h1, h2, ?_⟩
      cases hl : E.loc o with
      | none => rw [hl] at h3; exact h3
      | some p =>
        obtain ⟨b, off⟩ := p
        rw [hl] at h3
        rcases h3 with ⟨c, cs, T, fzz, e1, e2, e3, e4⟩ | h3
        · exact .inl ⟨c, cs, T, fzz, e1, e2, (h.cells b cs T fzz e3).trans e3, e4⟩
        · exact .inr h3
  | pb o off => exact r
  | pe o i off => exact r
  | pr t x off =>
    obtain ⟨b, f, us, e1, hS, hlt, hlen, hc, hr⟩ := r
    exact ⟨b, f, us, e1, hS, by rw [h.size]; exact hlt, hlen, fun j u hj => cell_calm h (hc j u hj), Rd.calm h _ _ _ hr⟩
  | fn f caps => exact r
  | yl o => exact r

theorem S1sok.calm {E : Env} {w w' : World} (h : Calm w w') {l : List S1} {vs : List Value} (r : S1sok E w l vs) : S1sok E w' l vs := ⟨r.1, fun i x v h1 h2 => (r.2 i x v h1 h2).calm h⟩

theorem SVok.calm {E : Env} {w w' : World} (h : Calm w w') : ∀ {x : SV} {v : Value}, SVok E w x v → SVok E w' x v
  | .unk, _, _ => trivial
  | .s _, _, r => S1ok.calm h r
  | .agg _, _, ⟨vs, e, r⟩ => ⟨vs, e, r.calm h⟩
  | .tup _, _, ⟨vs, e, hl, r⟩ => ⟨vs, e, hl, fun i bl u h1 h2 => ⟨fun hb => let ⟨us, e', r'⟩ := (r i bl u h1 h2).1 hb; ⟨us, e', r'.calm h⟩, fun hb => ((r i bl u h1 h2).2 hb).calm h⟩⟩
  | .gd _ _, _, r => ⟨fun hg => SVok.calm h (r.1 hg), r.2⟩

theorem ObOk.calm {E : Env} {w w' : World} (h : Calm w w') {o : Nat} {x : Ob} (r : ObOk E w o x) : ObOk E w' o x := by
  cases x with
  | dead => trivial
  | box cs =>
    obtain ⟨b, vs, T, h1, h2, h3⟩ := r
    exact ⟨b, vs, T, h1, (h.cells b _ _ _ h2).trans h2, h3.calm h⟩
  | arr fz z e xs =>
    obtain ⟨h0, r⟩ := r
    refine ⟨h0, ?_⟩
    cases hloc : E.loc o with
    | none => rw [hloc] at r; exact r
    | some p =>
      obtain ⟨b, off⟩ := p
      rw [hloc] at r
      obtain ⟨vs, T, fzz, h1, h2, h3, h4⟩ := r
      exact ⟨vs, T, fzz, (h.cells b _ _ _ h1).trans h1, h2, h3, fun i hi => Rd.calm h _ _ _ (h4 i hi)⟩
  | lp s fr ps asg body pd =>
    obtain ⟨b, r, h1, h2, h3, h4, h5, h6, h7, h8, h9⟩ := r
    exact ⟨b, r, h1, (h.loop b _ h2).trans h2, h3, h4, h5, h6, h7, h8, fun i => (h9 i).calm h⟩

/-- A mark's block is shut. -/
theorem shut_run {P : Program} {w : World} {b : Nat} (hb : w.heap[b]? = some (.deferred (some []))) :
    (Instr.takeDeferred b).run P w = .ok [] { w with heap := w.heap.setIfInBounds b (.deferred none) } := by
  simp [Instr.takeDeferred, getObj, setObj, Sem.run, hb]

theorem shut_calm {w : World} {b : Nat} (hb : w.heap[b]? = some (.deferred (some []))) : Calm w { w with heap := w.heap.setIfInBounds b (.deferred none) } := by
  have key : ∀ (b' : Nat) x, w.heap[b']? = some x → x ≠ .deferred (some []) → (w.heap.setIfInBounds b (.deferred none))[b']? = w.heap[b']? := fun b' x hx hne => by
    have : b ≠ b' := fun e => by subst e; rw [hb] at hx; cases hx; exact hne rfl
    rw [Array.getElem?_setIfInBounds_ne this]
  exact ⟨fun b' cs T fz h => key b' _ h (by simp), fun b' r h => key b' _ h (by simp), by simp, rfl, rfl, rfl⟩

theorem Conc.shut {st : St} {E : Env} {a : Act} {w : World} (h : Conc P G st E a w) {b : Nat} {bs : List Nat} (hd : a.defers = (b :: bs).map (fun b => { target := .collected b, args := #[] })) (hn : (b :: bs ++ G.mrk).Nodup)
    (hb : ∀ c ∈ b :: bs, G.w0.heap.size ≤ c ∧ w.heap[c]? = some (.deferred (some []))) :
    Conc P G st E { a with defers := bs.map (fun b => { target := .collected b, args := #[] }) } { w with heap := w.heap.setIfInBounds b (.deferred none) } := by
  have hc := shut_calm (hb b (List.mem_cons_self ..)).2
  have m := h.pre.mem
  have hne : ∀ c, c ∈ bs ++ G.mrk → b ≠ c := fun c hc e => by
    subst e
    rw [List.cons_append] at hn
    exact (List.nodup_cons.1 hn).1 hc
  have hk : ∀ c ∈ bs ++ G.mrk, ∀ x, w.heap[c]? = some x → (w.heap.setIfInBounds b (.deferred none))[c]? = some x := fun c hc x hx => by
    rw [Array.getElem?_setIfInBounds_ne (hne c hc)]; exact hx
  refine ⟨⟨⟨fun o ho => (m.hp o ho).calm hc, m.unb, m.sep, m.new, m.bad, m.bd, m.os, m.tape, m.output, by rw [hc.size]; exact m.size, fun c hlt hm => ?_, fun p hp => (m.sus p hp).calm hc, fun p hp => ?_, fun c hcm => hk c (List.mem_append_right _ hcm) _ (m.mks c hcm)⟩, h.pre.ob, fun i => (h.pre.fr i).calm hc⟩, h.born, h.len, ⟨bs, rfl, ?_, fun c hcm => ⟨(hb c (List.mem_cons_of_mem _ hcm)).1, hk c (List.mem_append_left _ hcm) _ (hb c (List.mem_cons_of_mem _ hcm)).2⟩⟩, h.rd⟩
  · have : b ≠ c := fun e => by
      have := (hb b (List.mem_cons_self ..)).1
      omega
    rw [Array.getElem?_setIfInBounds_ne this]
    exact m.old c hlt hm
  · obtain ⟨k1, k2, r, k3⟩ := m.rdk p hp
    exact ⟨k1, k2, r, (hc.loop _ _ k3).trans k3⟩
  · rw [List.cons_append] at hn
    exact (List.nodup_cons.1 hn).2

/-- A frame leaves, its marks shut one by one. -/
theorem Conc.leave {fn : Func} {R : Ending → World → Prop} {st : St} {E : Env} {a : Act} {w : World} (h : Conc P G st E a w)
    (hR : ∀ a' w', a'.tmps = a.tmps → Conc P G st E a' w' → ∃ v, (results fn a.tmps).run P w' = .ok v w' ∧ R (.returned v) w') : LeavesInM (Fr none) 0 P fn a.tmps R a.defers .returning w := by
  obtain ⟨bs, e, hn, hb⟩ := h.dfr
  have key : ∀ (bs : List Nat) (a' : Act) (w : World), a'.tmps = a.tmps → Conc P G st E a' w → a'.defers = bs.map (fun b => { target := .collected b, args := #[] }) → (bs ++ G.mrk).Nodup → (∀ b ∈ bs, G.w0.heap.size ≤ b ∧ w.heap[b]? = some (.deferred (some []))) →
      LeavesInM (Fr none) 0 P fn a.tmps R (bs.map (fun b => { target := .collected b, args := #[] })) .returning w := by
    intro bs
    induction bs with
    | nil => intro a' w ht hc hd _ _; exact hR a' w ht hc
    | cons b bs ih =>
      intro a' w ht hc hd hn hb
      refine ⟨by simp, .inl ⟨b, _, rfl, shut_run (hb b (List.mem_cons_self ..)).2, ?_⟩⟩
      have hc' := hc.shut hd hn hb
      obtain ⟨bs', e', hn', hb'⟩ := hc'.dfr
      have e2 : bs' = bs := by
        have : (bs.map (fun b => ({ target := .collected b, args := #[] } : Deferred))) = bs'.map (fun b => { target := .collected b, args := #[] }) := e'
        have inj : ∀ (l m : List Nat), l.map (fun b => ({ target := .collected b, args := #[] } : Deferred)) = m.map (fun b => { target := .collected b, args := #[] }) → l = m := by
          intro l
          induction l with
          | nil => intro m hm; cases m with
            | nil => rfl
            | cons => simp at hm
          | cons x l ih => intro m hm; cases m with
            | nil => simp at hm
            | cons y m => simp at hm; rw [hm.1, ih m (by simpa using hm.2)]
        exact (inj _ _ this).symm
      subst e2
      exact ih { tmps := a'.tmps, defers := bs'.map (fun b => { target := .collected b, args := #[] }) } _ ht hc' rfl hn' hb'
  rw [e]
  exact key bs a w rfl h e hn hb

end
end Go.Proofs.YtdepbfgnmliggaaGreatDoor.Sx
