/- Steps: stores into elements, literals of slices, append. -/
import Derived.Test.YtdepbfgnmliggaaGreatDoorSx9
namespace Go.Proofs.YtdepbfgnmliggaaGreatDoor.Sx
set_option linter.unusedSimpArgs false
set_option linter.unusedVariables false

section
variable {P : Program} {G : Ctx} {E : Env} {w : World} {hp : List (Nat × Ob)} {nx : Nat} {fr : List SV} {a : Act}
variable {d : Option Tmp} {ty : TypeId} {pos : String} {af : Array Edge} {gd : Option (Nat × Bool)}

/-- The state with some objects written no more. -/
theorem Pre.frozen (h : Pre P G E w hp fr a) (l : List Nat) : Pre P G (E.frozen l) w (uos hp (freeze (fo hp) l)) fr a :=
  ⟨(E.frozen_soft l).mem h.mem, Env.frozen_ob h.ob l, fun i => ((E.frozen_soft l).evo w).sv (h.fr i)⟩

/-- A step from the frozen state on is a step. -/
theorem Land.frozen (l : List Nat) {o : Oper} {ow gv : Prop} {X : SV} {m : Nat} {ws : List (Nat × Ob)}
    (hL : Land P G (E.frozen l) w (uos hp (freeze (fo hp) l)) nx o a ⟨ow, X, ws, m, gv⟩) : Land P G E w hp nx o a ⟨ow, X, freeze (fo hp) l ++ ws, m, gv⟩ := by
  intro K B hK
  refine hL K B fun v w' E' m ev hob hbn hv hg => hK v w' E' m (((E.frozen_soft l).evo w).trans ev) (fun i => ?_) (fun i hi => ?_) hv hg
  · rw [hob, uos_append]
  · exact hbn i hi

/-- Data out of cells, in the state in which what they name is written no more. -/
theorem rd_frozen (h : Pre P G E w hp fr a) {t : Ty} {cs : List S1} {x : t.den} {us : List Value} {l : List Nat} (hl : ∀ o, o ∈ ids cs → o ∈ l) (hr : rdS (fo hp) t cs = some (x, [])) (hs : S1sok E w cs us) :
    Rd (E.frozen l).owned w t us x := by
  have hsub : ∀ b, (E.frozen l).owned b → E.owned b := by
    intro b hb
    by_cases hb' : b < w.heap.size
    · exact ((E.frozen_soft l).evo w).own b hb' hb
    · rcases hb with hb | ⟨o, f, h1, h2⟩
      · exact .inl hb
      · have hm := (E.frozen_soft l).mem h.mem
        exact absurd (hm.lt (mut_ne h1) h2) hb'
  have hI : ∀ o, o ∈ ids cs → isA (E.ob o) = true → ∀ b f, E.loc o = some (b, f) → ¬ (E.frozen l).owned b := fun o ho hx b f hloc => Env.frozen_not h.mem (hl o ho) hx hloc
  obtain ⟨us', rest, l1, rfl, h1, h2, h3⟩ := rdS_ok h.ob h.mem.hp hsub t cs x [] us hr hI hs
  rw [h2.nil_inv, List.append_nil]
  exact h1

/-- The same, no owned block asked of. -/
theorem rd_plain (h : Pre P G E w hp fr a) {t : Ty} {cs : List S1} {x : t.den} {us : List Value} (hr : rdS (fo hp) t cs = some (x, [])) (hs : S1sok E w cs us) : Rd (fun _ => False) w t us x := by
  obtain ⟨us', rest, l1, rfl, h1, h2, h3⟩ := rdS_ok h.ob h.mem.hp (S' := fun _ => False) (fun _ hb => hb.elim) t cs x [] us hr (fun _ _ _ _ _ _ h => h) hs
  rw [h2.nil_inv, List.append_nil]
  exact h1

/-- Of data the cells are storable. -/
theorem rd_stl {S : Nat → Prop} : ∀ (t : Ty) (us : List Value) (x : t.den), Rd S w t us x → ∀ v ∈ us, v.oneCell' = true
  | .int _, us, _, r => by obtain ⟨rfl, _⟩ := r; simp [Value.oneCell']
  | .bool, us, _, r => by have e : us = _ := r; rw [e]; simp [Value.oneCell']
  | .str, us, _, r => by obtain ⟨rfl, _⟩ := r; simp [Value.oneCell']
  | .unit, us, _, r => by have e : us = _ := r; rw [e]; simp
  | .opq, us, _, r => by obtain ⟨rfl, h⟩ := r; simpa using h
  | .pair p q, us, y, r => by
    obtain ⟨v1, v2, rfl, r1, r2⟩ := r
    intro v hv
    rcases List.mem_append.1 hv with hv | hv
    · exact rd_stl p v1 _ r1 v hv
    · exact rd_stl q v2 _ r2 v hv
  | .slice z e, us, _, r => by obtain ⟨_, ⟨_, _, rfl, _⟩ | ⟨_, _, _, rfl, _⟩⟩ := r <;> simp [Value.oneCell']

/-- A datum's place in an array's block. -/
theorem part_eq {vs : List Value} {off n i k : Nat} (hi : i < k) (hle : off + k * n ≤ vs.length) : off + i * n + n ≤ vs.length := by
  have : (i + 1) * n ≤ k * n := Nat.mul_le_mul_right n hi
  rw [Nat.add_mul] at this
  omega

theorem ids_append (l l' : List S1) (q : Nat) : q ∈ ids (l ++ l') ↔ q ∈ ids l ∨ q ∈ ids l' := by
  induction l with
  | nil => simp [ids]
  | cons c l ih => cases c <;> simp [ids, ih, or_assoc]

theorem cellsS_ids : ∀ (t : Ty) (x : t.den) (q : Nat), q ∉ ids (cellsS t x)
  | .int _, _, _ => by simp [cellsS, ids]
  | .bool, _, _ => by simp [cellsS, ids]
  | .str, _, _ => by simp [cellsS, ids]
  | .unit, _, _ => by simp [cellsS, ids]
  | .opq, _, _ => by simp [cellsS, ids]
  | .pair p1 p2, x, q => by
    simp only [cellsS, ids_append, not_or]
    exact ⟨cellsS_ids p1 _ q, cellsS_ids p2 _ q⟩
  | .slice _ _, _, _ => by simp [cellsS, ids]

theorem land_store_el (h : Pre P G E w hp fr a) {t : TypeId} {x y : Operand} {bb : Bool} {n : Nat} (hI : aggI P t = some (bb, n)) {Y : SV} {ow : Prop} {o i off z : Nat} {e : Ty} {xs : List e.den} {r : e.den}
    (hx : SVok E w (.s (.pe o i off)) (a.eval x)) (hy : SVok E w Y (a.eval y)) (ho : fo hp o = .arr false z e xs) (hs : shape bb Y = true) (hst : bb = false → stl Y.cells = true)
    (hr : rdS (fo hp) e (lay (cellsS e (xs.getD i e.zero)) off Y.cells) = some (r, []))
    (hle : off + n ≤ e.n) (hn : Y.cells.length = n) (hself : ¬ o ∈ ids Y.cells) :
    Land P G E w hp nx ⟨d, .store t x y, ty, pos, af, gd⟩ a ⟨ow, .unk, freeze (fo hp) (ids Y.cells) ++ [(o, .arr false z e (xs.set i r))], nx, True⟩ := by
  refine Land.frozen (ids Y.cells) ?_
  have hF := h.frozen (ids Y.cells)
  generalize hE : E.frozen (ids Y.cells) = F at hF ⊢
  intro K B hK
  have hev0 : Evo E F w w := hE ▸ (E.frozen_soft _).evo w
  obtain ⟨vs, hv, hok⟩ := cells_ok hy hs hst
  have hob : E.ob o = .arr false z e xs := (h.ob o).trans ho
  have hobF : F.ob o = .arr false z e xs := by
    rw [← hE]
    show (if o ∈ ids Y.cells ∧ isA (E.ob o) = true then frz (E.ob o) else E.ob o) = _
    rw [if_neg (fun hh => hself hh.1), hob]
  obtain ⟨hb, hx⟩ := hev0.s1 hx
  rw [hobF] at hx
  obtain ⟨hi, b, f, hl, hxv⟩ := hx
  have hm := hF.mem.hp o hb
  rw [hobF] at hm
  have hm0 := hm
  obtain ⟨hz, hm⟩ := hm
  rw [hl] at hm
  obtain ⟨cur, T, fz, hh, hfz, hsz, hel⟩ := hm
  have hfz := hfz rfl
  subst hfz
  have hlE : E.loc o = some (b, f) := by rw [← hE] at hl; exact hl
  -- the element's cells, as they are and as they become
  have hm1 := h.mem.hp o (h.mem.born_of (by rw [hob]; simp))
  rw [hob] at hm1
  obtain ⟨_, hm1⟩ := hm1
  rw [hlE] at hm1
  obtain ⟨cur', T', fz', hh', _, _, hel'⟩ := hm1
  rw [hh] at hh'
  cases hh'
  have hr0 := hel' i hi
  have hus := cellsS_ok e _ _ hr0
  rw [getD_of_lt hi] at hr
  have hvl : vs.length = n := hok.1.trans hn
  have hcl : (cellsS e xs[i]).length = e.n := cellsS_len e _
  have hnew := lay_ok hus hok (p := off) (by omega)
  have hrd : Rd F.owned w e (splice ((cur.toList.drop (f + i * e.n)).take e.n) off vs) r := by
    rw [← hE]
    refine rd_frozen h (l := ids Y.cells) (fun q hq => ?_) hr hnew
    -- a slice named in the laid cells is named in what is stored
    have key : ∀ (l : List S1) (p : Nat) (ws : List S1), (∀ q, q ∉ ids l) → ∀ q, q ∈ ids (lay l p ws) → q ∈ ids ws := by
      intro l
      induction l with
      | nil => intro p ws _ q hq; cases ws <;> simp [lay, ids] at hq
      | cons c l ih =>
        intro p ws hno q hq
        have hno' : ∀ q, q ∉ ids l := fun q hq' => hno q (by cases c <;> simp [ids, hq'])
        cases ws with
        | nil => rw [lay_nil] at hq; exact absurd hq (hno q)
        | cons y ws => cases p with
          | zero =>
            simp only [lay] at hq
            cases y <;> simp only [ids, List.mem_cons] at hq ⊢ <;> first | exact ih 0 ws hno' q hq | exact hq.imp id (ih 0 ws hno' q)
          | succ p =>
            simp only [lay] at hq
            have : q ∈ ids (lay l p (y :: ws)) := by
              cases c with
              | sub o' lo hi => exact absurd (by simp [ids]) (hno o')
              | _ => simpa [ids] using hq
            exact ih p (y :: ws) hno' q this
    exact key _ _ _ (cellsS_ids e _) q hq
  have hcur : f + i * e.n + e.n ≤ cur.toList.length := part_eq hi (by simpa using hsz)
  have hple : f + i * e.n + off + vs.length ≤ cur.toList.length := by omega
  have h1c : ∀ u ∈ vs, u.oneCell' = true := fun u hu => rd_stl _ _ _ hrd u (by simp [splice, hu])
  have hst' := run_storeVar (w := w) hI hv hvl h1c hh (o := f + i * e.n + off) (by rw [← Array.length_toList]; omega)
  have hsz' : (splice cur.toList (f + i * e.n + off) vs).toArray.size = cur.size := by simp [splice_len hple]
  have hmut : (F.ob o).mut = true := by rw [hobF]; rfl
  have hsame : same (F.ob o) (.arr false z e (xs.set i r)) := by rw [hobF]; exact ⟨rfl, rfl, by simp⟩
  unfold Oper.wp
  have hrun : (execOp a.eval ⟨d, .store t x y, ty, pos, af, gd⟩).run P w = .ok .skip (w.setRow b (splice cur.toList (f + i * e.n + off) vs).toArray) := by
    simp [execOp, Instr.storeAt, hxv, Instr.sureAddr, hst']
  rw [hrun, Oper.upon_skip]
  have hev := evo_row hF.mem hmut hl hh hsz' hsame
  refine hK undef _ _ (mem_row hF.mem hmut hl hh hsz' hsame fun hev => ?_) hev (fun q => ?_) (fun q hq => ?_) trivial trivial
  · refine ⟨by simpa using hz, ?_⟩
    rw [set_loc]
    refine ⟨_, T, (0, 0), setRow_heap w b cur _ T _ hh, fun _ => rfl, by rw [hsz']; simpa using hsz, fun k hk => ?_⟩
    have hk' : k < xs.length := by simpa using hk
    have hkl : f + k * e.n + e.n ≤ cur.toList.length := part_eq hk' (by simpa using hsz)
    by_cases hki : k = i
    · subst hki
      have e1 : (xs.set k r)[k]'hk = r := by simp
      rw [e1]
      show Rd _ _ e ((List.drop (f + k * e.n) (splice cur.toList (f + k * e.n + off) vs)).take e.n) r
      rw [splice_in hple (by omega) (by omega) hkl]
      rw [show f + k * e.n + off - (f + k * e.n) = off by omega]
      exact hev.rd hrd
    · have e1 : (xs.set i r)[k]'hk = xs[k] := by simp [Ne.symm hki]
      rw [e1]
      show Rd _ _ e ((List.drop (f + k * e.n) (splice cur.toList (f + i * e.n + off) vs)).take e.n) xs[k]
      rw [splice_part hple ?_]
      · exact hev.rd (hel k hk')
      · rcases Nat.lt_or_gt_of_ne hki with hlt | hlt
        · have := Nat.mul_le_mul_right e.n (show k + 1 ≤ i from hlt)
          rw [Nat.add_mul] at this
          omega
        · have := Nat.mul_le_mul_right e.n (show i + 1 ≤ k from hlt)
          rw [Nat.add_mul] at this
          omega
  · simp only [uos, fo_uo]
    by_cases hq : q = o
    · subst hq; rw [set_ob, if_pos rfl]
    · rw [set_ob_ne _ _ _ hq, if_neg hq]; exact hF.ob q
  · rcases hq with hq | rfl
    · exact .inl hq
    · exact .inl hb

end
end Go.Proofs.YtdepbfgnmliggaaGreatDoor.Sx
