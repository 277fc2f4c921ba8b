/- Steps: append, whole. -/
import Derived.Test.YtdepbfgnmliggaaGreatDoorSx11
namespace Go.Proofs.YtdepbfgnmliggaaGreatDoor.Sx
set_option linter.unusedSimpArgs false
set_option linter.unusedVariables false

section
variable {P : Program} {G : Ctx} {E : Env} {w : World} {hp : List (Nat × Ob)} {nx : Nat} {fr : List SV} {a : Act}
variable {d : Option Tmp} {ty : TypeId} {pos : String} {af : Array Edge} {gd : Option (Nat × Bool)}

/-- Rows one behind the other in a list of cells. -/
def Parts (S : Nat → Prop) (w : World) (e : Ty) (vs : List Value) (xs : List e.den) : Prop :=
  vs.length = xs.length * e.n ∧ ∀ i (h : i < xs.length), Rd S w e ((vs.drop (i * e.n)).take e.n) xs[i]

theorem Parts.append {S : Nat → Prop} {e : Ty} {vs us : List Value} {xs ys : List e.den} (h : Parts S w e vs xs) (k : Parts S w e us ys) : Parts S w e (vs ++ us) (xs ++ ys) := by
  refine ⟨by rw [List.length_append, List.length_append, h.1, k.1, Nat.add_mul], fun i hi => ?_⟩
  by_cases hx : i < xs.length
  · have e1 : (xs ++ ys)[i] = xs[i] := List.getElem_append_left hx
    rw [e1]
    have hle : i * e.n + e.n ≤ vs.length := by rw [h.1]; have := Nat.mul_le_mul_right e.n (show i + 1 ≤ xs.length from hx); rw [Nat.add_mul] at this; omega
    have e2 : ((vs ++ us).drop (i * e.n)).take e.n = (vs.drop (i * e.n)).take e.n := by
      rw [List.drop_append_of_le_length (by omega), List.take_append_of_le_length (by simp; omega)]
    rw [e2]; exact h.2 i hx
  · have hy : i - xs.length < ys.length := by simp at hi; omega
    have e1 : (xs ++ ys)[i] = ys[i - xs.length] := List.getElem_append_right (by omega)
    rw [e1]
    have e2 : (vs ++ us).drop (i * e.n) = us.drop ((i - xs.length) * e.n) := by
      have e3 : i * e.n = vs.length + (i - xs.length) * e.n := by rw [h.1, ← Nat.add_mul]; congr 1; omega
      rw [e3, List.drop_append, List.drop_of_length_le (by omega)]
      simp
    rw [e2]; exact k.2 _ hy

theorem Parts.one {S : Nat → Prop} {e : Ty} {vs : List Value} {xs : List e.den} (h : Parts S w e vs xs) : ∀ u ∈ vs, u.oneCell' = true := by
  intro u hu
  obtain ⟨j, hj, rfl⟩ := List.mem_iff_getElem.1 hu
  have hj' := hj
  rw [h.1] at hj'
  have hn : 0 < e.n := by
    rcases Nat.eq_zero_or_pos e.n with h0 | h0
    · rw [h0] at hj'; simp at hj'
    · exact h0
  have hi : j / e.n < xs.length := (Nat.div_lt_iff_lt_mul hn).2 hj'
  refine rd_stl _ _ _ (h.2 _ hi) _ ?_
  refine List.mem_iff_getElem?.2 ⟨j % e.n, ?_⟩
  rw [List.getElem?_take_of_lt (Nat.mod_lt _ hn), List.getElem?_drop, Nat.mul_comm, Nat.div_add_mod]
  exact List.getElem?_eq_getElem hj

theorem Parts.mono {E E' : Env} {w w' : World} (h : Evo E E' w w') {e : Ty} {vs : List Value} {xs : List e.den} (k : Parts E.owned w e vs xs) : Parts E'.owned w' e vs xs :=
  ⟨k.1, fun i hi => h.rd (k.2 i hi)⟩

/-- The new array's block. -/
theorem ob_of_parts {E' : Env} {w' : World} {nx z b f : Nat} {e : Ty} {zs : List e.den} (hz : zs.length * z ≤ 140737488355328) (hl : E'.loc nx = some (b, f)) {cur : Array Value} {T : TypeId}
    (hh : w'.heap[b]? = some (.cells cur T (0, 0))) {vs rest : List Value} (hc : (cur.toList.drop f) = vs ++ rest) (hf : f ≤ cur.size) (hp : Parts E'.owned w' e vs zs) : ObOk E' w' nx (.arr false z e zs) := by
  refine ⟨hz, ?_⟩
  rw [hl]
  have hlen : (cur.toList.drop f).length = cur.size - f := by simp
  rw [hc, List.length_append, hp.1] at hlen
  refine ⟨cur, T, (0, 0), hh, fun _ => rfl, by omega, fun i hi => ?_⟩
  have e1 : (cur.toList.drop (f + i * e.n)).take e.n = (vs.drop (i * e.n)).take e.n := by
    rw [← List.drop_drop, hc]
    have hle : i * e.n + e.n ≤ vs.length := by rw [hp.1]; have := Nat.mul_le_mul_right e.n (show i + 1 ≤ zs.length from hi); rw [Nat.add_mul] at this; omega
    rw [List.drop_append_of_le_length (by omega), List.take_append_of_le_length (by simp; omega)]
  rw [e1]
  exact hp.2 i hi

/-- The outcome of an append in a new block. -/
theorem land_grown (h : Pre P G E w hp fr a) (hnx : ¬ E.born nx) {o : Oper} {l os : List Nat} {z : Nat} {e : Ty} {zs : List e.den} (hz : zs.length * z ≤ 140737488355328) {cs : Array Value} {T : TypeId} {C : Nat}
    (hr : (execOp a.eval o).run P w = .ok (.value (.slice (some ⟨w.heap.size, 0, none⟩) zs.length C)) (w.drew.alloc (.cells cs T))) {vs rest : List Value} (hcs : cs.toList = vs ++ rest)
    (hC : zs.length ≤ C) (hCs : cs.size = C * e.n) (hp' : Parts E.owned w e vs zs) {ow : Prop} :
    Land P G E w hp nx o a ⟨ow, .s (.sub nx 0 zs.length), freeze (fo hp) l ++ (kill os ++ [(nx, .arr false z e zs)]), nx + 1, True⟩ := by
  have hnew : (w.drew.alloc (.cells cs T)).heap[w.heap.size]? = some (.cells cs T (0, 0)) := heap_alloc_at w.drew _
  have hold : ∀ b, b < w.heap.size → (w.drew.alloc (.cells cs T)).heap[b]? = w.heap[b]? := fun b hb => heap_alloc_ne w.drew _ b hb
  have hev : Evo E (softE E l os nx (.arr false z e zs) (some (w.heap.size, 0))) w (w.drew.alloc (.cells cs T)) := by
    refine evo_soft hnx (fun b f hbf hb => ?_) (fun b hb _ => hold b hb) (fun b cs' T' fz' hc => ⟨cs', fz', (hold b (lt_of_row hc)).trans hc, rfl⟩) ?_ fun b y hy => (by rw [hold b (lt_of_obj hy), hy]; exact OthK.same)
    · cases hbf; omega
    · show w.heap.size ≤ (w.heap.push _).size
      simp
  refine land_soft_new h hr hev (fun i b' f' hi hio hd hl => ⟨fun b f hbf => ?_, hold b' (h.mem.lt hd hl)⟩) ?_ (fun b f hbf => ?_) rfl rfl rfl (fun b hb _ => hold b (Nat.lt_of_lt_of_le hb h.mem.size)) ?_ trivial
  · cases hbf
    have := h.mem.lt hd hl
    omega
  · exact ob_of_parts hz (set_loc _ _ _ _) hnew (f := 0) (by rw [List.drop_zero]; exact hcs) (Nat.zero_le _) (hp'.mono hev)
  · cases hbf; exact .inl h.mem.size
  · refine ⟨.inr rfl, ?_⟩
    show match (Env.set _ nx _ _).ob nx with | .arr _ _ e xs => _ | _ => _
    rw [set_ob]
    refine ⟨Nat.zero_le _, Nat.le_refl _, ?_⟩
    show match (Env.set _ nx _ _).loc nx with | none => _ | some (b, off) => _
    rw [set_loc]
    exact .inl ⟨C, cs, T, (0, 0), by simp, by simpa using hC, hnew, by simp [hCs]⟩

/-- The outcome of an append in the block that is there. -/
theorem land_stay (h : Pre P G E w hp fr a) (hnx : ¬ E.born nx) {o : Oper} {l : List Nat} {z : Nat} {e : Ty} {zs : List e.den} (hz : zs.length * z ≤ 140737488355328) {q b f0 f : Nat} (hq : (E.ob q).mut = true)
    (hql : E.loc q = some (b, f0)) {old new : Array Value} {T : TypeId} (hh : w.heap[b]? = some (.cells old T (0, 0))) (hsz : new.size = old.size) {c : Nat} {w' : World} (hw' : w' = w.setRow b new)
    (hr : (execOp a.eval o).run P w = .ok (.value (.slice (some ⟨b, f, none⟩) zs.length c)) w') {vs rest : List Value} (hcs : new.toList.drop f = vs ++ rest) (hf : f ≤ new.size)
    (hC : zs.length ≤ c) (hcap : f + c * e.n ≤ new.size) (hp' : Parts E.owned w e vs zs) {ow : Prop} :
    Land P G E w hp nx o a ⟨ow, .s (.sub nx 0 zs.length), freeze (fo hp) l ++ (kill [q] ++ [(nx, .arr false z e zs)]), nx + 1, True⟩ := by
  have hown : E.owned b := .inr ⟨q, f0, hq, hql⟩
  have hnew : w'.heap[b]? = some (.cells new T (0, 0)) := by rw [hw']; exact setRow_heap w b old new T (0, 0) hh
  have hoth : ∀ b', b' ≠ b → w'.heap[b']? = w.heap[b']? := fun b' hb => by rw [hw']; exact setRow_other w b b' new hb
  have hev : Evo E (softE E l [q] nx (.arr false z e zs) (some (b, f))) w w' := by
    refine evo_soft hnx (fun b1 f1 hbf _ => ?_) (fun b' _ ho => hoth b' fun e => ho (e ▸ hown)) (fun b' cs' T' fz' hc => ?_) ?_ fun b' y hy => ?_
    · cases hbf; exact hown
    · by_cases e : b' = b
      · subst e
        rw [hh] at hc
        cases hc
        exact ⟨new, _, hnew, hsz⟩
      · exact ⟨cs', fz', (hoth b' e).trans hc, rfl⟩
    · rw [hw']; simp [World.setRow]
    · by_cases e : b' = b
      · subst e
        rw [hh] at hy
        cases hy
        trivial
      · rw [hoth b' e, hy]; exact OthK.same
  refine land_soft_new h hr hev (fun i b' f' hi hio hd hl => ?_) ?_ (fun b1 f1 hbf => ?_) (by rw [hw']; rfl) (by rw [hw']; rfl) (by rw [hw']; rfl) (fun b' hb hm => ?_) ?_ trivial
  · have hne : b' ≠ b := fun e => by
      subst e
      exact hio (by rw [h.mem.sep i q b' f' f0 hd (mut_ne hq) hl hql]; simp)
    exact ⟨fun b1 f1 hbf => (by cases hbf; exact hne), hoth b' hne⟩
  · exact ob_of_parts hz (set_loc _ _ _ _) hnew hcs hf (hp'.mono hev)
  · cases hbf; exact h.mem.new q b f0 (mut_ne hq) hql
  · refine hoth b' fun e => ?_
    subst e
    rcases h.mem.new q b' f0 (mut_ne hq) hql with h1 | h1
    · omega
    · exact hm h1
  · refine ⟨.inr rfl, ?_⟩
    show match (Env.set _ nx _ _).ob nx with | .arr _ _ e xs => _ | _ => _
    rw [set_ob]
    refine ⟨Nat.zero_le _, Nat.le_refl _, ?_⟩
    show match (Env.set _ nx _ _).loc nx with | none => _ | some (b, off) => _
    rw [set_loc]
    exact .inl ⟨c, new, T, (0, 0), by simp, by simpa using hC, hnew, by simpa using hcap⟩

/-- The outcome of an append of nothing to nothing. -/
theorem land_nothing (h : Pre P G E w hp fr a) (hnx : ¬ E.born nx) {o : Oper} {l os : List Nat} {z : Nat} {e : Ty} {v : Value} (hr : (execOp a.eval o).run P w = .ok (.value v) w)
    (hv : (v = .slice none 0 0) ∨ ∃ q q' b f0, os = [q] ∧ (E.ob q).mut = true ∧ isA (E.ob q) = true ∧ E.loc q = some (b, f0) ∧ v = .slice q' 0 0) {ow : Prop} :
    Land P G E w hp nx o a ⟨ow, .s (.sub nx 0 0), freeze (fo hp) l ++ (kill os ++ [(nx, .arr false z e [])]), nx + 1, True⟩ := by
  rcases hv with rfl | ⟨q, q', b, f0, rfl, hq, ha, hql, rfl⟩
  · have hev : Evo E (softE E l os nx (.arr false z e []) none) w w :=
      evo_soft hnx (fun b f hbf => by cases hbf) (fun _ _ _ => rfl) (fun b' cs' T' fz' hc => ⟨cs', fz', hc, rfl⟩) (Nat.le_refl _) fun b' y hy => (by rw [hy]; exact OthK.same)
    refine land_soft_new h hr hev (fun i b' f' hi hio hd hl => ⟨fun b f hbf => (by cases hbf), rfl⟩) ⟨by simp, ?_⟩ (fun b f hbf => by cases hbf) rfl rfl rfl (fun _ _ _ => rfl) ⟨.inr rfl, ?_⟩ trivial
    · show match (Env.set _ nx _ _).loc nx with | none => _ | some (b, off) => _
      rw [set_loc]
    · show match (Env.set _ nx _ _).ob nx with | .arr _ _ e xs => _ | _ => _
      rw [set_ob]
      refine ⟨Nat.le_refl _, Nat.le_refl _, ?_⟩
      show match (Env.set _ nx _ _).loc nx with | none => _ | some (b, off) => _
      rw [set_loc]
      exact ⟨rfl, rfl⟩
  · have hev : Evo E (softE E l [q] nx (.arr false z e []) (some (b, f0))) w w :=
      evo_soft hnx (fun b1 f1 hbf _ => by cases hbf; exact .inr ⟨q, f0, hq, hql⟩) (fun _ _ _ => rfl) (fun b' cs' T' fz' hc => ⟨cs', fz', hc, rfl⟩) (Nat.le_refl _) fun b' y hy => (by rw [hy]; exact OthK.same)
    have hm := h.mem.hp q (h.mem.born_of (mut_ne hq))
    cases hx : E.ob q with
    | dead => rw [hx] at ha; cases ha
    | box cs => rw [hx] at ha; cases ha
    | lp s fr ps a b pd => rw [hx] at ha; cases ha
    | arr fz z' e' xs =>
      rw [hx] at hm hq
      obtain ⟨_, hm⟩ := hm
      rw [hql] at hm
      obtain ⟨vs, T, fzz, h1, h2, h3, _⟩ := hm
      have hfz : fz = false := by cases fz; rfl; cases hq
      refine land_soft_new h hr hev (fun i b' f' hi hio hd hl => ⟨fun b1 f1 hbf => ?_, rfl⟩) ⟨by simp, ?_⟩ (fun b1 f1 hbf => ?_) rfl rfl rfl (fun _ _ _ => rfl) ⟨.inr rfl, ?_⟩ trivial
      · cases hbf
        intro e
        subst e
        exact hio (by rw [h.mem.sep i q b' f' f0 hd (by rw [hx]; simp) hl hql]; simp)
      · show match (Env.set _ nx _ _).loc nx with | none => _ | some (b, off) => _
        rw [set_loc]
        exact ⟨vs, T, fzz, h1, fun _ => h2 hfz, by simp; omega, fun i hi => by simp at hi⟩
      · cases hbf; exact h.mem.new q b f0 (by rw [hx]; simp) hql
      · show match (Env.set _ nx _ _).ob nx with | .arr _ _ e xs => _ | _ => _
        rw [set_ob]
        refine ⟨Nat.le_refl _, Nat.le_refl _, ?_⟩
        show match (Env.set _ nx _ _).loc nx with | none => _ | some (b, off) => _
        rw [set_loc]
        exact .inr ⟨by simp, q', rfl⟩

end
end Go.Proofs.YtdepbfgnmliggaaGreatDoor.Sx
