/- Steps: append. -/
import Derived.Test.YtdepbfgnmliggaaGreatDoorSx10
namespace Go.Proofs.YtdepbfgnmliggaaGreatDoor.Sx
set_option linter.unusedSimpArgs false
set_option linter.unusedVariables false

theorem ObOk.soft {E : Env} {w : World} {o : Nat} {x : Ob} (h : ObOk E w o x) : ObOk E w o (frz x) := by
  cases x with
  | dead => exact h
  | box cs => exact h
  | lp s fr ps a b pd => exact h
  | arr fz z e xs =>
    obtain ⟨h1, h2⟩ := h
    refine ⟨h1, ?_⟩
    cases hl : E.loc o with
    | none => rw [hl] at h2; exact h2
    | some p =>
      obtain ⟨b, off⟩ := p
      rw [hl] at h2
      obtain ⟨vs, T, fzz, b1, _, b3, b4⟩ := h2
      exact ⟨vs, T, fzz, b1, fun hf => (by cases hf), b3, b4⟩

/-- Objects softened and one new one, at a block of its own. -/
theorem mem_soft_new {G : Ctx} {E E' : Env} {w w' : World} (m : Mem G E w) (hev : Evo E E' w w') {nx : Nat} {x : Ob}
    (hborn : ∀ i, E'.born i ↔ E.born i ∨ i = nx) (hloc : ∀ i, i ≠ nx → E'.loc i = E.loc i) (hob : ∀ i, i ≠ nx → E'.ob i = E.ob i ∨ E'.ob i = .dead ∨ E'.ob i = frz (E.ob i))
    (hx : E'.ob nx = x) (hsep : ∀ i b' f', i ≠ nx → E'.ob i ≠ .dead → E.loc i = some (b', f') → (∀ b f, E'.loc nx = some (b, f) → b' ≠ b) ∧ w'.heap[b']? = w.heap[b']?)
    (hok : ObOk E' w' nx x) (hlo : ∀ b f, E'.loc nx = some (b, f) → G.w0.heap.size ≤ b ∨ G.mod b) (os : w'.os = w.os) (tape : w'.tape = w.tape) (output : w'.output = w.output)
    (old : ∀ b, b < G.w0.heap.size → ¬ G.mod b → w'.heap[b]? = w.heap[b]?) : Mem G E' w' where
  hp o ho := by
    by_cases e : o = nx
    · subst e; rw [hx]; exact hok
    · have hb := ((hborn o).1 ho).resolve_right e
      rcases Classical.em (E'.ob o = .dead) with hd | hd
      · rw [hd]; trivial
      · have hlive : ∀ b' f', E.ob o ≠ .dead → E.loc o = some (b', f') → w'.heap[b']? = w.heap[b']? := fun b' f' _ h2 => (hsep o b' f' e hd h2).2
        have h1 := (m.hp o hb).evo hev (hloc o e) hlive
        rcases hob o e with h2 | h2 | h2
        · rw [h2]; exact h1
        · exact absurd h2 hd
        · rw [h2]; exact h1.soft
  unb o ho := by
    have hn : ¬ E.born o ∧ o ≠ nx := ⟨fun h => ho ((hborn o).2 (.inl h)), fun h => ho ((hborn o).2 (.inr h))⟩
    have hd := m.unb o hn.1
    rcases hob o hn.2 with h2 | h2 | h2
    · rw [h2]; exact hd
    · exact h2
    · rw [h2, hd]; rfl
  sep o o' b1 f1 f2 h1 h2 h3 h4 := by
    have live : ∀ i, i ≠ nx → E'.ob i ≠ .dead → E.ob i ≠ .dead := by
      intro i hi hd h0
      rcases hob i hi with k | k | k
      · exact hd (k.trans h0)
      · exact hd k
      · rw [h0] at k; exact hd k
    by_cases e1 : o = nx <;> by_cases e2 : o' = nx
    · omega
    · subst e1
      rw [hloc o' e2] at h4
      exact absurd rfl ((hsep o' b1 f2 e2 h2 h4).1 b1 f1 h3)
    · subst e2
      rw [hloc o e1] at h3
      exact absurd rfl ((hsep o b1 f1 e1 h1 h3).1 b1 f2 h4)
    · rw [hloc o e1] at h3
      rw [hloc o' e2] at h4
      exact m.sep o o' b1 f1 f2 (live o e1 h1) (live o' e2 h2) h3 h4
  new o b1 f1 h1 h2 := by
    by_cases e : o = nx
    · subst e; exact hlo b1 f1 h2
    · rw [hloc o e] at h2
      rcases hob o e with k | k | k
      · rw [k] at h1; exact m.new o b1 f1 h1 h2
      · exact absurd k h1
      · refine m.new o b1 f1 (fun h0 => h1 ?_) h2
        rw [k, h0]; rfl
  bad b hb := m.bad b (by rw [← hev.bad]; exact hb)
  bd := hev.bad.trans m.bd
  os := os.trans m.os
  tape := tape.trans m.tape
  output := output.trans m.output
  size := Nat.le_trans m.size hev.size
  old b hb hm := (old b hb hm).trans (m.old b hb hm)
  sus p hp := hev.sv (m.sus p hp)
  rdk p hp := (m.rdk p hp).evo hev
  mks b hb := hev.oth b _ (m.mks b hb)

section
variable {P : Program} {G : Ctx} {E : Env} {w : World} {hp : List (Nat × Ob)} {nx : Nat} {fr : List SV} {a : Act}
variable {d : Option Tmp} {ty : TypeId} {pos : String} {af : Array Edge} {gd : Option (Nat × Bool)}

/-- A slice that is read: its value, its elements' cells. -/
structure Row (S : Nat → Prop) (w : World) (e : Ty) (v : Value) (ys : List e.den) : Prop where
  form : (ys = [] ∧ ∃ q c, v = .slice q 0 c) ∨ (ys ≠ [] ∧ ∃ b off c, v = .slice (some ⟨b, off, none⟩) ys.length c ∧ ys.length ≤ c ∧ b < w.heap.size ∧
    ∀ i (h : i < ys.length), ∃ us : List Value, us.length = e.n ∧ (∀ j u, us[j]? = some u → w.cell? ⟨b, off + i * e.n + j, none⟩ = some u) ∧ Rd S w e us ys[i])

theorem row_of_rd {S : Nat → Prop} {z : Nat} {e : Ty} {v : Value} {ys : List e.den} (h : Rd S w (.slice z e) [v] ys) : Row S w e v ys := by
  obtain ⟨_, ⟨q, c, e1, e0⟩ | ⟨b, off, c, e1, hc, hne, _, hlt, hx⟩⟩ := h
  · exact ⟨.inl ⟨e0, q, c, by simpa using e1⟩⟩
  · exact ⟨.inr ⟨hne, b, off, c, by simpa using e1, hc, hlt, hx⟩⟩

theorem row_of (h : Pre P G E w hp fr a) {z : Nat} {e : Ty} {X : SV} {v : Value} {ys : List e.den} (hX : SVok E w X v) (hs : sList (fo hp) z e X = some ys) : Row E.owned w e v ys ∧ ys.length * z ≤ 140737488355328 := by
  cases X with
  | s x =>
    simp only [sList] at hs
    split at hs
    · rename_i ys' hr
      cases hs
      cases x with
      | ro t y =>
        simp only [rdS] at hr
        split at hr
        · rename_i y' hy
          obtain ⟨e', rfl⟩ := cast_some hy
          subst e'
          simp only [Option.some.injEq, Prod.mk.injEq, and_true] at hr
          subst hr
          exact ⟨row_of_rd hX, hX.1⟩
        · cases hr
      | nils =>
        simp only [rdS, Option.some.injEq, Prod.mk.injEq, and_true] at hr
        subst hr
        exact ⟨⟨.inl ⟨rfl, none, 0, hX⟩⟩, by simp⟩
      | sub o lo hi =>
        simp only [rdS] at hr
        split at hr
        · rename_i fz z' e' xs ho
          split at hr
          · rename_i ys2 hy
            obtain ⟨e2, rfl⟩ := cast_some hy
            cases e2
            simp only [Option.some.injEq, Prod.mk.injEq, and_true] at hr
            subst hr
            have hob : E.ob o = .arr fz z e xs := (h.ob o).trans ho
            have hm := h.mem.hp o hX.1
            rw [hob] at hm
            have h0 : Rd (fun _ => False) w (.slice z e) [v] _ := sub_rd (S' := fun _ => False) (fun _ hb => hb.elim) hob hm hX (fun _ _ _ hf => hf)
            refine ⟨?_, h0.1⟩
            have hX' := hX
            obtain ⟨_, hX'⟩ := hX'
            rw [hob] at hX'
            obtain ⟨h1, h2, h3⟩ := hX'
            have hlen : ((xs.drop lo).take (hi - lo)).length = hi - lo := by simp; omega
            by_cases hne : (xs.drop lo).take (hi - lo) = []
            · rw [hne] at h0 ⊢
              exact row_of_rd (z := z) (S := E.owned) ⟨by simp, by
                obtain ⟨_, ⟨q, c, e1, e0⟩ | ⟨b, off, c, e1, hc, hne', _⟩⟩ := h0
                · exact .inl ⟨q, c, e1, rfl⟩
                · exact absurd rfl hne'⟩
            · cases hl : E.loc o with
              | none => rw [hl] at h3; obtain ⟨_, rfl⟩ := h3; simp at hne
              | some q =>
                obtain ⟨b, off⟩ := q
                rw [hl] at h3
                rcases h3 with ⟨c, cs, T, fzz, rfl, hc, hh, _⟩ | ⟨hle, _⟩
                · refine ⟨.inr ⟨hne, b, off + lo * e.n, c, by rw [hlen], by rw [hlen]; omega, lt_of_row hh, fun i hi' => ?_⟩⟩
                  rw [hlen] at hi'
                  obtain ⟨us, hul, hcell, hr⟩ := arr_cells hm hl (show lo + i < xs.length by omega)
                  have e3 : ((xs.drop lo).take (hi - lo))[i]'(by rw [hlen]; exact hi') = xs[lo + i] := by simp
                  rw [e3]
                  refine ⟨us, hul, fun j u hj => ?_, hr⟩
                  have e4 : off + lo * e.n + i * e.n + j = off + (lo + i) * e.n + j := by rw [Nat.add_mul]; omega
                  rw [e4]; exact hcell j u hj
                · have h0' : hi - lo = 0 := by omega
                  rw [h0'] at hne; simp at hne
          · cases hr
        · cases hr
      | _ => simp [rdS] at hr
    · cases hs
  | _ => simp [sList] at hs

/-- The cells of a row, one behind the other. -/
theorem flat {S : Nat → Prop} {e : Ty} {b off : Nat} {ys : List e.den}
    (hx : ∀ i (h : i < ys.length), ∃ us : List Value, us.length = e.n ∧ (∀ j u, us[j]? = some u → w.cell? ⟨b, off + i * e.n + j, none⟩ = some u) ∧ Rd S w e us ys[i]) :
    ∃ news : List Value, news.length = ys.length * e.n ∧ (∀ j u, news[j]? = some u → w.cell? ⟨b, off + j, none⟩ = some u) ∧ ∀ i (h : i < ys.length), Rd S w e ((news.drop (i * e.n)).take e.n) ys[i] := by
  have key : ∀ j, j < ys.length * e.n → ∃ u, w.cell? ⟨b, off + j, none⟩ = some u := by
    intro j hj
    have hn : 0 < e.n := by
      rcases Nat.eq_zero_or_pos e.n with h | h
      · rw [h] at hj; simp at hj
      · exact h
    have hi : j / e.n < ys.length := (Nat.div_lt_iff_lt_mul hn).2 hj
    obtain ⟨us, hul, hc, _⟩ := hx (j / e.n) hi
    have hm : j % e.n < us.length := by rw [hul]; exact Nat.mod_lt _ hn
    refine ⟨us[j % e.n], ?_⟩
    have := hc (j % e.n) us[j % e.n] (List.getElem?_eq_getElem hm)
    rwa [show off + j / e.n * e.n + j % e.n = off + j by rw [Nat.add_assoc, Nat.mul_comm, Nat.div_add_mod]] at this
  refine ⟨(List.range (ys.length * e.n)).map fun j => (w.cell? ⟨b, off + j, none⟩).getD undef, by simp, fun j u hj => ?_, fun i hi => ?_⟩
  · have hjl := (List.getElem?_eq_some_iff.1 hj).1
    simp only [List.length_map, List.length_range] at hjl
    obtain ⟨u', hu'⟩ := key j hjl
    simp only [List.getElem?_map, List.getElem?_range hjl, Option.map_some, hu', Option.getD_some, Option.some.injEq] at hj
    rw [hu', hj]
  · obtain ⟨us, hul, hc, hr⟩ := hx i hi
    have hle : i * e.n + e.n ≤ ys.length * e.n := by have := Nat.mul_le_mul_right e.n (show i + 1 ≤ ys.length from hi); rw [Nat.add_mul] at this; omega
    have : ((((List.range (ys.length * e.n)).map fun j => (w.cell? ⟨b, off + j, none⟩).getD undef).drop (i * e.n)).take e.n) = us := by
      apply List.ext_getElem?
      intro j
      by_cases hj : j < e.n
      · rw [List.getElem?_take_of_lt hj, List.getElem?_drop]
        have hjl : i * e.n + j < ys.length * e.n := by omega
        have hju : j < us.length := by omega
        have := hc j us[j] (List.getElem?_eq_getElem hju)
        rw [List.getElem?_eq_getElem hju]
        rw [Nat.add_assoc] at this
        simp only [List.getElem?_map, List.getElem?_range hjl, Option.map_some, this, Option.getD_some]
      · rw [List.getElem?_eq_none (by simp; omega), List.getElem?_eq_none (by omega)]
    rw [this]; exact hr

/-- append of nothing. -/
theorem run_app_none {t : TypeId} {e : Ty} {z : Nat} (hI : elemI P t = some (e, z)) (tt : TypeId) (q : Option Addr) (n c : Nat) (hn : n ≤ c) (q' : Option Addr) (c' : Nat) :
    (Builtin.append_ #[t, t] tt #[.slice q n c, .slice q' 0 c']).run P w = .ok (.slice q n c) w := by
  obtain ⟨el, inf, zv, hu, hi, hs, _⟩ := elemI_run hI
  cases q with
  | none => cases q' <;> simp [Builtin.append_, run_underlying hu, sizeOf, typeInfo, hi, Builtin.lenOf, hn, Builtin.firstCells, loadCells, loadCellsFrom]
  | some b => cases q' <;> simp [Builtin.append_, run_underlying hu, sizeOf, typeInfo, hi, Builtin.lenOf, hn, Builtin.firstCells, loadCells, loadCellsFrom, storeCells]

/-- append where there is room. -/
theorem run_app_room {t : TypeId} {e : Ty} {z : Nat} (hI : elemI P t = some (e, z)) (tt : TypeId) {b p n c m c' : Nat} {q' : Addr} {cur : Array Value} {T : TypeId} (hh : w.heap[b]? = some (.cells cur T (0, 0)))
    {news : List Value} (hl : news.length = m * e.n) (hc : ∀ j u, news[j]? = some u → w.cell? (q'.add j) = some u) (h1 : ∀ u ∈ news, u.oneCell' = true) (hroom : n + m ≤ c) (hcap : p + c * e.n ≤ cur.size) :
    (Builtin.append_ #[t, t] tt #[.slice (some ⟨b, p, none⟩) n c, .slice (some q') m c']).run P w =
      .ok (.slice (some ⟨b, p, none⟩) (n + m) c) (w.setRow b (splice cur.toList (p + n * e.n) news).toArray) := by
  obtain ⟨el, inf, zv, hu, hi, hs, _⟩ := elemI_run hI
  have hf := run_firstCells_some (P := P) w e.n m q' m c' news hl hc
  have hle := Nat.mul_le_mul_right e.n hroom
  rw [Nat.add_mul] at hle
  have hst := run_storeCells_at P b (p + n * e.n) T news 0 cur w hh (by omega) h1
  simp only [Nat.add_zero] at hst
  simp [Builtin.append_, run_underlying hu, sizeOf, typeInfo, hi, hs, Builtin.lenOf, hroom, hf, add_lit', hst, splice]

def softE (E : Env) (l os : List Nat) (nx : Nat) (x : Ob) (L : Option (Nat × Nat)) : Env := ((E.frozen l).killed os).set nx x L

theorem softE_ne {l os : List Nat} {x : Ob} {L : Option (Nat × Nat)} {i : Nat} (hi : i ≠ nx) :
    (softE E l os nx x L).ob i = (if i ∈ os then .dead else if i ∈ l ∧ isA (E.ob i) = true then frz (E.ob i) else E.ob i) ∧ (softE E l os nx x L).loc i = E.loc i := by
  refine ⟨?_, ?_⟩
  · show ((_ : Env).set nx x L).ob i = _
    rw [set_ob_ne _ _ _ hi]
    rfl
  · show ((_ : Env).set nx x L).loc i = _
    rw [set_loc_ne _ _ _ hi]
    rfl

theorem softE_or {l os : List Nat} {x : Ob} {L : Option (Nat × Nat)} {i : Nat} (hi : i ≠ nx) :
    (softE E l os nx x L).ob i = E.ob i ∨ (softE E l os nx x L).ob i = .dead ∨ (softE E l os nx x L).ob i = frz (E.ob i) := by
  rw [(softE_ne hi).1]
  by_cases h1 : i ∈ os
  · rw [if_pos h1]; exact .inr (.inl rfl)
  · rw [if_neg h1]
    by_cases h2 : i ∈ l ∧ isA (E.ob i) = true
    · rw [if_pos h2]; exact .inr (.inr rfl)
    · rw [if_neg h2]; exact .inl rfl

theorem softE_hp (hob : ∀ i, E.ob i = fo hp i) (l os : List Nat) (x : Ob) (L : Option (Nat × Nat)) (i : Nat) :
    (softE E l os nx x L).ob i = fo (uos hp (freeze (fo hp) l ++ (kill os ++ [(nx, x)]))) i := by
  rw [uos_append, uos_append]
  simp only [uos, fo_uo]
  by_cases hi : i = nx
  · subst hi; rw [if_pos rfl]; exact set_ob _ _ _ _
  · rw [if_neg hi, fo_kill, fo_freeze, (softE_ne hi).1, hob]

theorem evo_soft {w' : World} {l os : List Nat} {x : Ob} {L : Option (Nat × Nat)} (hnx : ¬ E.born nx) (hb : ∀ b f, L = some (b, f) → b < w.heap.size → E.owned b)
    (hmem : ∀ b, b < w.heap.size → ¬ E.owned b → w'.heap[b]? = w.heap[b]?)
    (hblk : ∀ (b : Nat) (cs : Array Value) (T : TypeId) (fz : Nat × Nat), w.heap[b]? = some (Obj.cells cs T fz) → ∃ (cs' : Array Value) (fz' : Nat × Nat), w'.heap[b]? = some (Obj.cells cs' T fz') ∧ cs'.size = cs.size)
    (hsize : w.heap.size ≤ w'.heap.size) (hoth : ∀ (b : Nat) (y : Obj), w.heap[b]? = some y → OthK y w'.heap[b]?) : Evo E (softE E l os nx x L) w w' where
  born i hi := .inl hi
  keep i hi := by
    have hne : i ≠ nx := fun e => hnx (e ▸ hi)
    rw [(softE_ne hne).2]
    rcases softE_or (E := E) (l := l) (os := os) (x := x) (L := L) hne with h | h | h
    · rw [h]
      cases hx : E.ob i with
      | dead => exact .inl rfl
      | box cs => exact .inr ⟨rfl, rfl⟩
      | arr fz z e xs => exact .inr ⟨⟨rfl, rfl, rfl⟩, rfl⟩
      | lp s fr ps a b pd => exact .inr ⟨trivial, rfl⟩
    · exact .inl h
    · rw [h]
      cases hx : E.ob i with
      | dead => exact .inl rfl
      | box cs => exact .inr ⟨rfl, rfl⟩
      | arr fz z e xs => exact .inr ⟨⟨rfl, rfl, rfl⟩, rfl⟩
      | lp s fr ps a b pd => exact .inr ⟨trivial, rfl⟩
  own b hbl ho := by
    rcases ho with ho | ⟨j, f, h1, h2⟩
    · exact .inl ho
    by_cases hj : j = nx
    · subst hj
      exact hb b f (by rw [← h2]; exact (set_loc _ _ _ _).symm) hbl
    · rw [(softE_ne hj).2] at h2
      rcases softE_or (E := E) (l := l) (os := os) (x := x) (L := L) hj with h | h | h
      · rw [h] at h1; exact .inr ⟨j, f, h1, h2⟩
      · rw [h] at h1; cases h1
      · rw [h] at h1
        cases hx : E.ob j with
        | dead => rw [hx] at h1; cases h1
        | box cs => exact .inr ⟨j, f, by rw [hx]; rfl, h2⟩
        | lp s fr ps a b' pd => exact .inr ⟨j, f, by rw [hx]; rfl, h2⟩
        | arr fz z e xs => rw [hx] at h1; cases h1
  mem := hmem
  blk := hblk
  size := hsize
  bad := rfl
  oth := hoth

theorem land_soft_new (h : Pre P G E w hp fr a) {o : Oper} {l os : List Nat} {x : Ob} {L : Option (Nat × Nat)} {v : Value} {w' : World} {X : SV} {ow gv : Prop}
    (hr : (execOp a.eval o).run P w = .ok (.value v) w') (hev : Evo E (softE E l os nx x L) w w')
    (hsep : ∀ i b' f', i ≠ nx → i ∉ os → E.ob i ≠ .dead → E.loc i = some (b', f') → (∀ b f, L = some (b, f) → b' ≠ b) ∧ w'.heap[b']? = w.heap[b']?)
    (hok : ObOk (softE E l os nx x L) w' nx x) (hlo : ∀ b f, L = some (b, f) → G.w0.heap.size ≤ b ∨ G.mod b) (os' : w'.os = w.os) (tape : w'.tape = w.tape) (output : w'.output = w.output)
    (old : ∀ b, b < G.w0.heap.size → ¬ G.mod b → w'.heap[b]? = w.heap[b]?) (hX : SVok (softE E l os nx x L) w' X v) (hg : gv) :
    Land P G E w hp nx o a ⟨ow, X, freeze (fo hp) l ++ (kill os ++ [(nx, x)]), nx + 1, gv⟩ := by
  intro K B hK
  unfold Oper.wp
  rw [hr, Oper.upon_value]
  refine hK v w' _ (mem_soft_new h.mem hev (nx := nx) (x := x) (fun i => Iff.rfl) (fun i hi => (softE_ne hi).2) (fun i hi => softE_or hi) (set_ob _ _ _ _) (fun i b' f' hi hd hl => ?_) hok ?_ os' tape output old)
    hev (softE_hp h.ob l os x L) (fun i hi => hi.imp id fun e => by subst e; exact ⟨Nat.le_refl _, by simp⟩) hX hg
  · have hni : i ∉ os := by
      intro hio
      rw [(softE_ne hi).1, if_pos hio] at hd
      exact hd rfl
    have hdE : E.ob i ≠ .dead := by
      intro h0
      apply hd
      rw [(softE_ne hi).1, if_neg hni, h0]
      simp [isA]
    have := hsep i b' f' hi hni hdE hl
    refine ⟨fun b f hbf => this.1 b f ?_, this.2⟩
    rw [← hbf]; exact (set_loc _ _ _ _).symm
  · intro b f hbf
    refine hlo b f ?_
    rw [← hbf]; exact (set_loc _ _ _ _).symm

end
end Go.Proofs.YtdepbfgnmliggaaGreatDoor.Sx
