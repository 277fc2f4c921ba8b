/- Contracts out of symbolic runs. -/
import Derived.Test.YtdepbfgnmliggaaGreatDoorSx20
namespace Go.Proofs.YtdepbfgnmliggaaGreatDoor.Sx
set_option linter.unusedSimpArgs false
set_option linter.unusedVariables false

/-- Values of results against their cells. -/
def CompsOk (E : Env) (w : World) (l : List (Bool × List S1)) (vs : List Value) : Prop :=
  vs.length = l.length ∧ ∀ (i : Nat) (bl : Bool × List S1) u, l[i]? = some bl → vs[i]? = some u →
    (bl.1 = true → ∃ us : List Value, u = .agg us.toArray ∧ S1sok E w bl.2 us) ∧ (bl.1 = false → S1sok E w bl.2 [u])

theorem CompsOk.nil {E : Env} {w : World} : CompsOk E w [] [] := ⟨rfl, fun i bl u h => by simp at h⟩

theorem CompsOk.cons {E : Env} {w : World} {bl : Bool × List S1} {u : Value} {l : List (Bool × List S1)} {vs : List Value}
    (h : (bl.1 = true → ∃ us : List Value, u = .agg us.toArray ∧ S1sok E w bl.2 us) ∧ (bl.1 = false → S1sok E w bl.2 [u])) (r : CompsOk E w l vs) : CompsOk E w (bl :: l) (u :: vs) := by
  refine ⟨by simp [r.1], fun i b v h1 h2 => ?_⟩
  cases i with
  | zero => simp at h1 h2; subst h1; subst h2; exact h
  | succ i => exact r.2 i b v (by simpa using h1) (by simpa using h2)

theorem CompsOk.uncons {E : Env} {w : World} {bl : Bool × List S1} {l : List (Bool × List S1)} {vs : List Value} (r : CompsOk E w (bl :: l) vs) :
    ∃ u us', vs = u :: us' ∧ ((bl.1 = true → ∃ us : List Value, u = .agg us.toArray ∧ S1sok E w bl.2 us) ∧ (bl.1 = false → S1sok E w bl.2 [u])) ∧ CompsOk E w l us' := by
  obtain ⟨h1, h2⟩ := r
  cases vs with
  | nil => simp at h1
  | cons u us' => exact ⟨u, us', rfl, h2 0 bl u rfl rfl, by simpa using h1, fun i b v g1 g2 => h2 (i + 1) b v (by simpa using g1) (by simpa using g2)⟩

structure InjL (E : Env) (w : World) (rs : List (Bool × Ty)) (y : (tyL rs).den) (i : Nat) (vs : List Value) (used : List Nat) (loc : Loc) (src : Nat → Option Nat) : Prop where
  cells : ∀ R : Env, (∀ o, i ≤ o → o < i + nslL rs → R.born o ∧ R.ob o = fo (resO rs y i) o ∧ R.loc o = loc o) → CompsOk R w (resL rs y i) vs
  obs : ∀ R : Env, (∀ o, i ≤ o → o < i + nslL rs → R.born o ∧ R.ob o = fo (resO rs y i) o ∧ R.loc o = loc o) → (∀ b, R.owned b → E.owned b) → ∀ o, i ≤ o → o < i + nslL rs → ObOk R w o (fo (resO rs y i) o)
  whence : ∀ o b f, i ≤ o → o < i + nslL rs → loc o = some (b, f) → ∃ q f', src o = some q ∧ E.loc q = some (b, f') ∧ (E.ob q).mut = true
  mem : ∀ o q, i ≤ o → o < i + nslL rs → src o = some q → q ∈ used
  inj : used.Nodup → ∀ o o' q, i ≤ o → o < i + nslL rs → i ≤ o' → o' < i + nslL rs → src o = some q → src o' = some q → o = o'
  wf : (tyL rs).wf y

theorem injL_ok {G : Ctx} {E : Env} {w : World} {hp : List (Nat × Ob)} (m : Mem G E w) (hob : ∀ i, E.ob i = fo hp i) :
    ∀ (rs : List (Bool × Ty)) (l : List (Bool × List S1)) (y : (tyL rs).den) (i : Nat) (vs : List Value) (p : Prop) (u : List Nat), mtL (fo hp) rs l y = some (p, u) → p → CompsOk E w l vs →
      ∃ loc src, InjL E w rs y i vs u loc src
  | [], [], y, i, vs, p, u, h, _, hl => by
    simp only [mtL, Option.some.injEq, Prod.mk.injEq] at h
    obtain ⟨_, rfl⟩ := h
    have : vs = [] := List.eq_nil_of_length_eq_zero hl.1
    subst this
    exact ⟨fun _ => none, fun _ => none, fun R _ => .nil, fun R _ _ o h1 h2 => (by simp [nslL] at h2; omega), fun o b f _ _ h => (by cases h), fun o q _ _ h => (by cases h), fun _ o o' q h1 h2 => (by simp [nslL] at h2; omega), trivial⟩
  | [], _ :: _, _, _, _, _, _, h, _, _ => by simp [mtL] at h
  | _ :: _, [], _, _, _, _, _, h, _, _ => by simp [mtL] at h
  | (b, t) :: rs, (b', cs) :: ls, y, i, vs, p, u, h, hp', hl => by
    simp only [mtL] at h
    cases hb : b == b' <;> rw [hb] at h <;> simp only [cond_true, cond_false] at h
    · cases h
    · have hbb : b = b' := by simpa using hb
      subst hbb
      split at h
      · rename_i p1 u1 p2 u2 h1 h2
        simp only [Option.some.injEq, Prod.mk.injEq] at h
        obtain ⟨rfl, rfl⟩ := h
        obtain ⟨v, vs', rfl, hv, hl'⟩ := hl.uncons
        obtain ⟨locB, srcB, jB⟩ := injL_ok m hob rs ls y.2 (i + t.nsl) vs' p2 u2 h2 hp'.2 hl'
        have hA : ∃ us locA srcA, Inj E w t y.1 i us u1 locA srcA ∧ ((b = true ∧ v = .agg us.toArray) ∨ (b = false ∧ us = [v])) := by
          cases b
          · obtain ⟨us, rest, locA, srcA, e1, s1, jA⟩ := inj_ok m hob t cs y.1 i [v] p1 u1 [] h1 hp'.1 (hv.2 rfl)
            rw [s1.nil_inv, List.append_nil] at e1
            exact ⟨us, locA, srcA, jA, .inr ⟨rfl, e1.symm⟩⟩
          · obtain ⟨us0, rfl, hk⟩ := hv.1 rfl
            obtain ⟨us, rest, locA, srcA, e1, s1, jA⟩ := inj_ok m hob t cs y.1 i us0 p1 u1 [] h1 hp'.1 hk
            rw [s1.nil_inv, List.append_nil] at e1
            exact ⟨us, locA, srcA, jA, .inl ⟨rfl, by rw [e1]⟩⟩
        obtain ⟨usA, locA, srcA, jA, hform⟩ := hA
        have kA := (injO_keys t y.1 i).1
        have kB := (resO_keys rs y.2 (i + t.nsl)).1
        have foA : ∀ o, i ≤ o → o < i + t.nsl → fo (resO ((b, t) :: rs) y i) o = fo (injO t y.1 i) o := by
          intro o _ h2
          show fo (injO t y.1 i ++ resO rs y.2 (i + t.nsl)) o = _
          by_cases hk : o ∈ keys (injO t y.1 i)
          · exact fo_app_in hk
          · rw [fo_app_out hk, fo_not hk, fo_not (fun hkb => by have := kB o hkb; omega)]
        have foB : ∀ o, i + t.nsl ≤ o → fo (resO ((b, t) :: rs) y i) o = fo (resO rs y.2 (i + t.nsl)) o := by
          intro o h1
          exact fo_app_out (fun hk => by have := kA o hk; omega)
        have hn : nslL ((b, t) :: rs) = t.nsl + nslL rs := rfl
        refine ⟨fun o => if o < i + t.nsl then locA o else locB o, fun o => if o < i + t.nsl then srcA o else srcB o, ?_⟩
        have RA : ∀ R : Env, (∀ o, i ≤ o → o < i + nslL ((b, t) :: rs) → R.born o ∧ R.ob o = fo (resO ((b, t) :: rs) y i) o ∧ R.loc o = if o < i + t.nsl then locA o else locB o) →
            (∀ o, i ≤ o → o < i + t.nsl → R.born o ∧ R.ob o = fo (injO t y.1 i) o ∧ R.loc o = locA o) ∧
            (∀ o, i + t.nsl ≤ o → o < i + t.nsl + nslL rs → R.born o ∧ R.ob o = fo (resO rs y.2 (i + t.nsl)) o ∧ R.loc o = locB o) := by
          intro R hR
          refine ⟨fun o h1 h2 => ?_, fun o h1 h2 => ?_⟩
          · obtain ⟨r1, r2, r3⟩ := hR o h1 (by omega)
            exact ⟨r1, r2.trans (foA o h1 h2), by rw [r3, if_pos h2]⟩
          · obtain ⟨r1, r2, r3⟩ := hR o (by omega) (by omega)
            exact ⟨r1, r2.trans (foB o h1), by rw [r3, if_neg (by omega)]⟩
        refine ⟨fun R hR => .cons ?_ (jB.cells R (RA R hR).2), fun R hR ho o h1 h2 => ?_, fun o b' f h1 h2 h3 => ?_, fun o q h1 h2 h3 => ?_, fun hnd o o' q h1 h2 h3 h4 h5 h6 => ?_, ⟨jA.wf, jB.wf⟩⟩
        · have hc := jA.cells R (RA R hR).1
          rcases hform with ⟨rfl, rfl⟩ | ⟨rfl, rfl⟩
          · exact ⟨fun _ => ⟨_, rfl, hc⟩, fun h => (by cases h)⟩
          · exact ⟨fun h => (by cases h), fun _ => hc⟩
        · by_cases hlt : o < i + t.nsl
          · rw [foA o h1 hlt]; exact jA.obs R (RA R hR).1 ho o h1 hlt
          · rw [foB o (by omega)]; exact jB.obs R (RA R hR).2 ho o (by omega) (by omega)
        · by_cases hlt : o < i + t.nsl
          · simp only [if_pos hlt] at h3 ⊢; exact jA.whence o b' f h1 hlt h3
          · simp only [if_neg hlt] at h3 ⊢; exact jB.whence o b' f (by omega) (by omega) h3
        · by_cases hlt : o < i + t.nsl
          · simp only [if_pos hlt] at h3; exact List.mem_append_left _ (jA.mem o q h1 hlt h3)
          · simp only [if_neg hlt] at h3; exact List.mem_append_right _ (jB.mem o q (by omega) (by omega) h3)
        · obtain ⟨n1, n2, n3⟩ := List.nodup_append.1 hnd
          by_cases hlt : o < i + t.nsl <;> by_cases hlt' : o' < i + t.nsl
          · simp only [if_pos hlt] at h5; simp only [if_pos hlt'] at h6; exact jA.inj n1 o o' q h1 hlt h3 hlt' h5 h6
          · simp only [if_pos hlt] at h5; simp only [if_neg hlt'] at h6
            exact absurd rfl (n3 q (jA.mem o q h1 hlt h5) q (jB.mem o' q (by omega) (by omega) h6))
          · simp only [if_neg hlt] at h5; simp only [if_pos hlt'] at h6
            exact absurd rfl (n3 q (jA.mem o' q h3 hlt' h6) q (jB.mem o q (by omega) (by omega) h5))
          · simp only [if_neg hlt] at h5; simp only [if_neg hlt'] at h6; exact jB.inj n2 o o' q (by omega) (by omega) (by omega) (by omega) h5 h6
      · cases h

theorem memN_iff (n : Nat) (l : List Nat) : memN n l = true ↔ n ∈ l := by
  induction l with
  | nil => simp [memN]
  | cons x l ih =>
    simp only [memN]
    cases h : x == n
    · have : ¬ n = x := by simpa using Ne.symm (by simpa using h)
      simp [ih, this]
    · have : n = x := by simpa using (show x = n by simpa using h).symm
      simp [this]

theorem nodupN_ok : ∀ {l : List Nat}, nodupN l = true → l.Nodup
  | [], _ => List.nodup_nil
  | x :: l, h => by
    simp only [nodupN, Bool.and_eq_true] at h
    refine List.nodup_cons.2 ⟨fun hx => ?_, nodupN_ok h.2⟩
    have := (memN_iff x l).2 hx
    rw [this] at h
    simp at h

def rv (tmps : Array Value) : ResultVar → Sem Value
  | .tmp t => pure (tmps.getD t undef)
  | .cell a t => do loadVar t (← asAddr (tmps.getD a undef))

section
variable {P : Program} {Cs : List Con} {G : Ctx} {B : Exit → Act → World → Prop}

theorem compOf_ok {E : Env} {w : World} {X : SV} {v : Value} {c : Bool × List S1} (hX : SVok E w X v) (h : compOf X = some c) : (c.1 = true → ∃ us : List Value, v = .agg us.toArray ∧ S1sok E w c.2 us) ∧ (c.1 = false → S1sok E w c.2 [v]) := by
  cases X <;> simp only [compOf, reduceCtorEq, Option.some.injEq] at h
  · subst h; exact ⟨fun h => (by cases h), fun _ => .one hX⟩
  · subst h; exact ⟨fun _ => hX, fun h => (by cases h)⟩

theorem load_at {E : Env} {w : World} {t : TypeId} {b : Bool} {n off blk o : Nat} (hI : aggI P t = some (b, n)) {l : List S1} {us : List Value} (hs : S1sok E w l us) (hle : off + n ≤ l.length)
    (hc : ∀ j u, us[j]? = some u → w.cell? ⟨blk, o + j, none⟩ = some u) : ∃ v, (loadVar t ⟨blk, o + off, none⟩).run P w = .ok v w ∧ SVok E w (cellOr b l off n) v := by
  have hlen : ((us.drop off).take n).length = n := by have := hs.1; simp; omega
  obtain ⟨v, hr, hv⟩ := run_load (w := w) (blk := blk) (off := o + off) hI hlen (fun j u hj => by
    have hj' : j < n := by
      have := List.getElem?_eq_some_iff.1 hj
      obtain ⟨hlt, _⟩ := this
      simp at hlt
      omega
    rw [List.getElem?_take_of_lt hj', List.getElem?_drop] at hj
    have := hc _ _ hj
    rwa [show o + off + j = o + (off + j) by omega])
  exact ⟨v, hr, cellOr_ok hs hle (aggI_run hI w).2.2 hv⟩

theorem load_ok {hp : List (Nat × Ob)} {fr : List SV} {E : Env} {w : World} {a : Act} (h : Pre P G E w hp fr a) {t : TypeId} {b : Bool} {n : Nat} (hI : aggI P t = some (b, n)) {X : SV} {va : Value} (hx : SVok E w X va) {p : Prop} {v : SV}
    (hs : sLoad (fo hp) b n X = some (p, v)) (howe : p) : ∃ ad u, va = .pointer (some ad) ∧ (loadVar t ad).run P w = .ok u w ∧ SVok E w v u := by
  unfold sLoad at hs
  split at hs
  · rename_i o off
    split at hs
    · rename_i cs ho
      simp only [Option.some.injEq, Prod.mk.injEq] at hs
      obtain ⟨rfl, rfl⟩ := hs
      have hob : E.ob o = .box cs := (h.ob o).trans ho
      obtain ⟨hb, hx⟩ := hx
      rw [hob] at hx
      obtain ⟨blk, hl, hv⟩ := hx
      have hm := h.mem.hp o hb
      rw [hob] at hm
      obtain ⟨blk', vs, T, hl', hh, hsok⟩ := hm
      rw [hl] at hl'
      cases hl'
      obtain ⟨u, h1, h2⟩ := load_at (o := 0) (blk := blk) hI hsok howe (fun j u hj => by rw [Nat.zero_add]; exact cell_of hh hj)
      rw [Nat.zero_add] at h1
      exact ⟨_, u, hv, h1, h2⟩
    · cases hs
  · rename_i o i off
    split at hs
    · rename_i fz z e xs ho
      simp only [Option.some.injEq, Prod.mk.injEq] at hs
      obtain ⟨rfl, rfl⟩ := hs
      have hob : E.ob o = .arr fz z e xs := (h.ob o).trans ho
      obtain ⟨hb, hx⟩ := hx
      rw [hob] at hx
      obtain ⟨hi, blk, f, hl, hv⟩ := hx
      have hm := h.mem.hp o hb
      rw [hob] at hm
      obtain ⟨us, hul, hc, hr⟩ := arr_cells hm hl hi
      rw [getD_of_lt hi]
      obtain ⟨u, h1, h2⟩ := load_at (o := f + i * e.n) (blk := blk) hI (cellsS_ok e us _ hr) (by rw [cellsS_len]; exact howe) hc
      exact ⟨_, u, hv, h1, h2⟩
    · cases hs
  · rename_i t' x' off
    simp only [Option.some.injEq, Prod.mk.injEq] at hs
    obtain ⟨rfl, rfl⟩ := hs
    obtain ⟨blk, f, us, hv, _, _, hul, hc, hr⟩ := hx
    obtain ⟨u, h1, h2⟩ := load_at (o := f) (blk := blk) hI (cellsS_ok t' us _ hr) (by rw [cellsS_len]; exact howe) hc
    exact ⟨_, u, hv, h1, h2⟩
  · cases hs

theorem retV_ok {hp : List (Nat × Ob)} {fr : List SV} {E : Env} {w : World} {a : Act} (h : Pre P G E w hp fr a) : ∀ (rs : List ResultVar) (p : Prop) (l : List (Bool × List S1)), retV P (fo hp) fr rs = some (p, l) → p →
    ∃ vs : List Value, (rs.mapM (rv a.tmps)).run P w = .ok vs w ∧ CompsOk E w l vs
  | [], p, l, hs, _ => by
    simp only [retV, Option.some.injEq, Prod.mk.injEq] at hs
    obtain ⟨_, rfl⟩ := hs
    exact ⟨[], by simp, .nil⟩
  | .tmp t :: rs, p, l, hs, hp' => by
    simp only [retV] at hs
    split at hs
    · rename_i c q l' hc hr
      simp only [Option.some.injEq, Prod.mk.injEq] at hs
      obtain ⟨rfl, rfl⟩ := hs
      obtain ⟨vs, h1, h2⟩ := retV_ok h rs q l' hr hp'
      refine ⟨a.tmps.getD t undef :: vs, ?_, .cons (compOf_ok (h.fr t) hc) h2⟩
      simp [List.mapM_cons, rv, h1]
    · cases hs
  | .cell t T :: rs, p, l, hs, hp' => by
    simp only [retV] at hs
    split at hs
    · rename_i b n hI
      split at hs
      · rename_i q v hv
        split at hs
        · rename_i c q' l' hc hr
          simp only [Option.some.injEq, Prod.mk.injEq] at hs
          obtain ⟨rfl, rfl⟩ := hs
          obtain ⟨vs, h1, h2⟩ := retV_ok h rs q' l' hr hp'.2
          obtain ⟨ad, u, had, hu1, hu2⟩ := load_ok h hI (h.fr t) hv hp'.1
          refine ⟨u :: vs, ?_, .cons (compOf_ok hu2 hc) h2⟩
          simp only [List.mapM_cons, rv, had, asAddr, Sem.run_bind, Sem.run_pure, Result.andThen_ok, hu1, h1]
        · cases hs
      · cases hs
    · cases hs

theorem resV_ok {E : Env} {w : World} {l : List (Bool × List S1)} {vs : List Value} (h : CompsOk E w l vs) : SVok E w (resV l) (if hs : vs.toArray.size = 1 then vs.toArray[0] else .tuple vs.toArray) := by
  unfold resV
  split
  · rename_i cs
    obtain ⟨u, us', rfl, h1, h2⟩ := h.uncons
    have : us' = [] := List.eq_nil_of_length_eq_zero h2.1
    subst this
    simp only [List.size_toArray, List.length_cons, List.length_nil, Nat.zero_add, dite_true]
    exact h1.1 rfl
  · rename_i x
    obtain ⟨u, us', rfl, h1, h2⟩ := h.uncons
    have : us' = [] := List.eq_nil_of_length_eq_zero h2.1
    subst this
    simp only [List.size_toArray, List.length_cons, List.length_nil, Nat.zero_add, dite_true]
    have := h1.2 rfl
    obtain ⟨_, _, e, h3, _⟩ := this.uncons
    cases e
    exact h3
  · rename_i hn1 hn2
    by_cases hs : vs.toArray.size = 1
    · exfalso
      have hl : l.length = 1 := by rw [← h.1]; simpa using hs
      match l, hl with
      | [(true, cs)], _ => exact hn1 cs rfl
      | [(false, cs)], _ =>
        obtain ⟨u, us', rfl, h1, h2⟩ := h.uncons
        have := (h1.2 rfl).1
        match cs, this with
        | [x], _ => exact hn2 x rfl
    · rw [dif_neg hs]
      exact ⟨vs, rfl, h.1, h.2⟩

/-- The end of a symbolic run is the end of the call. -/
theorem ret_ok {fn : Func} {S : Nat → Prop} {w0 : World} {rs : List (Bool × Ty)} {y : (tyL rs).den} {i : Nat} {st : St} {E : Env} {a : Act} {w : World} (hG : G.w0 = w0 ∧ G.mod = fun _ => False) (hbad : E.bad = S)
    (h : RetQ P fn.results.toList rs y st) (hc : Conc P G st E a w) : ∃ v, (results fn a.tmps).run P w = .ok v w ∧ ResPost S rs y i w0 (.returned v) w := by
  unfold RetQ at h
  split at h
  · rename_i p l hr
    split at h
    · rename_i q u hq
      obtain ⟨h1, h2, h3⟩ := h
      obtain ⟨vs, hv1, hv2⟩ := retV_ok hc.pre _ p l hr h1
      obtain ⟨loc, src, hj⟩ := injL_ok hc.pre.mem hc.pre.ob rs l y i vs q u hq h2 hv2
      have hrun : (results fn a.tmps).run P w = .ok (if hs : vs.toArray.size = 1 then vs.toArray[0] else .tuple vs.toArray) w := by
        have h0 : results fn a.tmps = (do let us ← fn.results.mapM (rv a.tmps); pure (if h : us.size = 1 then us[0] else .tuple us)) := by
          unfold results
          congr 1
        have h1' : (fn.results.mapM (rv a.tmps)).run P w = .ok vs.toArray w := by
          rw [Array.mapM_eq_mapM_toList]
          simp [hv1]
        rw [h0]
        simp only [Sem.run_bind, h1', Result.andThen_ok, Sem.run_pure]
      have m := hc.pre.mem
      obtain ⟨hG1, hG2⟩ := hG
      have hmod : ∀ b, ¬ G.mod b := by intro b hb; rw [hG2] at hb; exact hb
      have hR : ∀ o, i ≤ o → o < i + nslL rs → (resE S rs y i loc).born o ∧ (resE S rs y i loc).ob o = fo (resO rs y i) o ∧ (resE S rs y i loc).loc o = loc o := fun o h1 h2 => ⟨⟨h1, h2⟩, rfl, rfl⟩
      have hrange : ∀ o, fo (resO rs y i) o ≠ .dead → i ≤ o ∧ o < i + nslL rs := by
        intro o ho
        rcases Classical.em (o ∈ keys (resO rs y i)) with hk | hk
        · exact (resO_keys rs y i).1 o hk
        · exact absurd (fo_not hk) ho
      have hown : ∀ b, (resE S rs y i loc).owned b → E.owned b := by
        rintro b (hb | ⟨o, f, h1, h2⟩)
        · exact .inl (by rw [hbad]; exact hb)
        · obtain ⟨r1, r2⟩ := hrange o (mut_ne h1)
          obtain ⟨q, f', _, k2, k3⟩ := hj.whence o b f r1 r2 h2
          exact .inr ⟨q, f', k3, k2⟩
      refine ⟨_, hrun, _, rfl, ?_, hj.wf, loc, resV_ok (hj.cells _ hR), fun o ho => hj.obs _ hR hown o ho.1 ho.2, fun o o' b f f' k1 k2 k3 k4 => ?_, fun o b f k1 k2 => ?_⟩
      · rw [← hG1]
        exact ⟨m.os, m.tape, m.output, m.size, fun b hb => m.old b hb (hmod b)⟩
      · obtain ⟨r1, r2⟩ := hrange o k1
        obtain ⟨r3, r4⟩ := hrange o' k2
        obtain ⟨q, g, s1, s2, s3⟩ := hj.whence o b f r1 r2 k3
        obtain ⟨q', g', s1', s2', s3'⟩ := hj.whence o' b f' r3 r4 k4
        have e := m.sep q q' b g g' (mut_ne s3) (mut_ne s3') s2 s2'
        subst e
        exact hj.inj (nodupN_ok h3) o o' q r1 r2 r3 r4 s1 s1'
      · obtain ⟨r1, r2⟩ := hrange o k1
        obtain ⟨q, g, s1, s2, s3⟩ := hj.whence o b f r1 r2 k2
        rw [← hG1]
        exact (m.new q b g (mut_ne s3) s2).resolve_right (hmod b)
    · exact h.elim
  · exact h.elim

theorem gl_app (l r : List SV) (i : Nat) : gl (appSV l r) i = if i < l.length then gl l i else gl r (i - l.length) := by
  induction l generalizing i with
  | nil => simp [appSV]
  | cons x l ih => cases i with
    | zero => simp [appSV, gl]
    | succ i => simp [appSV, gl, ih]

theorem app_len (l r : List SV) : (appSV l r).length = l.length + r.length := by
  induction l with
  | nil => simp [appSV]
  | cons x l ih => simp [appSV, ih]; omega

theorem gl_unks (n i : Nat) : gl (unks n) i = .unk := by
  induction n generalizing i with
  | zero => rfl
  | succ n ih => cases i with
    | zero => rfl
    | succ i => exact ih i

theorem unks_len (n : Nat) : (unks n).length = n := by
  induction n with
  | zero => rfl
  | succ n ih => simp [unks, ih]

theorem argSV_ok {E : Env} {w : World} : ∀ (as : List (Bool × Ty)) (vs : List Value) (x : (tyL as).den), ArgsRd E.owned w as vs x → vs.length = (argSV as x).length ∧ ∀ (i : Nat) v, vs[i]? = some v → SVok E w (gl (argSV as x) i) v
  | [], [], _, _ => ⟨rfl, fun i v h => by simp at h⟩
  | [], _ :: _, _, h => h.elim
  | _ :: _, [], _, h => h.elim
  | (b, t) :: as, v :: vs, x, ⟨h1, h2, h3⟩ => by
    obtain ⟨hl, hv⟩ := argSV_ok as vs x.2 h3
    cases b
    · have hr := h2 rfl
      have hk := cellsS_ok t [v] x.1 hr
      refine ⟨by simp [argSV, hl], fun i u hu => ?_⟩
      cases i with
      | zero =>
        simp at hu
        subst hu
        exact hk.2 0 _ v (g1_eq _ 0 (by rw [← hk.1]; simp)) rfl
      | succ i => exact hv i u (by simpa using hu)
    · obtain ⟨us, rfl, hr⟩ := h1 rfl
      refine ⟨by simp [argSV, hl], fun i u hu => ?_⟩
      cases i with
      | zero => simp at hu; subst hu; exact ⟨us, rfl, cellsS_ok t us x.1 hr⟩
      | succ i => exact hv i u (by simpa using hu)

/-- The results' cells, as data that no block of S holds. -/
theorem rdL_ok {S : Nat → Prop} {E : Env} {w : World} {hp : List (Nat × Ob)} (hob : ∀ i, E.ob i = fo hp i) (hm : ∀ o, E.born o → ObOk E w o (E.ob o)) (hS : ∀ b, S b → E.owned b) (hI : ∀ o b f, E.ob o ≠ .dead → E.loc o = some (b, f) → ¬ S b) :
    ∀ (rs : List (Bool × Ty)) (l : List (Bool × List S1)) (y : (tyL rs).den) (vs : List Value), rdL (fo hp) rs l = some y → CompsOk E w l vs → ∀ E' : Env, (∀ b, E'.owned b → S b) → CompsOk E' w (roL rs y) vs
  | [], [], _, vs, _, h, _, _ => by
    have : vs = [] := List.eq_nil_of_length_eq_zero h.1
    subst this; exact CompsOk.nil
  | [], _ :: _, _, _, h, _, _, _ => by simp [rdL] at h
  | _ :: _, [], _, _, h, _, _, _ => by simp [rdL] at h
  | (b, t) :: rs, (b', l) :: ls, y, vs, h, hc, E', hE' => by
    simp only [rdL] at h
    cases hb : b == b' <;> rw [hb] at h <;> simp only [cond_true, cond_false] at h
    · cases h
    · have hbb : b = b' := by simpa using hb
      subst hbb
      split at h
      · rename_i x xs hx hxs
        cases h
        obtain ⟨u, us, rfl, ⟨h1, h2⟩, h3⟩ := hc.uncons
        have key : ∀ cs : List Value, S1sok E w l cs → S1sok E' w (cellsS t x) cs := by
          intro cs hcs
          obtain ⟨us', rest, l1, rfl, g1, g2, _⟩ := rdS_ok hob hm hS t l x [] cs hx (fun o _ ha b f hlo => hI o b f (fun hd => by rw [hd] at ha; cases ha) hlo) hcs
          rw [g2.nil_inv, List.append_nil]
          exact cellsS_ok t us' x (Rd.mono (Nat.le_refl _) (fun b' _ hb' => ⟨rfl, fun ho => hb' (hE' b' ho)⟩) t us' x g1)
        exact CompsOk.cons ⟨fun hb => by
          obtain ⟨cs, e, hk⟩ := h1 hb
          exact ⟨cs, e, key cs hk⟩, fun hb => key [u] (h2 hb)⟩ (rdL_ok hob hm hS hI rs ls xs us hxs h3 E' hE')
      · cases h

/-- The end of a symbolic run is the end of a call whose results may be shared. -/
theorem rets_ok {fn : Func} {S : Nat → Prop} {w0 : World} {rs : List (Bool × Ty)} {y : (tyL rs).den} {st : St} {E : Env} {a : Act} {w : World} (hG : G.w0 = w0 ∧ G.mod = fun _ => False) (hbad : E.bad = S) (hS : ∀ b, S b → b < w0.heap.size)
    (h : RetS P fn.results.toList rs y st) (hc : Conc P G st E a w) : ∃ v, (results fn a.tmps).run P w = .ok v w ∧ ShPost S rs y w0 (.returned v) w := by
  unfold RetS at h
  split at h
  · rename_i p l hr
    split at h
    · rename_i y' hq
      obtain ⟨h1, hwf, rfl⟩ := h
      obtain ⟨vs, hv1, hv2⟩ := retV_ok hc.pre _ p l hr h1
      have hrun : (results fn a.tmps).run P w = .ok (if hs : vs.toArray.size = 1 then vs.toArray[0] else .tuple vs.toArray) w := by
        have h0 : results fn a.tmps = (do let us ← fn.results.mapM (rv a.tmps); pure (if h : us.size = 1 then us[0] else .tuple us)) := by
          unfold results
          congr 1
        have h1' : (fn.results.mapM (rv a.tmps)).run P w = .ok vs.toArray w := by
          rw [Array.mapM_eq_mapM_toList]
          simp [hv1]
        rw [h0]
        simp only [Sem.run_bind, h1', Result.andThen_ok, Sem.run_pure]
      have m := hc.pre.mem
      obtain ⟨hG1, hG2⟩ := hG
      have hmod : ∀ b, ¬ G.mod b := by intro b hb; rw [hG2] at hb; exact hb
      refine ⟨_, hrun, _, rfl, ?_, hwf, fun E' hE' => resV_ok (rdL_ok hc.pre.ob m.hp (fun b hb => .inl (by rw [hbad]; exact hb)) (fun o b f k1 k2 hb => ?_) rs l y' vs hq hv2 E' hE')⟩
      · rw [← hG1]
        exact ⟨m.os, m.tape, m.output, m.size, fun b hb => m.old b hb (hmod b)⟩
      · have h2 := (m.new o b f k1 k2).resolve_right (hmod b)
        rw [hG1] at h2
        have := hS b hb
        omega
    · exact h.elim
  · exact h.elim

/-- What is owed at a contract's end. -/
def RetC (P : Program) (results : List ResultVar) (c : Con) (x : (tyL c.as).den) : St → Prop :=
  match c.sh with
  | true => RetS P results c.rs (c.F x)
  | false => RetQ P results c.rs (c.F x)

/-- A CONTRACT OUT OF A SYMBOLIC RUN. -/
theorem con_ok {c : Con} {fn : Func} {code : Code} (hf : P.funcs[c.f]? = some fn) (hb : fn.body = some code) (hn : fn.name ≠ "runtime.NumGoroutine")
    (h : ∀ x, (tyL c.as).wf x → c.pre x → ∀ (G : Ctx) (B : Exit → Act → World → Prop), G.sus = [] ∧ G.rds = [] → (∀ st E a w, RetC P fn.results.toList c x st → Conc P G st E a w → B .ret a w ∧ B .normal a w) →
      Ok P G B [.c code] ⟨appSV (argSV c.as x) (unks (fn.ntmps - c.as.length)), [], 0⟩) (hlen : c.as.length ≤ fn.ntmps) : c.Ok P where
  enters args w := by
    have : ¬ fn.name = "runtime.NumGoroutine" := hn
    simp [callFunc, hf, hb, this]
  calls S w vs x hS har hwf hpre i := by
    refine (callsIn_fr (r := none) (n := 0)).1 (callsIn_of_wp_marks hf hb trivial ?_ rfl)
    let G : Ctx := ⟨w, fun _ => False, [], S, none, [], []⟩
    let E : Env := ⟨fun _ => .dead, fun _ => none, fun _ => False, S⟩
    have hE : E.owned = S := by
      funext b
      refine propext ⟨fun h => ?_, fun h => .inl h⟩
      rcases h with h | ⟨o, f, h1, h2⟩
      · exact h
      · cases h2
    obtain ⟨hal, hav⟩ := argSV_ok (E := E) (w := w) c.as vs x (by rw [hE]; exact har)
    have hasl : ∀ (as : List (Bool × Ty)) (x : (tyL as).den), (argSV as x).length = as.length := by
      intro as
      induction as with
      | nil => intro _; rfl
      | cons p as ih => intro x; obtain ⟨b, t⟩ := p; cases b <;> simp [argSV, ih]
    refine h x hwf hpre G (bodyPostM (Fr none) 0 P fn (c.Post S x i w)) ⟨rfl, rfl⟩ (fun st E a w' hr hc => ?_) E _ w ⟨⟨⟨?_, fun _ _ => rfl, ?_, ?_, ?_, rfl, rfl, rfl, rfl, Nat.le_refl _, fun _ _ _ => rfl, ?_, fun p hp => (by cases hp), fun b hb => (by cases hb)⟩, fun _ => rfl, fun i => ?_⟩, fun _ h => h.elim, ?_, ⟨[], rfl, List.nodup_nil, fun b hb => (by cases hb)⟩, fun p hp => (by cases hp)⟩
    · have key : ∀ a' w', a'.tmps = a.tmps → Conc P G st E a' w' → ∃ v, (results fn a.tmps).run P w' = .ok v w' ∧ c.Post S x i w (.returned v) w' := fun a' w' ht hc => by
        rw [← ht]
        unfold RetC at hr
        unfold Con.Post
        cases hsh : c.sh with
        | true =>
          rw [hsh] at hr
          exact rets_ok (G := G) ⟨rfl, rfl⟩ (hc.pre.mem.bd) hS hr hc
        | false =>
          rw [hsh] at hr
          exact ret_ok (G := G) (i := i) ⟨rfl, rfl⟩ (hc.pre.mem.bd) hr hc
      exact ⟨hc.leave key, hc.leave key⟩
    · intro o ho; exact ho.elim
    · intro o o' b f f' h1; exact absurd rfl h1
    · intro o b f h1; exact absurd rfl h1
    · intro b hb; exact ⟨hS b hb, fun h => h⟩
    · intro p hp; cases hp
    · rw [gl_app]
      by_cases hi : i < (argSV c.as x).length
      · rw [if_pos hi]
        refine hav i _ ?_
        have hi' : i < vs.length := by omega
        simp [hi', Array.getElem?_append]
      · rw [if_neg hi, gl_unks]; trivial
    · simp [app_len, unks_len, hasl, hal]

end
end Go.Proofs.YtdepbfgnmliggaaGreatDoor.Sx
