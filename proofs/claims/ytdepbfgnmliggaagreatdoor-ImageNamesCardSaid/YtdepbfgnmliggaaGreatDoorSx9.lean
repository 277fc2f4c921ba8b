/- Steps: stores into objects. -/
import Derived.Test.YtdepbfgnmliggaaGreatDoorSx8
namespace Go.Proofs.YtdepbfgnmliggaaGreatDoor.Sx
set_option linter.unusedSimpArgs false
set_option linter.unusedVariables false

/-- vs laid over l from p on. -/
def splice (l : List Value) (p : Nat) (vs : List Value) : List Value := l.take p ++ vs ++ l.drop (p + vs.length)

theorem splice_len {l : List Value} {p : Nat} {vs : List Value} (h : p + vs.length ≤ l.length) : (splice l p vs).length = l.length := by
  simp [splice]; omega

theorem splice_get {l : List Value} {p : Nat} {vs : List Value} (h : p + vs.length ≤ l.length) (j : Nat) :
    (splice l p vs)[j]? = if j < p then l[j]? else if j < p + vs.length then vs[j - p]? else l[j]? := by
  unfold splice
  have h1 : (l.take p).length = p := by simp; omega
  by_cases h2 : j < p
  · rw [if_pos h2, List.append_assoc, List.getElem?_append_left (by omega), List.getElem?_take_of_lt h2]
  · rw [if_neg h2]
    by_cases h3 : j < p + vs.length
    · rw [if_pos h3, List.getElem?_append_left (by simp; omega), List.getElem?_append_right (by omega), h1]
    · rw [if_neg h3, List.getElem?_append_right (by simp; omega), List.getElem?_drop]
      congr 1
      simp
      omega

/-- A part of a laid list that the laying does not meet. -/
theorem splice_part {l : List Value} {p : Nat} {vs : List Value} (h : p + vs.length ≤ l.length) {q n : Nat} (hd : q + n ≤ p ∨ p + vs.length ≤ q) :
    ((splice l p vs).drop q).take n = (l.drop q).take n := by
  apply List.ext_getElem?
  intro j
  by_cases hj : j < n
  · rw [List.getElem?_take_of_lt hj, List.getElem?_take_of_lt hj, List.getElem?_drop, List.getElem?_drop, splice_get h]
    by_cases h1 : q + j < p
    · rw [if_pos h1]
    · rw [if_neg h1, if_neg (by omega)]
  · rw [List.getElem?_eq_none (by simp; omega), List.getElem?_eq_none (by simp; omega)]

/-- A part of a laid list within which the laying lies. -/
theorem splice_in {l : List Value} {p : Nat} {vs : List Value} (h : p + vs.length ≤ l.length) {q n : Nat} (h1 : q ≤ p) (h2 : p + vs.length ≤ q + n) (hq : q + n ≤ l.length) :
    ((splice l p vs).drop q).take n = splice ((l.drop q).take n) (p - q) vs := by
  apply List.ext_getElem?
  intro j
  have hlen : ((l.drop q).take n).length = n := by simp; omega
  rw [splice_get (l := (l.drop q).take n) (by rw [hlen]; omega)]
  by_cases hj : j < n
  · rw [List.getElem?_take_of_lt hj, List.getElem?_drop, splice_get h]
    by_cases h3 : j < p - q
    · rw [if_pos (show q + j < p by omega), if_pos h3, List.getElem?_take_of_lt hj, List.getElem?_drop]
    · rw [if_neg (show ¬ q + j < p by omega), if_neg h3]
      by_cases h4 : j < p - q + vs.length
      · rw [if_pos (show q + j < p + vs.length by omega), if_pos h4]; congr 1; omega
      · rw [if_neg (show ¬ q + j < p + vs.length by omega), if_neg h4, List.getElem?_take_of_lt hj, List.getElem?_drop]
  · rw [List.getElem?_eq_none (by simp; omega), if_neg (by omega), if_neg (by omega), List.getElem?_eq_none (by simp; omega)]

theorem lay_len (l : List S1) (p : Nat) (ws : List S1) : (lay l p ws).length = l.length := by
  induction l generalizing p ws with
  | nil => rfl
  | cons x l ih => cases ws with
    | nil => simp [lay]
    | cons y ws => cases p with
      | zero => simp [lay, ih]
      | succ p => simp [lay, ih]

section
variable {P : Program} {G : Ctx} {E : Env} {w : World} {hp : List (Nat × Ob)} {nx : Nat} {fr : List SV} {a : Act}
variable {d : Option Tmp} {ty : TypeId} {pos : String} {af : Array Edge} {gd : Option (Nat × Bool)}

theorem lay_nil (l : List S1) (p : Nat) : lay l p [] = l := by
  cases l with
  | nil => rfl
  | cons x l => simp [lay]

theorem lay_ok {l : List S1} {us : List Value} (hl : S1sok E w l us) : ∀ {p : Nat} {ws : List S1} {vs : List Value}, S1sok E w ws vs → p + ws.length ≤ l.length → S1sok E w (lay l p ws) (splice us p vs) := by
  induction l generalizing us with
  | nil =>
    intro p ws vs hw hle
    have : ws = [] := List.eq_nil_of_length_eq_zero (by have h0 : p + ws.length ≤ 0 := hle; omega)
    subst this
    rw [hw.nil_inv, hl.nil_inv]
    simpa [lay, splice] using S1sok.nil
  | cons x l ih =>
    intro p ws vs hw hle
    obtain ⟨u, us, rfl, h1, h2⟩ := hl.uncons
    cases ws with
    | nil =>
      rw [hw.nil_inv, lay_nil]
      have : splice (u :: us) p [] = u :: us := by simp [splice]
      rw [this]
      exact .cons h1 h2
    | cons y ws =>
      obtain ⟨v, vs', rfl, h3, h4⟩ := hw.uncons
      cases p with
      | zero =>
        have e : splice (u :: us) 0 (v :: vs') = v :: splice us 0 vs' := by simp [splice, Nat.add_comm]
        rw [e]
        exact .cons h3 (ih h2 h4 (by simp at hle ⊢; omega))
      | succ p =>
        have e : splice (u :: us) (p + 1) (v :: vs') = u :: splice us p (v :: vs') := by
          have e1 : p + 1 + (v :: vs').length = (p + (v :: vs').length) + 1 := by omega
          simp only [splice, List.take_succ_cons, e1, List.drop_succ_cons, List.cons_append]
        rw [e]
        exact .cons h1 (ih h2 (.cons h3 h4) (by simp at hle ⊢; omega))

/-- An object's own block written: what has become of the memory. -/
theorem evo_row (m : Mem G E w) {o b f : Nat} {x' : Ob} (hmut : (E.ob o).mut = true) (hl : E.loc o = some (b, f)) {old new : Array Value} {T : TypeId} {fz : Nat × Nat} (hh : w.heap[b]? = some (.cells old T fz))
    (hsz : new.size = old.size) (hsame : same (E.ob o) x') : Evo E (E.set o x' (some (b, f))) w (w.setRow b new) where
  born j hj := .inl hj
  keep j hj := by
    by_cases e : j = o
    · subst e; rw [set_ob, set_loc]; exact .inr ⟨hsame, hl.symm⟩
    · rw [set_ob_ne _ _ _ e, set_loc_ne _ _ _ e]
      cases hx : E.ob j with
      | dead => exact .inl rfl
      | box cs => exact .inr ⟨rfl, rfl⟩
      | arr fz z e xs => exact .inr ⟨⟨rfl, rfl, rfl⟩, rfl⟩
      | lp s fr ps a b pd => exact .inr ⟨trivial, rfl⟩
  own b' hb ho := by
    rcases ho with ho | ⟨j, f', h1, h2⟩
    · exact .inl ho
    by_cases e : j = o
    · subst e
      rw [set_loc] at h2
      cases h2
      exact .inr ⟨j, f, hmut, hl⟩
    · rw [set_ob_ne _ _ _ e] at h1
      rw [set_loc_ne _ _ _ e] at h2
      exact .inr ⟨j, f', h1, h2⟩
  mem b' _ ho := setRow_other w b b' new (fun e => ho (e ▸ .inr ⟨o, f, hmut, hl⟩))
  blk b' cs T' fz' hc := by
    by_cases e : b' = b
    · subst e
      rw [hh] at hc
      cases hc
      exact ⟨new, fz, setRow_heap w b' old new T fz hh, hsz⟩
    · exact ⟨cs, fz', (setRow_other w b b' new e).trans hc, rfl⟩
  size := by simp [World.setRow]
  bad := rfl
  oth b' x hx := by
    by_cases e : b' = b
    · subst e
      rw [hh] at hx
      cases hx
      trivial
    · rw [setRow_other w b b' new e, hx]; exact OthK.same

theorem mem_row (m : Mem G E w) {o b f : Nat} {x' : Ob} (hmut : (E.ob o).mut = true) (hl : E.loc o = some (b, f)) {old new : Array Value} {T : TypeId} {fz : Nat × Nat} (hh : w.heap[b]? = some (.cells old T fz))
    (hsz : new.size = old.size) (hsame : same (E.ob o) x') (hok : Evo E (E.set o x' (some (b, f))) w (w.setRow b new) → ObOk (E.set o x' (some (b, f))) (w.setRow b new) o x') :
    Mem G (E.set o x' (some (b, f))) (w.setRow b new) := by
  have hev := evo_row m hmut hl hh hsz hsame
  have hlive : E.ob o ≠ .dead := mut_ne hmut
  have hx' : x' ≠ .dead := by intro e; rw [e] at hsame; cases hx : E.ob o <;> rw [hx] at hsame <;> exact hsame
  refine m.step hev (fun j => j = o) (fun j hb hne => ?_) (fun j hj => by subst hj; rw [set_ob]; exact hok hev) (fun j hb => ?_) (fun p p' b' g g' h1 h2 h3 h4 => ?_) (fun p b' g h1 h2 => ?_) rfl rfl rfl (fun b' hb hm => ?_)
  · have hb' : E.born j := hb.resolve_right hne
    refine ⟨hb', set_ob_ne _ _ _ hne, set_loc_ne _ _ _ hne, fun b' g hd hl' => setRow_other w b b' new fun e => hne ?_⟩
    subst e
    exact m.sep j o b' g f hd hlive hl' hl
  · have hne : j ≠ o := fun e => hb (.inr e)
    rw [set_ob_ne _ _ _ hne]
    exact m.unb j fun h => hb (.inl h)
  · have hl1 : ∀ q, (E.set o x' (some (b, f))).loc q = E.loc q := by
      intro q
      by_cases e : q = o
      · subst e; rw [set_loc, hl]
      · rw [set_loc_ne _ _ _ e]
    have hd1 : ∀ q, (E.set o x' (some (b, f))).ob q ≠ .dead → E.ob q ≠ .dead := by
      intro q hq
      by_cases e : q = o
      · subst e; exact hlive
      · rw [set_ob_ne _ _ _ e] at hq; exact hq
    rw [hl1] at h3 h4
    exact m.sep p p' b' g g' (hd1 p h1) (hd1 p' h2) h3 h4
  · by_cases e : p = o
    · subst e
      rw [set_loc] at h2
      cases h2
      exact m.new p b f hlive hl
    · rw [set_ob_ne _ _ _ e] at h1
      rw [set_loc_ne _ _ _ e] at h2
      exact m.new p b' g h1 h2
  · refine setRow_other w b b' new fun e => ?_
    subst e
    rcases m.new o b' f hlive hl with h | h
    · omega
    · exact hm h

theorem run_storeVar {t : TypeId} {bb : Bool} {n : Nat} (hI : aggI P t = some (bb, n)) {v : Value} {vs : List Value} (hv : v.cells = vs.toArray) (hn : vs.length = n) (h1 : ∀ u ∈ vs, u.oneCell' = true)
    {b o : Nat} {cur : Array Value} {T : TypeId} (hh : w.heap[b]? = some (.cells cur T (0, 0))) (hle : o + n ≤ cur.size) :
    (storeVar t ⟨b, o, none⟩ v).run P w = .ok () (w.setRow b (splice cur.toList o vs).toArray) := by
  obtain ⟨_, h2, _⟩ := aggI_run hI w
  have hst := run_storeCells_at P b o T vs 0 cur w hh (by omega) h1
  simp only [Nat.add_zero] at hst
  simp [storeVar, h2, hv, hn, hst, splice]

theorem land_store_box (h : Pre P G E w hp fr a) {t : TypeId} {x y : Operand} {bb : Bool} {n : Nat} (hI : aggI P t = some (bb, n)) {Y : SV} {ow : Prop} {o off : Nat} {cs : List S1}
    (hx : SVok E w (.s (.pb o off)) (a.eval x)) (hy : SVok E w Y (a.eval y)) (ho : fo hp o = .box cs) (hs : shape bb Y = true) (ht : stl Y.cells = true) (hle : off + n ≤ cs.length) (hn : Y.cells.length = n) :
    Land P G E w hp nx ⟨d, .store t x y, ty, pos, af, gd⟩ a ⟨ow, .unk, [(o, .box (lay cs off Y.cells))], nx, True⟩ := by
  intro K B hK
  obtain ⟨vs, hv, hok⟩ := cells_ok hy hs (fun _ => ht)
  have hob : E.ob o = .box cs := (h.ob o).trans ho
  obtain ⟨hb, hx⟩ := hx
  rw [hob] at hx
  obtain ⟨b, hl, hxv⟩ := hx
  have hm := h.mem.hp o hb
  rw [hob] at hm
  obtain ⟨b', cur, T, hl', hh, hsok⟩ := hm
  rw [hl] at hl'
  cases hl'
  have hcl : cur.toList.length = cs.length := hsok.1
  have hvl : vs.length = n := hok.1.trans hn
  have hcs : cur.size = cs.length := by simpa using hcl
  have hst := run_storeVar (w := w) hI hv hvl (stl_one ht hok) hh (o := off) (by omega)
  have hle' : off + vs.length ≤ cur.toList.length := by omega
  have hsz : (splice cur.toList off vs).toArray.size = cur.size := by simp [splice_len hle']
  have hmut : (E.ob o).mut = true := by rw [hob]; rfl
  have hsame : same (E.ob o) (.box (lay cs off Y.cells)) := by rw [hob]; exact lay_len _ _ _
  unfold Oper.wp
  have hr : (execOp a.eval ⟨d, .store t x y, ty, pos, af, gd⟩).run P w = .ok .skip (w.setRow b (splice cur.toList off vs).toArray) := by
    simp [execOp, Instr.storeAt, hxv, Instr.sureAddr, hst]
  rw [hr, Oper.upon_skip]
  have hev := evo_row h.mem hmut hl hh hsz hsame
  refine hK undef _ _ (mem_row h.mem hmut hl hh hsz hsame fun hev => ?_) hev (fun i => ?_) (fun i hi => ?_) trivial trivial
  · refine ⟨b, _, T, set_loc _ _ _ _, setRow_heap w b cur _ T _ hh, ?_⟩
    exact lay_ok (hev.s1s hsok) (hev.s1s hok) (by omega)
  · simp only [uos, fo_uo]
    by_cases hi : i = o
    · subst hi; rw [set_ob, if_pos rfl]
    · rw [set_ob_ne _ _ _ hi, if_neg hi]; exact h.ob i
  · rcases hi with hi | rfl
    · exact .inl hi
    · exact .inl hb

end
end Go.Proofs.YtdepbfgnmliggaaGreatDoor.Sx
