/- Steps: new objects, stores. -/
import Derived.Test.YtdepbfgnmliggaaGreatDoorSx7
namespace Go.Proofs.YtdepbfgnmliggaaGreatDoor.Sx
set_option linter.unusedSimpArgs false
set_option linter.unusedVariables false

section
variable {P : Program} {G : Ctx} {E : Env} {w : World} {hp : List (Nat × Ob)} {nx : Nat} {fr : List SV} {a : Act}
variable {d : Option Tmp} {ty : TypeId} {pos : String} {af : Array Edge} {gd : Option (Nat × Bool)}

/-- A step that lays one new object in a new block and hands a value on. -/
theorem land_new (h : Pre P G E w hp fr a) {o : Oper} (hnx : ¬ E.born nx) {x : Ob} {vs : Array Value} {T : TypeId} {v : Value} {X : SV} {ow gv : Prop}
    (hr : (execOp a.eval o).run P w = .ok (.value v) (w.alloc (.cells vs T)))
    (hok : ∀ E', Evo E E' w (w.alloc (.cells vs T)) → E'.loc nx = some (w.heap.size, 0) → (w.alloc (.cells vs T)).heap[w.heap.size]? = some (.cells vs T (0, 0)) → ObOk E' (w.alloc (.cells vs T)) nx x)
    (hX : ∀ E', E'.ob nx = x → E'.loc nx = some (w.heap.size, 0) → E'.born nx → (w.alloc (.cells vs T)).heap[w.heap.size]? = some (.cells vs T (0, 0)) → SVok E' (w.alloc (.cells vs T)) X v) (hg : gv) :
    Land P G E w hp nx o a ⟨ow, X, [(nx, x)], nx + 1, gv⟩ := by
  intro K B hK
  unfold Oper.wp
  rw [hr, Oper.upon_value]
  have hev := evo_new h.mem hnx x (.cells vs T)
  refine hK v _ (E.set nx x (some (w.heap.size, 0))) (mem_new h.mem hnx x vs T (hok _ hev (set_loc _ _ _ _) (heap_alloc_at _ _))) hev (fun i => ?_) (fun i hi => ?_)
    (hX _ (set_ob _ _ _ _) (set_loc _ _ _ _) (.inr rfl) (heap_alloc_at _ _)) hg
  · simp only [uos, fo_uo]
    by_cases hi : i = nx
    · subst hi; rw [set_ob, if_pos rfl]
    · rw [set_ob_ne _ _ _ hi, if_neg hi]; exact h.ob i
  · rcases hi with hi | rfl
    · exact .inl hi
    · exact .inr ⟨Nat.le_refl _, by simp⟩

theorem rd_one : ∀ (t : Ty) (v : Value) (y : t.den), Rd E.owned w t [v] y → v.oneCell' = true
  | .int _, v, _, r => by obtain ⟨e, _⟩ := r; cases e; rfl
  | .bool, v, _, r => by have e : [v] = _ := r; cases e; rfl
  | .str, v, _, r => by obtain ⟨e, _⟩ := r; cases e; rfl
  | .unit, v, _, r => by have e : [v] = [] := r; cases e
  | .opq, v, _, r => by obtain ⟨e, h⟩ := r; cases e; exact h
  | .pair p q, v, y, r => by
    obtain ⟨v1, v2, e, r1, r2⟩ := r
    match v1, e, r1 with
    | [], e, r1 => rw [List.nil_append] at e; rw [← e] at r2; exact rd_one q v _ r2
    | [c], e, r1 =>
      simp only [List.cons_append, List.nil_append, List.cons.injEq] at e
      rw [e.1]; exact rd_one p c _ r1
    | c :: c' :: l, e, r1 => simp at e
  | .slice z e, v, _, r => by obtain ⟨_, ⟨_, _, e, _⟩ | ⟨_, _, _, e, _⟩⟩ := r <;> cases e <;> rfl

theorem s1_one {x : S1} {v : Value} (h1 : S1ok E w x v) (hx : stl [x] = true) : v.oneCell' = true := by
  cases x with
  | unk => simp [stl] at hx
  | val u => simp only [stl, Bool.and_true] at hx; rw [show v = u from h1]; exact hx
  | int k n => rw [h1.1]; rfl
  | bool b => rw [show v = _ from h1]; rfl
  | mb t f => obtain ⟨_, e, _⟩ := h1; rw [e]; rfl
  | str s => rw [h1.1]; rfl
  | nils => rw [show v = _ from h1]; rfl
  | ro t y => exact rd_one t v y h1
  | sub o lo hi => exact ref_one (.inl ⟨_, _, _, rfl⟩) h1
  | pb o off => exact ref_one (.inr (.inl ⟨_, _, rfl⟩)) h1
  | pe o i off => exact ref_one (.inr (.inr (.inl ⟨_, _, _, rfl⟩))) h1
  | yl o => exact ref_one (.inr (.inr (.inr ⟨_, rfl⟩))) h1
  | pr t y off => obtain ⟨_, _, _, e, _⟩ := h1; rw [e]; rfl
  | fn f caps => obtain ⟨_, e, _⟩ := h1; rw [e]; rfl

theorem stl_cons {x : S1} {l : List S1} (h : stl (x :: l) = true) : stl [x] = true ∧ stl l = true := by
  cases x <;> first | exact ⟨rfl, h⟩ | (simp only [stl, Bool.and_eq_true] at h; exact ⟨by simp [stl, h.1], h.2⟩) | (simp [stl] at h)

theorem stl_one {cs : List S1} {vs : List Value} (h : stl cs = true) (hs : S1sok E w cs vs) : ∀ v ∈ vs, v.oneCell' = true := by
  induction cs generalizing vs with
  | nil => rw [hs.nil_inv]; simp
  | cons x cs ih =>
    obtain ⟨v, us, rfl, h1, h2⟩ := hs.uncons
    obtain ⟨hx, hr⟩ := stl_cons h
    intro u hu
    rcases List.mem_cons.1 hu with rfl | hu
    · exact s1_one h1 hx
    · exact ih hr h2 u hu

theorem cells_of_one {v : Value} (h : v.oneCell' = true) : v.cells = #[v] := by
  cases v <;> first | rfl | (simp [Value.oneCell'] at h)

/-- A value's cells. -/
theorem cells_ok {X : SV} {v : Value} {b : Bool} (hX : SVok E w X v) (hs : shape b X = true) (ht : b = false → stl X.cells = true) : ∃ us, v.cells = us.toArray ∧ S1sok E w X.cells us := by
  cases X with
  | unk => cases b <;> simp [shape] at hs
  | s x => cases b
           · have := ht rfl
             have h1 : v.oneCell' = true := s1_one hX this
             exact ⟨[v], cells_of_one h1, .one hX⟩
           · simp [shape] at hs
  | agg l => obtain ⟨us, e, h⟩ := hX; subst e; exact ⟨us, rfl, h⟩
  | tup l => cases b <;> simp [shape] at hs
  | gd g x => cases b <;> simp [shape] at hs

theorem land_alloc (h : Pre P G E w hp fr a) (hnx : ¬ E.born nx) {t : TypeId} {cs : List S1} (hz : zeroI P t = some cs) {ow : Prop} :
    Land P G E w hp nx ⟨d, .alloc t, ty, pos, af, gd⟩ a ⟨ow, .s (.pb nx 0), [(nx, .box cs)], nx + 1, True⟩ := by
  unfold zeroI at hz
  split at hz
  · rename_i i hi
    split at hz
    · rename_i v hv
      split at hz
      · rename_i hc
        cases hz
        refine land_new h hnx (vs := v.cells) (T := t) (v := .pointer (some ⟨w.heap.size, 0, none⟩)) ?_ (fun E' hev hl hh => ?_) (fun E' ho hl hb hh => ?_) trivial
        · simp [execOp, Instr.alloc, zeroValue, typeInfo, hi, hv, newVar, newRow]
        · refine ⟨w.heap.size, v.cells, t, hl, hh, by simp, ?_⟩
          intro j x u h1 h2
          rw [List.getElem?_map, h2] at h1
          cases h1
          exact of1_ok _ _ u
        · refine ⟨hb, ?_⟩
          rw [ho]
          exact ⟨w.heap.size, hl, rfl⟩
      · cases hz
    · cases hz
  · cases hz

theorem land_box (h : Pre P G E w hp fr a) (hnx : ¬ E.born nx) {t : TypeId} {x : Operand} {X : SV} {ow : Prop} {b : Bool} (hX : SVok E w X (a.eval x)) (hs : shape b X = true) (ht : stl X.cells = true) :
    Land P G E w hp nx ⟨d, .box t x, ty, pos, af, gd⟩ a ⟨ow, .s (.pb nx 0), [(nx, .box X.cells)], nx + 1, True⟩ := by
  obtain ⟨us, hu, hok⟩ := cells_ok hX hs (fun _ => ht)
  refine land_new h hnx (vs := us.toArray) (T := t) (v := .pointer (some ⟨w.heap.size, 0, none⟩)) ?_ (fun E' hev hl hh => ?_) (fun E' ho hl hb hh => ?_) trivial
  · simp [execOp, Instr.box, newVar, newRow, hu]
  · exact ⟨w.heap.size, us.toArray, t, hl, hh, hev.s1s hok⟩
  · refine ⟨hb, ?_⟩
    rw [ho]
    exact ⟨w.heap.size, hl, rfl⟩

end
end Go.Proofs.YtdepbfgnmliggaaGreatDoor.Sx
