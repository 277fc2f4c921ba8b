/- Steps that look into memory, lay new objects, write. -/
import Derived.Test.YtdepbfgnmliggaaGreatDoorSx5
namespace Go.Proofs.YtdepbfgnmliggaaGreatDoor.Sx
set_option linter.unusedSimpArgs false
set_option linter.unusedVariables false

section
variable {P : Program} {G : Ctx} {E : Env} {w : World} {hp : List (Nat × Ob)} {nx : Nat} {fr : List SV} {a : Act}
variable {d : Option Tmp} {ty : TypeId} {pos : String} {af : Array Edge} {gd : Option (Nat × Bool)}

theorem aggI_run {t : TypeId} {b : Bool} {n : Nat} (h : aggI P t = some (b, n)) (w : World) : (isAgg t).run P w = .ok b w ∧ (sizeOf t).run P w = .ok n w ∧ (b = false → n = 1) := by
  unfold aggI at h
  split at h
  · rename_i fs i hu hi
    simp only [Option.some.injEq, Prod.mk.injEq] at h
    obtain ⟨rfl, rfl⟩ := h
    exact ⟨by simp [isAgg, run_underlying hu], by simp [sizeOf, typeInfo, hi], by simp⟩
  · rename_i k e i hu hi
    simp only [Option.some.injEq, Prod.mk.injEq] at h
    obtain ⟨rfl, rfl⟩ := h
    exact ⟨by simp [isAgg, run_underlying hu], by simp [sizeOf, typeInfo, hi], by simp⟩
  · rename_i x i hn1 hn2 hu hi
    split at h
    · rename_i hs
      simp only [Option.some.injEq, Prod.mk.injEq] at h
      obtain ⟨rfl, rfl⟩ := h
      refine ⟨?_, by simp [sizeOf, typeInfo, hi, hs], fun _ => rfl⟩
      simp only [isAgg, Sem.run_bind, run_underlying hu, Result.andThen_ok]
      cases x <;> first | rfl | exact absurd rfl (hn1 _) | exact absurd rfl (hn2 _ _)
    · cases h
  · cases h

theorem add_lit' (b off j : Nat) : (⟨b, off, none⟩ : Addr).add j = ⟨b, off + j, none⟩ := by
  unfold Addr.add; split <;> simp_all

/-- A load of n cells that lie there. -/
theorem run_load {t : TypeId} {b : Bool} {n : Nat} (h : aggI P t = some (b, n)) {blk off : Nat} {us : List Value} (hl : us.length = n)
    (hc : ∀ j u, us[j]? = some u → w.cell? ⟨blk, off + j, none⟩ = some u) :
    ∃ v, (loadVar t ⟨blk, off, none⟩).run P w = .ok v w ∧ ((b = true ∧ v = .agg us.toArray) ∨ (b = false ∧ us = [v])) := by
  obtain ⟨h1, h2, h3⟩ := aggI_run h w
  cases b
  · have := h3 rfl
    subst this
    match us, hl with
    | [u], _ =>
      refine ⟨u, ?_, .inr ⟨rfl, rfl⟩⟩
      have := hc 0 u rfl
      simp only [loadVar, Sem.run_bind, h1, Result.andThen_ok]
      simp only [Nat.add_zero] at this
      simp [run_load, this]
  · refine ⟨_, ?_, .inl ⟨rfl, rfl⟩⟩
    have := run_loadCells_list (P := P) w ⟨blk, off, none⟩ us (fun j v hj => by rw [add_lit']; exact hc j v hj)
    rw [hl] at this
    simp [loadVar, h1, h2, this]

theorem cellOr_ok {b : Bool} {l : List S1} {us : List Value} {off n : Nat} (hs : S1sok E w l us) (hle : off + n ≤ l.length) (hb : b = false → n = 1) {v : Value}
    (hv : (b = true ∧ v = .agg ((us.drop off).take n).toArray) ∨ (b = false ∧ (us.drop off).take n = [v])) : SVok E w (cellOr b l off n) v := by
  rcases hv with ⟨rfl, rfl⟩ | ⟨rfl, hv⟩
  · show SVok E w (.agg (take1 (drop1 l off) n)) _
    rw [drop1_eq, take1_eq]
    exact ⟨_, rfl, (hs.drop off).take n⟩
  · show S1ok E w (g1 l off) v
    have hn := hb rfl
    subst hn
    refine hs.2 off _ v (g1_eq l off (by omega)) ?_
    have : ((us.drop off).take 1)[0]? = some v := by rw [hv]; rfl
    rw [List.getElem?_take_of_lt (by omega), List.getElem?_drop] at this
    simpa using this

/-- A load at an address: the cells behind it. -/
theorem land_load_at (h : Pre P G E w hp fr a) {t : TypeId} {x : Operand} {b : Bool} {n off : Nat} (hI : aggI P t = some (b, n)) {blk o : Nat} {l : List S1} {us : List Value} {ow : Prop}
    (ha : a.eval x = .pointer (some ⟨blk, o + off, none⟩)) (hs : S1sok E w l us) (hle : off + n ≤ l.length) (hc : ∀ j u, us[j]? = some u → w.cell? ⟨blk, o + j, none⟩ = some u) :
    Land P G E w hp nx ⟨d, .load t x, ty, pos, af, gd⟩ a ⟨ow, cellOr b l off n, [], nx, True⟩ := by
  have hlen : ((us.drop off).take n).length = n := by have := hs.1; simp; omega
  obtain ⟨v, hr, hv⟩ := run_load (w := w) (blk := blk) (off := o + off) hI hlen (fun j u hj => by
    have hj' : j < n := by
      have := List.getElem?_eq_some_iff.1 hj
      obtain ⟨hlt, _⟩ := this
      simp at hlt
      omega
    rw [List.getElem?_take_of_lt hj', List.getElem?_drop] at hj
    have := hc _ _ hj
    rwa [show o + off + j = o + (off + j) by omega])
  refine land_val h (v := v) ?_ (cellOr_ok hs hle (aggI_run hI w).2.2 hv) rfl trivial
  simp [execOp, Instr.loadAt, ha, Instr.sureAddr, hr]

theorem arr_cells {o i : Nat} {fz : Bool} {z : Nat} {e : Ty} {xs : List e.den} (hm : ObOk E w o (.arr fz z e xs)) {b f : Nat} (hl : E.loc o = some (b, f)) (hi : i < xs.length) :
    ∃ us, us.length = e.n ∧ (∀ j u, us[j]? = some u → w.cell? ⟨b, f + i * e.n + j, none⟩ = some u) ∧ Rd E.owned w e us xs[i] := by
  obtain ⟨_, hm⟩ := hm
  rw [hl] at hm
  obtain ⟨vs, T, fzz, hh, _, hsz, hx⟩ := hm
  have hr := hx i hi
  refine ⟨_, Rd.len _ _ _ hr, fun j u hj => ?_, hr⟩
  have hj' : j < e.n := by
    have := List.getElem?_eq_some_iff.1 hj
    obtain ⟨hlt, _⟩ := this
    simp at hlt
    omega
  rw [List.getElem?_take_of_lt hj', List.getElem?_drop] at hj
  exact cell_of hh hj

theorem getD_of_lt {α : Type} {l : List α} {i : Nat} {x : α} (h : i < l.length) : l.getD i x = l[i] := by simp [h]

theorem land_load (h : Pre P G E w hp fr a) {t : TypeId} {x : Operand} {b : Bool} {n : Nat} (hI : aggI P t = some (b, n)) {X : SV} (hx : SVok E w X (a.eval x)) {p : Prop} {v : SV} {ow : Prop}
    (hs : sLoad (fo hp) b n X = some (p, v)) (howe : p) : Land P G E w hp nx ⟨d, .load t x, ty, pos, af, gd⟩ a ⟨ow, v, [], nx, True⟩ := by
  unfold sLoad at hs
  split at hs
  · rename_i o off
    split at hs
    · rename_i cs ho
      simp only [Option.some.injEq, Prod.mk.injEq] at hs
      obtain ⟨rfl, rfl⟩ := hs
      have hob : E.ob o = .box cs := (h.ob o).trans ho
      obtain ⟨hb, hx⟩ := hx
      rw [hob] at hx
      obtain ⟨blk, hl, hv⟩ := hx
      have hm := h.mem.hp o hb
      rw [hob] at hm
      obtain ⟨blk', vs, T, hl', hh, hsok⟩ := hm
      rw [hl] at hl'
      cases hl'
      exact land_load_at h hI (o := 0) (by rw [Nat.zero_add]; exact hv) hsok howe (fun j u hj => by rw [Nat.zero_add]; exact cell_of hh hj)
    · cases hs
  · rename_i o i off
    split at hs
    · rename_i fz z e xs ho
      simp only [Option.some.injEq, Prod.mk.injEq] at hs
      obtain ⟨rfl, rfl⟩ := hs
      have hob : E.ob o = .arr fz z e xs := (h.ob o).trans ho
      obtain ⟨hb, hx⟩ := hx
      rw [hob] at hx
      obtain ⟨hi, blk, f, hl, hv⟩ := hx
      have hm := h.mem.hp o hb
      rw [hob] at hm
      obtain ⟨us, hul, hc, hr⟩ := arr_cells hm hl hi
      rw [getD_of_lt hi]
      exact land_load_at h hI (o := f + i * e.n) hv (cellsS_ok e us _ hr) (by rw [cellsS_len]; exact howe) hc
    · cases hs
  · rename_i t' x' off
    simp only [Option.some.injEq, Prod.mk.injEq] at hs
    obtain ⟨rfl, rfl⟩ := hs
    obtain ⟨blk, f, us, hv, _, _, hul, hc, hr⟩ := hx
    exact land_load_at h hI (o := f) hv (cellsS_ok t' us _ hr) (by rw [cellsS_len]; exact howe) hc
  · cases hs

/-- A field's address. -/
theorem land_fieldAddr (h : Pre P G E w hp fr a) {t : TypeId} {x : Operand} {f k : Nat} (hI : fldI P t f = some k) {X Y : SV} {ow : Prop} (hx : SVok E w X (a.eval x))
    (hXY : ∀ v, SVok E w X v → ∃ b o, v = .pointer (some ⟨b, o, none⟩) ∧ SVok E w Y (.pointer (some ⟨b, o + k, none⟩))) :
    Land P G E w hp nx ⟨d, .fieldAddr t x f, ty, pos, af, gd⟩ a ⟨ow, Y, [], nx, True⟩ := by
  unfold fldI at hI
  split at hI
  · rename_i fs hu
    split at hI
    · rename_i fd hf
      split at hI
      · cases hI
      · rename_i hsz
        cases hI
        obtain ⟨b, o, hv, hy⟩ := hXY _ hx
        refine land_val h (v := .pointer (some ⟨b, o + fd.offset, none⟩)) ?_ hy rfl trivial
        have hs : ∃ n, (sizeOf fd.type).run P w = .ok n w ∧ n ≠ 0 := by
          unfold Program.cellsOf at hsz
          cases hi : P.info? fd.type with
          | none => rw [hi] at hsz; exact absurd rfl hsz
          | some i => rw [hi] at hsz; exact ⟨i.size, by simp [sizeOf, typeInfo, hi], by simpa using hsz⟩
        obtain ⟨n, hn, hn0⟩ := hs
        simp [execOp, Instr.fieldAt, run_underlying hu, hf, hv, Instr.sureAddr, fieldPlace, hn, hn0, add_lit']
    · cases hI
  · cases hI

theorem pb_add {o off k : Nat} {v : Value} {cs : List S1} (hob : E.ob o = .box cs) (hx : SVok E w (.s (.pb o off)) v) :
    ∃ b q, v = .pointer (some ⟨b, q, none⟩) ∧ SVok E w (.s (.pb o (off + k))) (.pointer (some ⟨b, q + k, none⟩)) := by
  obtain ⟨hb, hx⟩ := hx
  rw [hob] at hx
  obtain ⟨b, hl, rfl⟩ := hx
  refine ⟨b, off, rfl, hb, ?_⟩
  rw [hob]
  exact ⟨b, hl, rfl⟩

theorem pe_add {o i off k : Nat} {v : Value} {fz : Bool} {z : Nat} {e : Ty} {xs : List e.den} (hob : E.ob o = .arr fz z e xs) (hx : SVok E w (.s (.pe o i off)) v) :
    ∃ b q, v = .pointer (some ⟨b, q, none⟩) ∧ SVok E w (.s (.pe o i (off + k))) (.pointer (some ⟨b, q + k, none⟩)) := by
  obtain ⟨hb, hx⟩ := hx
  rw [hob] at hx
  obtain ⟨hi, b, f, hl, rfl⟩ := hx
  refine ⟨b, f + i * e.n + off, rfl, hb, ?_⟩
  rw [hob]
  exact ⟨hi, b, f, hl, by rw [Nat.add_assoc _ off k]⟩

theorem pr_add {t : Ty} {x : t.den} {off k : Nat} {v : Value} (hx : SVok E w (.s (.pr t x off)) v) :
    ∃ b q, v = .pointer (some ⟨b, q, none⟩) ∧ SVok E w (.s (.pr t x (off + k))) (.pointer (some ⟨b, q + k, none⟩)) := by
  obtain ⟨b, f, us, rfl, h1, h2, h3, h4, h5⟩ := hx
  exact ⟨b, f + off, rfl, b, f, us, by rw [Nat.add_assoc], h1, h2, h3, h4, h5⟩

theorem elemI_run {t : TypeId} {e : Ty} {z : Nat} (h : elemI P t = some (e, z)) :
    ∃ el i zv, P.underlying t = some (.slice el) ∧ P.info? el = some i ∧ i.size = e.n ∧ i.bytes = z ∧ i.zero = some zv ∧ zv.cells.size = e.n ∧ 0 < z ∧ 0 < e.n := by
  unfold elemI at h
  split at h
  · rename_i el hu
    split at h
    · rename_i i ty hi hty
      split at h
      · rename_i zv hz
        split at h
        · rename_i hc
          simp only [Option.some.injEq, Prod.mk.injEq] at h
          obtain ⟨rfl, rfl⟩ := h
          exact ⟨el, i, zv, hu, hi, hc.1, rfl, hz, hc.2.2.2, hc.2.1, hc.2.2.1⟩
        · cases h
      · cases h
    · cases h
  · cases h

theorem run_indexAt {t : TypeId} {e : Ty} {z : Nat} (h : elemI P t = some (e, z)) {b off n c : Nat} {k : IntKind} {i : Int} (h0 : 0 ≤ i) (h1 : i < n) (w : World) :
    (Instr.indexAt t (.slice (some ⟨b, off, none⟩) n c) (.int k i)).run P w = .ok (.pointer (some ⟨b, off + i.toNat * e.n, none⟩)) w := by
  obtain ⟨el, inf, zv, hu, hi, hs, _⟩ := elemI_run h
  simp [Instr.indexAt, asIntOf, run_underlying hu, h0, h1, sizeOf, typeInfo, hi, hs, add_lit']

theorem land_indexAddr (h : Pre P G E w hp fr a) {t : TypeId} {x y : Operand} {k : IntKind} {i : Int} {X : SV} {p : Prop} {r : S1} {ow : Prop} (hx : SVok E w X (a.eval x)) (hy : SVok E w (.s (.int k i)) (a.eval y))
    (hs : sIndex P (fo hp) t i X = some (p, r)) (howe : p) : Land P G E w hp nx ⟨d, .indexAddr t x y, ty, pos, af, gd⟩ a ⟨ow, .s r, [], nx, True⟩ := by
  obtain ⟨ey, _⟩ := hy
  unfold sIndex at hs
  split at hs
  · rename_i o lo hi
    split at hs
    · rename_i fz z e xs ho
      split at hs
      · rename_i e' z' hI
        split at hs
        · rename_i he
          subst he
          simp only [Option.some.injEq, Prod.mk.injEq] at hs
          obtain ⟨rfl, rfl⟩ := hs
          have hob : E.ob o = .arr fz z e' xs := (h.ob o).trans ho
          obtain ⟨hb, hx⟩ := hx
          rw [hob] at hx
          obtain ⟨h1, h2, h3⟩ := hx
          cases hl : E.loc o with
          | none => rw [hl] at h3; obtain ⟨_, rfl⟩ := h3; have := howe.2; simp at this; omega
          | some q =>
            obtain ⟨b, off⟩ := q
            rw [hl] at h3
            rcases h3 with ⟨c, cs, T, fzz, e1, _, _, _⟩ | ⟨hle, _⟩
            case inr => have := howe.2; omega
            refine land_val h (v := .pointer (some ⟨b, off + lo * e'.n + i.toNat * e'.n, none⟩)) ?_ ?_ rfl trivial
            · have := run_indexAt hI (b := b) (off := off + lo * e'.n) (n := hi - lo) (c := c) (k := k) howe.1 howe.2 w
              simp [execOp, e1, ey, this]
            · refine ⟨hb, ?_⟩
              rw [hob]
              refine ⟨by omega, b, off, hl, ?_⟩
              rw [Nat.add_mul, Nat.add_zero, Nat.add_assoc]
        · cases hs
      · cases hs
    · cases hs
  · rename_i z e xs
    split at hs
    · rename_i e' z' hI
      split at hs
      · rename_i he
        subst he
        simp only [Option.some.injEq, Prod.mk.injEq] at hs
        obtain ⟨rfl, rfl⟩ := hs
        obtain ⟨_, hx⟩ := hx
        rcases hx with ⟨a', c, _, e0⟩ | ⟨b, off, c, e1, hc, hne, hS, hlt, hx⟩
        · subst e0; have := howe.2; simp at this; omega
        · simp only [List.cons.injEq, and_true] at e1
          have hi' : i.toNat < xs.length := by omega
          refine land_val h (v := .pointer (some ⟨b, off + i.toNat * e'.n, none⟩)) ?_ ?_ rfl trivial
          · have := run_indexAt hI (b := b) (off := off) (n := xs.length) (c := c) (k := k) howe.1 howe.2 w
            simp [execOp, e1, ey, this]
          · obtain ⟨us, hul, hcell, hr⟩ := hx i.toNat hi'
            refine ⟨b, off + i.toNat * e'.n, us, rfl, hS, hlt, hul, hcell, ?_⟩
            rw [getD_of_lt hi']
            exact hr
      · cases hs
    · cases hs
  · cases hs

end
end Go.Proofs.YtdepbfgnmliggaaGreatDoor.Sx
