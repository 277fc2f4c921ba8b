/- Steps: slices cut, new objects, small ones. -/
import Derived.Test.YtdepbfgnmliggaaGreatDoorSx6
namespace Go.Proofs.YtdepbfgnmliggaaGreatDoor.Sx
set_option linter.unusedSimpArgs false
set_option linter.unusedVariables false

section
variable {P : Program} {G : Ctx} {E : Env} {w : World} {hp : List (Nat × Ob)} {nx : Nat} {fr : List SV} {a : Act}
variable {d : Option Tmp} {ty : TypeId} {pos : String} {af : Array Edge} {gd : Option (Nat × Bool)}

/-- A bound of a slice's cut: there as an int, or not there. -/
def Bnd (o : Option Value) (dflt n : Int) : Prop :=
  match o with
  | none => n = dflt
  | some v => ∃ k, v = .int k n

theorem bnd_of {o : Option Operand} {dflt n : Int} (h : ∀ x, o = some x → SVok E w (pkV (ev fr x)) (a.eval x)) (hs : optI (o.map fun y => pkV (ev fr y)) dflt = some n) : Bnd (o.map a.eval) dflt n := by
  cases o with
  | none => simp [optI] at hs; exact hs.symm
  | some x =>
    have hx := h x rfl
    simp only [Option.map_some] at hs
    cases hv : pkV (ev fr x) with
    | s y =>
      rw [hv] at hs hx
      cases y <;> simp [optI] at hs
      subst hs
      exact ⟨_, hx.1⟩
    | _ => rw [hv] at hs; simp [optI] at hs

theorem run_bounds (isS : Bool) (len cap : Nat) {lo hi : Option Value} {A B : Int} (ha : Bnd lo 0 A) (hb : Bnd hi len B) (h0 : 0 ≤ A) (h1 : A ≤ B) (h2 : B ≤ cap) :
    (Instr.sliceBounds isS len cap lo hi none).run P w = .ok (A.toNat, B.toNat, cap) w := by
  have eB : (B.toNat : Int) = B := Int.toNat_of_nonneg (by omega)
  have hB : ∀ (k : IntKind) c, (Instr.sliceBound (.int k B) cap c).run P w = .ok B.toNat w := fun k c => run_sliceBound w k B cap c (by omega) h2
  have hA : ∀ (k : IntKind) c, (Instr.sliceBound (.int k A) B.toNat c).run P w = .ok A.toNat w := fun k c => run_sliceBound w k A B.toNat c h0 (by omega)
  cases lo with
  | none =>
    have eA : A = 0 := ha
    subst eA
    cases hi with
    | none => have e : B = len := hb; subst e; simp [Instr.sliceBounds]
    | some v => obtain ⟨k, rfl⟩ := hb; simp [Instr.sliceBounds, hB]
  | some u =>
    obtain ⟨k', rfl⟩ := ha
    cases hi with
    | none => have e : B = len := hb; subst e; simp only [Int.toNat_natCast] at hA; simp [Instr.sliceBounds, hA]
    | some v => obtain ⟨k, rfl⟩ := hb; simp [Instr.sliceBounds, hB, hA]

theorem run_cut {t : TypeId} {e : Ty} {z : Nat} (hI : elemI P t = some (e, z)) (q : Option Addr) (len cap : Nat) {lo hi : Option Value} {A B : Int} (ha : Bnd lo 0 A) (hb : Bnd hi len B)
    (h0 : 0 ≤ A) (h1 : A ≤ B) (h2 : B ≤ cap) :
    (Instr.sliceAt t (.slice q len cap) lo hi none).run P w = .ok (.slice (if cap = A.toNat then q else q.map (·.add (A.toNat * e.n))) (B.toNat - A.toNat) (cap - A.toNat)) w := by
  obtain ⟨el, inf, zv, hu, hi', hs, _⟩ := elemI_run hI
  simp [Instr.sliceAt, Instr.slice, run_underlying hu, run_bounds (P := P) (w := w) true len cap ha hb h0 h1 h2, sizeOf, typeInfo, hi', hs]

theorem land_slice (h : Pre P G E w hp fr a) {t : TypeId} {x : Operand} {lo hi : Option Operand} {X : SV} {p : Prop} {r : S1} {ow : Prop} (hx : SVok E w X (a.eval x))
    (hlo : ∀ y, lo = some y → SVok E w (pkV (ev fr y)) (a.eval y)) (hhi : ∀ y, hi = some y → SVok E w (pkV (ev fr y)) (a.eval y))
    (hs : sSlice P (fo hp) t (lo.map fun y => pkV (ev fr y)) (hi.map fun y => pkV (ev fr y)) X = some (p, r)) (howe : p) :
    Land P G E w hp nx ⟨d, .slice t x lo hi none, ty, pos, af, gd⟩ a ⟨ow, .s r, [], nx, True⟩ := by
  unfold sSlice at hs
  split at hs
  · rename_i o l hh
    split at hs
    · rename_i fz z e xs ho
      split at hs
      · rename_i e' z' hI
        split at hs
        · rename_i he
          subst he
          split at hs
          · rename_i A B hA hB
            simp only [Option.some.injEq, Prod.mk.injEq] at hs
            obtain ⟨rfl, rfl⟩ := hs
            obtain ⟨g0, g1, g2⟩ := howe
            have hob : E.ob o = .arr fz z e' xs := (h.ob o).trans ho
            obtain ⟨hb, hx⟩ := hx
            rw [hob] at hx
            obtain ⟨h1, h2, h3⟩ := hx
            have bA := bnd_of (a := a) hlo hA
            have bB := bnd_of (a := a) hhi hB
            cases hl : E.loc o with
            | none =>
              rw [hl] at h3
              obtain ⟨e1, rfl⟩ := h3
              have hm := h.mem.hp o hb
              rw [hob] at hm
              obtain ⟨_, hm⟩ := hm
              rw [hl] at hm
              subst hm
              have eA : A = 0 := by simp at g2; omega
              have eB : B = 0 := by simp at g2; omega
              subst eA; subst eB
              have hl0 : l = 0 := by omega
              subst hl0
              have hr := run_cut (w := w) hI none 0 0 bA (by simpa using bB) (by omega) (by omega) (by omega)
              refine land_val h (v := .slice none 0 0) (by simp [execOp, e1, hr]) ⟨hb, ?_⟩ rfl trivial
              rw [hob]
              simp only [hl]
              simp
            | some q =>
              obtain ⟨b, off⟩ := q
              rw [hl] at h3
              rcases h3 with ⟨c, cs, T, fzz, e1, e2, e3, e4⟩ | ⟨hle, q, e1⟩
              · have hr := run_cut (w := w) hI (some ⟨b, off + l * e'.n, none⟩) (hh - l) c bA bB g0 g1 (by omega)
                refine land_val h (v := _) (by simp only [execOp, e1, Sem.run_bind, hr, Result.andThen_ok, Option.map_none]; rfl) ⟨hb, ?_⟩ rfl trivial
                rw [hob]
                refine ⟨by omega, by omega, ?_⟩
                simp only [hl]
                by_cases hc : c = A.toNat
                · refine .inr ⟨by omega, some ⟨b, off + l * e'.n, none⟩, ?_⟩
                  rw [if_pos hc]
                  congr 1 <;> omega
                · refine .inl ⟨c - A.toNat, cs, T, fzz, ?_, by omega, e3, ?_⟩
                  · rw [if_neg hc]
                    simp only [Option.map_some, add_lit', Nat.add_mul]
                    congr 1
                    · simp only [Option.some.injEq, Addr.mk.injEq, and_true, true_and]; omega
                    · omega
                  · have : l + A.toNat + (c - A.toNat) = l + c := by omega
                    rw [this]; exact e4
              · have eA : A = 0 := by omega
                have eB : B = 0 := by omega
                subst eA; subst eB
                have hl0 : hh - l = 0 := by omega
                rw [hl0] at bB
                have hr := run_cut (w := w) hI q 0 0 bA bB (by omega) (by omega) (by omega)
                refine land_val h (v := .slice q 0 0) (by simp [execOp, e1, hr]) ⟨hb, ?_⟩ rfl trivial
                rw [hob]
                refine ⟨by simp, by simp; omega, ?_⟩
                simp only [hl]
                exact .inr ⟨by simp; omega, q, rfl⟩
          · cases hs
        · cases hs
      · cases hs
    · cases hs
  · rename_i z e xs
    split at hs
    · rename_i e' z' hI
      split at hs
      · rename_i he
        subst he
        split at hs
        · rename_i A B hA hB
          simp only [Option.some.injEq, Prod.mk.injEq] at hs
          obtain ⟨rfl, rfl⟩ := hs
          obtain ⟨g0, g1, g2⟩ := howe
          have bA := bnd_of (a := a) hlo hA
          have bB := bnd_of (a := a) hhi hB
          obtain ⟨hz, hx⟩ := hx
          have hlen : ((xs.drop A.toNat).take (B.toNat - A.toNat)).length = B.toNat - A.toNat := by simp; omega
          have hz' : ((xs.drop A.toNat).take (B.toNat - A.toNat)).length * z ≤ 140737488355328 := by
            rw [hlen]; exact Nat.le_trans (Nat.mul_le_mul_right z (by omega)) hz
          rcases hx with ⟨q, c, e1, e0⟩ | ⟨b, off, c, e1, hc, hne, hS, hlt, hx⟩
          · subst e0
            simp only [List.cons.injEq, and_true] at e1
            have eA : A = 0 := by simp at g2; omega
            have eB : B = 0 := by simp at g2; omega
            subst eA; subst eB
            have hr := run_cut (w := w) hI q 0 c bA (by simpa using bB) (by omega) (by omega) (by omega)
            refine land_val h (v := _) (by simp only [execOp, e1, Sem.run_bind, hr, Result.andThen_ok, Option.map_none]; rfl) ⟨hz', .inl ⟨_, _, rfl, by simp⟩⟩ rfl trivial
          · simp only [List.cons.injEq, and_true] at e1
            have hr := run_cut (w := w) hI (some ⟨b, off, none⟩) xs.length c bA bB g0 g1 (by omega)
            refine land_val h (v := _) (by simp only [execOp, e1, Sem.run_bind, hr, Result.andThen_ok, Option.map_none]; rfl) ⟨hz', ?_⟩ rfl trivial
            by_cases hAB : A = B
            · subst hAB
              exact .inl ⟨_, _, by rw [Nat.sub_self], by simp⟩
            · refine .inr ⟨b, off + A.toNat * e'.n, c - A.toNat, ?_, by rw [hlen]; omega, ?_, hS, hlt, fun i hi => ?_⟩
              · rw [if_neg (by omega), hlen]
                simp only [Option.map_some, add_lit']
              · intro h0; rw [h0] at hlen; simp at hlen; omega
              · rw [hlen] at hi
                obtain ⟨us, hul, hcell, hr⟩ := hx (A.toNat + i) (by omega)
                have e3 : ((xs.drop A.toNat).take (B.toNat - A.toNat))[i]'(by rw [hlen]; exact hi) = xs[A.toNat + i] := by simp
                rw [e3]
                refine ⟨us, hul, fun j u hj => ?_, hr⟩
                have e4 : off + A.toNat * e'.n + i * e'.n + j = off + (A.toNat + i) * e'.n + j := by rw [Nat.add_mul]; omega
                rw [e4]; exact hcell j u hj
        · cases hs
      · cases hs
    · cases hs
  · rename_i s
    cases hst : isStr P t <;> rw [hst] at hs <;> simp only [cond_true, cond_false] at hs
    · cases hs
    · split at hs
      · rename_i A B hA hB
        simp only [Option.some.injEq, Prod.mk.injEq] at hs
        obtain ⟨rfl, rfl⟩ := hs
        obtain ⟨g0, g1, g2⟩ := howe
        obtain ⟨e1, hlen⟩ := hx
        have ht : P.underlying t = some .string := by
          unfold isStr at hst
          split at hst
          · assumption
          · cases hst
        have bA := bnd_of (a := a) hlo hA
        have bB := bnd_of (a := a) hhi hB
        have hsz : (ByteArray.mk s.toArray).size = s.length := by show s.toArray.size = _; simp
        have hr := run_bounds (P := P) (w := w) false s.length s.length bA bB g0 g1 g2
        refine land_val h (v := .string ((ByteArray.mk s.toArray).extract A.toNat B.toNat)) ?_ ⟨?_, by simp; omega⟩ rfl trivial
        · simp [execOp, e1, Instr.sliceAt, Instr.slice, run_underlying ht, hsz, hr]
        · congr 1
          apply ByteArray.ext
          simp [ByteArray.data_extract]
      · cases hs
  · cases hs

end
end Go.Proofs.YtdepbfgnmliggaaGreatDoor.Sx
