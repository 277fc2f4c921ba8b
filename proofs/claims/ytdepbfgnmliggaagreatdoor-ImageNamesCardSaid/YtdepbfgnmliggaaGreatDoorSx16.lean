/- A call by its contract, as a step. -/
import Derived.Test.YtdepbfgnmliggaaGreatDoorSx15
namespace Go.Proofs.YtdepbfgnmliggaaGreatDoor.Sx
set_option linter.unusedSimpArgs false
set_option linter.unusedVariables false

def plain1 : S1 → Prop
  | .ro t _ => t.hasSl = false
  | .pr _ _ _ => False
  | .fn _ _ => False
  | _ => True

theorem injS_plain : ∀ (t : Ty) (x : t.den) (i : Nat), ∀ y ∈ injS t x i, plain1 y
  | .int _, _, _ => by simp [injS, plain1]
  | .bool, _, _ => by simp [injS, plain1]
  | .str, _, _ => by simp [injS, plain1]
  | .unit, _, _ => by simp [injS]
  | .opq, _, _ => by simp [injS, plain1, Ty.hasSl]
  | .slice _ _, _, _ => by simp [injS, plain1]
  | .pair a b, x, i => by
    intro y hy
    rcases List.mem_append.1 hy with hy | hy
    · exact injS_plain a _ _ y hy
    · exact injS_plain b _ _ y hy

theorem S1ok.lift {R E : Env} {w : World} (h : ∀ o, R.born o → E.born o ∧ E.ob o = R.ob o ∧ E.loc o = R.loc o) {x : S1} {v : Value} (hp : plain1 x) (r : S1ok R w x v) : S1ok E w x v := by
  cases x with
  | unk => trivial
  | int k n => exact r
  | bool b => exact r
  | mb t f => exact r
  | str s => exact r
  | nils => exact r
  | val u => exact r
  | ro t x => exact rd_flat t _ x hp r
  | sub o lo hi => obtain ⟨hb, r⟩ := r; obtain ⟨h1, h2, h3⟩ := h o hb; refine ⟨h1, ?_⟩; rw [h2, h3]; exact r
  | pb o off => obtain ⟨hb, r⟩ := r; obtain ⟨h1, h2, h3⟩ := h o hb; refine ⟨h1, ?_⟩; rw [h2, h3]; exact r
  | pe o i off => obtain ⟨hb, r⟩ := r; obtain ⟨h1, h2, h3⟩ := h o hb; refine ⟨h1, ?_⟩; rw [h2, h3]; exact r
  | yl o => obtain ⟨hb, r⟩ := r; obtain ⟨h1, h2, h3⟩ := h o hb; refine ⟨h1, ?_⟩; rw [h2, h3]; exact r
  | pr t x off => exact hp.elim
  | fn f c => exact hp.elim

theorem S1sok.lift {R E : Env} {w : World} (h : ∀ o, R.born o → E.born o ∧ E.ob o = R.ob o ∧ E.loc o = R.loc o) {l : List S1} {vs : List Value} (hp : ∀ x ∈ l, plain1 x) (r : S1sok R w l vs) : S1sok E w l vs :=
  ⟨r.1, fun i x v h1 h2 => S1ok.lift h (hp x (List.mem_of_getElem? h1)) (r.2 i x v h1 h2)⟩

theorem resL_plain : ∀ (rs : List (Bool × Ty)) (y : (tyL rs).den) (i : Nat), ∀ bl ∈ resL rs y i, ∀ x ∈ bl.2, plain1 x
  | [], _, _ => by simp [resL]
  | (b, t) :: rs, y, i => by
    intro bl hb
    rcases List.mem_cons.1 hb with rfl | hb
    · exact injS_plain t _ _
    · exact resL_plain rs _ _ bl hb

theorem resV_lift {R E : Env} {w : World} (h : ∀ o, R.born o → E.born o ∧ E.ob o = R.ob o ∧ E.loc o = R.loc o) {l : List (Bool × List S1)} (hp : ∀ bl ∈ l, ∀ x ∈ bl.2, plain1 x) {v : Value} (r : SVok R w (resV l) v) : SVok E w (resV l) v := by
  unfold resV at r ⊢
  split at r
  · obtain ⟨vs, e, hk⟩ := r
    rename_i l
    exact ⟨vs, e, hk.lift h (hp (true, l) (by simp))⟩
  · rename_i x
    exact S1ok.lift h (hp (false, [x]) (by simp) x (by simp)) r
  · obtain ⟨vs, e, hl, hk⟩ := r
    refine ⟨vs, e, hl, fun i bl u h1 h2 => ⟨fun hb => ?_, fun hb => ?_⟩⟩
    · obtain ⟨us, e2, h3⟩ := (hk i bl u h1 h2).1 hb
      exact ⟨us, e2, h3.lift h (hp bl (List.mem_of_getElem? h1))⟩
    · exact ((hk i bl u h1 h2).2 hb).lift h (hp bl (List.mem_of_getElem? h1))

section
variable {P : Program} {G : Ctx} {E : Env} {w : World} {hp : List (Nat × Ob)} {nx : Nat} {fr : List SV} {a : Act}
variable {d : Option Tmp} {ty : TypeId} {pos : String} {af : Array Edge} {gd : Option (Nat × Bool)}

/-- The arguments, as data in a memory of which S is barred. -/
theorem sArgs_ok (h : Pre P G E w hp fr a) {S : Nat → Prop} (hS : ∀ b, S b → E.owned b) : ∀ (as : List (Bool × Ty)) (xs : List SV) (vs : List Value) (x : (tyL as).den), sArgs (fo hp) as xs = some x →
    (∀ o, o ∈ allIds xs → isA (E.ob o) = true → ∀ b f, E.loc o = some (b, f) → ¬ S b) → vs.length = xs.length → (∀ (i : Nat) y v, xs[i]? = some y → vs[i]? = some v → SVok E w y v) → ArgsRd S w as vs x
  | [], [], [], _, _, _, _, _ => trivial
  | [], [], _ :: _, _, _, _, hl, _ => by simp at hl
  | [], _ :: _, _, _, hs, _, _, _ => by simp [sArgs] at hs
  | _ :: _, [], _, _, hs, _, _, _ => by simp [sArgs] at hs
  | _ :: _, _ :: _, [], _, _, _, hl, _ => by simp at hl
  | (b, t) :: as, y :: ys, v :: vs, x, hs, hI, hl, hv => by
    simp only [sArgs] at hs
    cases hb : shape b y <;> rw [hb] at hs <;> simp only [cond_true, cond_false] at hs
    · cases hs
    · split at hs
      · rename_i z zs hz hzs
        cases hs
        have hy := hv 0 y v rfl rfl
        have ih := sArgs_ok h hS as ys vs zs hzs (fun o ho => hI o (by simp [allIds, ho])) (by simpa using hl) (fun i y v h1 h2 => hv (i + 1) y v (by simpa using h1) (by simpa using h2))
        have hr : ∀ us, S1sok E w y.cells us → Rd S w t us z := by
          intro us hus
          obtain ⟨us', rest, l1, rfl, h1, h2, _⟩ := rdS_ok h.ob h.mem.hp hS t y.cells z [] us hz (fun o ho => hI o (by simp [allIds, ho])) hus
          rw [h2.nil_inv, List.append_nil]; exact h1
        refine ⟨fun hb1 => ?_, fun hb1 => ?_, ih⟩
        · subst hb1
          cases y <;> simp [shape] at hb
          obtain ⟨us, e, hk⟩ := hy
          exact ⟨us, e, hr us hk⟩
        · subst hb1
          cases y <;> simp [shape] at hb
          exact hr [v] (.one hy)
      · cases hs

theorem pkVs_ok (h : Pre P G E w hp fr a) : ∀ (xs : List Operand), pkPs fr xs → (xs.map a.eval).length = (pkVs fr xs).length ∧
    ∀ (i : Nat) y v, (pkVs fr xs)[i]? = some y → (xs.map a.eval)[i]? = some v → SVok E w y v
  | [], _ => ⟨rfl, fun i y v h1 _ => by simp [pkVs] at h1⟩
  | x :: xs, hk => by
    obtain ⟨h1, h2⟩ := hk
    obtain ⟨h3, h4⟩ := pkVs_ok h xs h2
    refine ⟨by simp [pkVs, h3], fun i y v g1 g2 => ?_⟩
    cases i with
    | zero => simp [pkVs] at g1 g2; subst g1; subst g2; exact h.pk h1
    | succ i => exact h4 i y v (by simpa [pkVs] using g1) (by simpa using g2)

/-- The state behind a call. -/
def callE (E : Env) (hp : List (Nat × Ob)) (rs : List (Bool × Ty)) (y : (tyL rs).den) (nx : Nat) (loc : Loc) : Env :=
  { ob := fun o => fo (uos hp (resO rs y nx)) o, loc := fun o => if nx ≤ o ∧ o < nx + nslL rs then loc o else E.loc o, born := fun o => E.born o ∨ (nx ≤ o ∧ o < nx + nslL rs), bad := E.bad }

theorem land_call0 (h : Pre P G E w hp fr a) {rs : List (Bool × Ty)} (hnx : ∀ o, nx ≤ o → o < nx + nslL rs → ¬ E.born o) {S : Nat → Prop} {y : (tyL rs).den} {o : Oper} {f : FuncId} {args : Array Value} {ow : Prop}
    (hS : nestL rs = false ∨ S = E.owned) (hrun : (execOp a.eval o).run P w = .ok (.enter f args) w) (hc : Calls P f args w (ResPost S rs y nx w)) :
    Land P G E w hp nx o a ⟨ow, resV (resL rs y nx), resO rs y nx, nx + nslL rs, (tyL rs).wf y⟩ := by
  intro K B hK
  unfold Oper.wp
  rw [hrun, Oper.upon_enter]
  refine hc.mono fun e w' hpost => ?_
  obtain ⟨v, rfl, hbel, hwf, loc, hv, hobs, hsep, hfresh⟩ := hpost
  show K (a.put o.dst v) w'
  obtain ⟨hk1, hk2⟩ := resO_keys rs y nx
  have hob : ∀ q, (callE E hp rs y nx loc).ob q = if q ∈ keys (resO rs y nx) then fo (resO rs y nx) q else E.ob q := by
    intro q
    show fo (uos hp (resO rs y nx)) q = _
    rw [fo_uos hk2, h.ob]
  have hin : ∀ q, nx ≤ q → q < nx + nslL rs → (callE E hp rs y nx loc).ob q = fo (resO rs y nx) q ∧ (callE E hp rs y nx loc).loc q = loc q := by
    intro q h1 h2
    refine ⟨?_, if_pos ⟨h1, h2⟩⟩
    rw [hob]
    by_cases hq : q ∈ keys (resO rs y nx)
    · rw [if_pos hq]
    · rw [if_neg hq, h.mem.unb q (hnx q h1 h2), fo_not hq]
  have hout : ∀ q, ¬ (nx ≤ q ∧ q < nx + nslL rs) → (callE E hp rs y nx loc).ob q = E.ob q ∧ (callE E hp rs y nx loc).loc q = E.loc q := by
    intro q hq
    refine ⟨?_, if_neg hq⟩
    rw [hob, if_neg (fun hk => hq (hk1 q hk))]
  have hdec : ∀ q, (nx ≤ q ∧ q < nx + nslL rs) ∨ ¬ (nx ≤ q ∧ q < nx + nslL rs) := fun q => Decidable.em _
  have hown : ∀ b, (callE E hp rs y nx loc).owned b → E.owned b ∨ ∃ q f, nx ≤ q ∧ q < nx + nslL rs ∧ fo (resO rs y nx) q ≠ .dead ∧ (fo (resO rs y nx) q).mut = true ∧ loc q = some (b, f) := by
    rintro b (hb | ⟨q, f, h1, h2⟩)
    · exact .inl (.inl hb)
    · rcases hdec q with hq | hq
      · obtain ⟨e1, e2⟩ := hin q hq.1 hq.2
        rw [e1] at h1
        rw [e2] at h2
        exact .inr ⟨q, f, hq.1, hq.2, mut_ne h1, h1, h2⟩
      · obtain ⟨e1, e2⟩ := hout q hq
        rw [e1] at h1
        rw [e2] at h2
        exact .inl (.inr ⟨q, f, h1, h2⟩)
  have hev : Evo E (callE E hp rs y nx loc) w w' := by
    refine ⟨fun q hq => .inl hq, fun q hq => ?_, fun b hb ho => ?_, fun b hb _ => hbel.block b hb, fun b cs T fz hc => ⟨cs, fz, (hbel.block b (lt_of_row hc)).trans hc, rfl⟩, hbel.size, rfl, fun b y hy => by rw [hbel.block b (lt_of_obj hy), hy]; exact OthK.same⟩
    · have hn : ¬ (nx ≤ q ∧ q < nx + nslL rs) := fun hr => hnx q hr.1 hr.2 hq
      obtain ⟨e1, e2⟩ := hout q hn
      rw [e1, e2]
      cases hx : E.ob q with
      | dead => exact .inl rfl
      | box cs => exact .inr ⟨rfl, rfl⟩
      | arr fz z e xs => exact .inr ⟨⟨rfl, rfl, rfl⟩, rfl⟩
      | lp s fr ps a b pd => exact .inr ⟨trivial, rfl⟩
    · rcases hown b ho with hb' | ⟨q, f, h1, h2, h3, _, h4⟩
      · exact hb'
      · have := hfresh q b f h3 h4
        omega
  have hlift : ∀ q, (resE S rs y nx loc).born q → (callE E hp rs y nx loc).born q ∧ (callE E hp rs y nx loc).ob q = (resE S rs y nx loc).ob q ∧ (callE E hp rs y nx loc).loc q = (resE S rs y nx loc).loc q :=
    fun q hq => ⟨.inr hq, (hin q hq.1 hq.2).1, (hin q hq.1 hq.2).2⟩
  refine hK v w' (callE E hp rs y nx loc) ?_ hev (fun q => rfl) (fun q hq => hq) (resV_lift hlift (resL_plain rs y nx) hv) hwf
  refine h.mem.step hev (fun q => nx ≤ q ∧ q < nx + nslL rs) (fun q hb hq => ?_) (fun q hq => ?_) (fun q hq => ?_) (fun p p' b f1 f2 h1 h2 h3 h4 => ?_) (fun q b f h1 h2 => ?_) hbel.os hbel.tape hbel.output
    (fun b hb _ => hbel.block b (Nat.lt_of_lt_of_le hb h.mem.size))
  · obtain ⟨e1, e2⟩ := hout q hq
    exact ⟨hb.resolve_right hq, e1, e2, fun b f hd hl => hbel.block b (h.mem.lt hd hl)⟩
  · have hR := hobs q hq
    obtain ⟨e1, e2⟩ := hin q hq.1 hq.2
    rw [e1]
    show ObOk _ w' q (fo (resO rs y nx) q)
    rcases resO_arr rs y nx q with hd | ⟨z, e, xs, hx, hflat⟩
    · rw [hd]; trivial
    · have hR' : ObOk (resE S rs y nx loc) w' q (fo (resO rs y nx) q) := hR
      rw [hx] at hR' ⊢
      obtain ⟨g1, g2⟩ := hR'
      refine ⟨g1, ?_⟩
      rw [e2]
      have g2' : match loc q with
        | none => xs = []
        | some (b, off) => ∃ vs T fzz, w'.heap[b]? = some (.cells vs T fzz) ∧ (false = false → fzz = (0, 0)) ∧ off + xs.length * e.n ≤ vs.size ∧
            ∀ i (h : i < xs.length), Rd (resE S rs y nx loc).owned w' e ((vs.toList.drop (off + i * e.n)).take e.n) xs[i] := g2
      cases hl : loc q with
      | none => rw [hl] at g2'; exact g2'
      | some p =>
        obtain ⟨b, off⟩ := p
        rw [hl] at g2'
        obtain ⟨vs, T, fzz, k1, k2, k3, k4⟩ := g2'
        refine ⟨vs, T, fzz, k1, k2, k3, fun i hi => ?_⟩
        rcases hS with hS | hS
        · exact rd_flat e _ _ (hflat hS) (k4 i hi)
        · refine Rd.mono (Nat.le_refl _) (fun b' _ hb' => ⟨rfl, fun ho => hb' ?_⟩) e _ _ (k4 i hi)
          rcases hown b' ho with h1 | ⟨q', f', h1, h2, h3, h4, h5⟩
          · exact .inl (by show S b'; rw [hS]; exact h1)
          · exact .inr ⟨q', f', h4, h5⟩
  · rcases hdec q with hr | hr
    · exact absurd (.inr hr) hq
    · rw [(hout q hr).1]
      exact h.mem.unb q fun hb => hq (.inl hb)
  · rcases hdec p with hp1 | hp1 <;> rcases hdec p' with hp2 | hp2
    · rw [(hin p hp1.1 hp1.2).1] at h1
      rw [(hin p' hp2.1 hp2.2).1] at h2
      rw [(hin p hp1.1 hp1.2).2] at h3
      rw [(hin p' hp2.1 hp2.2).2] at h4
      exact hsep p p' b f1 f2 h1 h2 h3 h4
    · rw [(hin p hp1.1 hp1.2).1] at h1
      rw [(hin p hp1.1 hp1.2).2] at h3
      rw [(hout p' hp2).1] at h2
      rw [(hout p' hp2).2] at h4
      have := hfresh p b f1 h1 h3
      have := h.mem.lt h2 h4
      omega
    · rw [(hin p' hp2.1 hp2.2).1] at h2
      rw [(hin p' hp2.1 hp2.2).2] at h4
      rw [(hout p hp1).1] at h1
      rw [(hout p hp1).2] at h3
      have := hfresh p' b f2 h2 h4
      have := h.mem.lt h1 h3
      omega
    · rw [(hout p hp1).1] at h1
      rw [(hout p' hp2).1] at h2
      rw [(hout p hp1).2] at h3
      rw [(hout p' hp2).2] at h4
      exact h.mem.sep p p' b f1 f2 h1 h2 h3 h4
  · rcases hdec q with hr | hr
    · rw [(hin q hr.1 hr.2).1] at h1
      rw [(hin q hr.1 hr.2).2] at h2
      have := hfresh q b f h1 h2
      have := h.mem.size
      exact .inl (by omega)
    · rw [(hout q hr).1] at h1
      rw [(hout q hr).2] at h2
      exact h.mem.new q b f h1 h2

end
end Go.Proofs.YtdepbfgnmliggaaGreatDoor.Sx
