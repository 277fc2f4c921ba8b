/- Every symbolic step holds of the machine: all of them in one theorem. -/
import Derived.Test.YtdepbfgnmliggaaGreatDoorSx17
namespace Go.Proofs.YtdepbfgnmliggaaGreatDoor.Sx
set_option linter.unusedSimpArgs false
set_option linter.unusedVariables false

section
variable {P : Program} {Cs : List Con} {G : Ctx} {E : Env} {w : World} {hp : List (Nat × Ob)} {nx : Nat} {fr : List SV} {a : Act}
variable {d : Option Tmp} {ty : TypeId} {pos : String} {af : Array Edge} {gd : Option (Nat × Bool)}

theorem toList_one {α : Type} {x : Array α} {y : α} (h : x.toList = [y]) : x = #[y] := by
  have := congrArg List.toArray h
  simpa using this

theorem toList_two {α : Type} {x : Array α} {y z : α} (h : x.toList = [y, z]) : x = #[y, z] := by
  have := congrArg List.toArray h
  simpa using this

theorem sCall_ok (h : Pre P G E w hp fr a) (hCs : ∀ c ∈ Cs, c.Ok P) {c : Call} {u : Up} (hs : sCall P Cs (fo hp) nx fr c = some u) (hnx : ∀ o, nx ≤ o → o < u.hi → ¬ E.born o) (howe : u.owe) :
    Land P G E w hp nx ⟨d, .call c, ty, pos, af, gd⟩ a u := by
  obtain ⟨callee, args, ats⟩ := c
  unfold sCall at hs
  simp only at hs
  split at hs
  · -- len
    rename_i x t ts ha ht
    split at hs
    · rename_i n hn
      cases hs
      rw [toList_one ha, show ats = (t :: ts).toArray by rw [← ht]]
      exact land_len h (h.pk howe) hn
    · cases hs
  · -- append
    rename_i s x t t' ha ht
    cases htt : t == t' <;> rw [htt] at hs <;> simp only [cond_true, cond_false] at hs
    · cases hs
    · split at hs
      · rename_i u' hu'
        cases hs
        have htt' : t = t' := by simpa using htt
        subst htt'
        rw [toList_two ha, toList_two ht]
        obtain ⟨h1, h2, h3⟩ := howe
        unfold sAppend at hu'
        split at hu'
        · rename_i e z hI
          split at hu'
          · rename_i xs os ys hS hX
            cases hu'
            exact land_append h (hnx nx (Nat.le_refl _) (by simp)) hI (h.pk h1) (h.pk h2) hS hX h3
          · cases hu'
        · cases hu'
      · cases hs
  · rename_i x y ha
    split at hs
    · rename_i v hv
      cases hs
      rw [toList_two ha]
      exact land_min h true (h.pk howe.1) (h.pk howe.2) hv
    · cases hs
  · rename_i x y ha
    split at hs
    · rename_i v hv
      cases hs
      rw [toList_two ha]
      exact land_min h false (h.pk howe.1) (h.pk howe.2) hv
    · cases hs
  · rename_i f
    split at hs
    · rename_i g hg
      split at hs
      · rename_i con hcon
        split at hs
        · rename_i x hx
          obtain ⟨hm, hf⟩ := findC_mem hcon
          subst hf
          split at hs
          · rename_i hsh
            cases hs
            obtain ⟨h1, h2, h3⟩ := howe
            have hfn := h.pk h1
            rw [hg] at hfn
            have := land_shr (nx := nx) (d := d) (ty := ty) (pos := pos) (af := af) (gd := gd) (ats := ats) (ow := pkP (ev fr f) ∧ pkPs fr args.toList ∧ con.pre x) h (hCs con hm) hsh hfn h2 hx h3
            simpa using this
          rename_i hsh
          cases hs
          obtain ⟨h1, h2, h3⟩ := howe
          have hfn := h.pk h1
          rw [hg] at hfn
          have := land_call (d := d) (ty := ty) (pos := pos) (af := af) (gd := gd) (ats := ats) (ow := pkP (ev fr f) ∧ pkPs fr args.toList ∧ con.pre x) h (hCs con hm) hsh hnx hfn h2 hx h3
          simpa using this
        · cases hs
      · cases hs
    · cases hs
  · cases hs

/-- What a slice may be. -/
theorem ptrB_ok {P : Program} {G : Ctx} {E : Env} {w : World} {hp : List (Nat × Ob)} {fr : List SV} {a : Act} (h : Pre P G E w hp fr a) {x : S1} {v : Value} {b : Bool} (hx : SVok E w (.s x) v) (hn : ptrB (fo hp) x = some b) :
    ∃ q, v = .pointer q ∧ b = q.isNone := by
  unfold ptrB at hn
  split at hn
  · rename_i o off
    split at hn
    · rename_i cs ho
      cases hn
      obtain ⟨_, hx⟩ := hx
      rw [(h.ob o).trans ho] at hx
      obtain ⟨b, _, e⟩ := hx
      exact ⟨_, e, rfl⟩
    · cases hn
  · rename_i o i off
    split at hn
    · rename_i fz z e xs ho
      cases hn
      obtain ⟨_, hx⟩ := hx
      rw [(h.ob o).trans ho] at hx
      obtain ⟨_, b, f, _, e⟩ := hx
      exact ⟨_, e, rfl⟩
    · cases hn
  · cases hn
    obtain ⟨b, f, us, e, _⟩ := hx
    exact ⟨_, e, rfl⟩
  · cases hn
    exact ⟨_, hx, rfl⟩
  · cases hn

theorem run_eql_ptr_none {P : Program} (w : World) {t : TypeId} {q : Option Addr} (h : isPtr P t = true) : (binOp .eql t (.pointer q) (.pointer none)).run P w = .ok (.bool q.isNone) w := by
  unfold isPtr at h
  split at h
  · rename_i e hu
    have h : ∀ d : Nat, (Op.equalIn (d + 1) t (.pointer q) (.pointer none)).run P w = .ok q.isNone w := fun d => by
      cases q <;> simp [Op.equalIn, run_underlying hu]
    simp only [binOp]
    simp [Op.equal, Op.maxDepth, h 9999]
  · cases h

theorem run_neq_ptr_none {P : Program} (w : World) {t : TypeId} {q : Option Addr} (h : isPtr P t = true) : (binOp .neq t (.pointer q) (.pointer none)).run P w = .ok (.bool (!q.isNone)) w := by
  unfold isPtr at h
  split at h
  · rename_i e hu
    have h : ∀ d : Nat, (Op.equalIn (d + 1) t (.pointer q) (.pointer none)).run P w = .ok q.isNone w := fun d => by
      cases q <;> simp [Op.equalIn, run_underlying hu]
    simp only [binOp]
    simp [Op.equal, Op.maxDepth, h 9999]
  · cases h

theorem run_eql_fn {P : Program} (w : World) {t : TypeId} {g : Fn} {xs ys : Array Value} (h : isFn P t = true) : (binOp .eql t (.func g xs ys) .nilFunc).run P w = .ok (.bool false) w := by
  unfold isFn at h
  split at h
  · rename_i ps rs v hu
    have h : ∀ d : Nat, (Op.equalIn (d + 1) t (.func g xs ys) .nilFunc).run P w = .ok false w := fun d => by
      simp [Op.equalIn, run_underlying hu]
    simp only [binOp]
    simp [Op.equal, Op.maxDepth, h 9999]
  · cases h

theorem run_neq_fn {P : Program} (w : World) {t : TypeId} {g : Fn} {xs ys : Array Value} (h : isFn P t = true) : (binOp .neq t (.func g xs ys) .nilFunc).run P w = .ok (.bool true) w := by
  unfold isFn at h
  split at h
  · rename_i ps rs v hu
    have h : ∀ d : Nat, (Op.equalIn (d + 1) t (.func g xs ys) .nilFunc).run P w = .ok false w := fun d => by
      simp [Op.equalIn, run_underlying hu]
    simp only [binOp]
    simp [Op.equal, Op.maxDepth, h 9999]
  · cases h

theorem nilB_ok {P : Program} {G : Ctx} {E : Env} {w : World} {hp : List (Nat × Ob)} {fr : List SV} {a : Act} (h : Pre P G E w hp fr a) {x : S1} {v : Value} {p : Bool × Bool} (hx : SVok E w (.s x) v) (hn : nilB (fo hp) x = some p) :
    ∃ ad n c, v = .slice ad n c ∧ (ad.isNone = true → p.1 = true) ∧ (ad.isNone = false → p.2 = true) := by
  unfold nilB at hn
  split at hn
  · cases hn
    exact ⟨none, 0, 0, hx, fun _ => rfl, fun h => (by cases h)⟩
  · cases hn
    obtain ⟨_, hx⟩ := hx
    rcases hx with ⟨ad, c, e1, rfl⟩ | ⟨b, off, c, e1, _⟩
    · simp only [List.cons.injEq, and_true] at e1
      exact ⟨ad, 0, c, e1, fun _ => rfl, fun _ => rfl⟩
    · simp only [List.cons.injEq, and_true] at e1
      exact ⟨_, _, c, e1, fun h => (by cases h), fun _ => rfl⟩
  · rename_i o lo hi
    split at hn
    · rename_i fz z e xs ho
      cases hn
      have hob : E.ob o = .arr fz z e xs := (h.ob o).trans ho
      obtain ⟨_, hx⟩ := hx
      rw [hob] at hx
      obtain ⟨h1, h2, h3⟩ := hx
      cases hl : E.loc o with
      | none =>
        rw [hl] at h3
        exact ⟨none, 0, 0, h3.1, fun _ => by simp [h3.2], fun h => (by cases h)⟩
      | some q =>
        obtain ⟨b, off⟩ := q
        rw [hl] at h3
        rcases h3 with ⟨c, cs, T, fzz, e1, _⟩ | ⟨k1, q, e1⟩
        · exact ⟨_, _, c, e1, fun h => (by cases h), fun _ => rfl⟩
        · exact ⟨q, 0, 0, e1, fun _ => by show Nat.beq (hi - lo) 0 = true; rw [show hi - lo = 0 by omega]; rfl, fun _ => rfl⟩
    · cases hn
  · cases hn

theorem step_ok (h : Pre P G E w hp fr a) (hCs : ∀ c ∈ Cs, c.Ok P) {op : Op} {u : Up} (hs : stepU P Cs (fo hp) nx fr op = some u) (hnx : ∀ o, nx ≤ o → o < u.hi → ¬ E.born o) (howe : u.owe) :
    Land P G E w hp nx ⟨d, op, ty, pos, af, gd⟩ a u := by
  cases op <;> simp only [stepU] at hs
  case move x => cases hs; exact land_move h x
  case assign x => cases hs; exact land_assign h x
  case pick c x y =>
    split at hs
    · rename_i cb hc
      split at hs
      · rename_i v hv
        cases hs
        exact land_pick h c x y hc hv howe
      · cases hs
    · cases hs
  case alloc t =>
    split at hs
    · rename_i cs hz
      cases hb : stl cs <;> rw [hb] at hs <;> simp only [cond_true, cond_false] at hs
      · cases hs
      · cases hs
        exact land_alloc h (hnx nx (Nat.le_refl _) (by simp)) hz
    · cases hs
  case box t x =>
    cases hb : (stl (pkV (ev fr x)).cells && isSA (pkV (ev fr x))) <;> rw [hb] at hs <;> simp only [cond_true, cond_false] at hs
    · cases hs
    · cases hs
      rw [Bool.and_eq_true] at hb
      obtain ⟨b, hsh⟩ : ∃ b, shape b (pkV (ev fr x)) = true := by
        cases hx : pkV (ev fr x) <;> rw [hx] at hb <;> simp [isSA] at hb
        · exact ⟨false, rfl⟩
        · exact ⟨true, rfl⟩
      exact land_box h (hnx nx (Nat.le_refl _) (by simp)) (h.pk howe) hsh hb.1
  case load t x =>
    split at hs
    · rename_i b n hI
      split at hs
      · rename_i p v hv
        cases hs
        exact land_load h hI (h.pk howe.1) hv howe.2
      · cases hs
    · cases hs
  case store t x y =>
    split at hs
    · rename_i b n hI
      cases hb : shape b (pkV (ev fr y)) <;> rw [hb] at hs <;> simp only [cond_true, cond_false] at hs
      · cases hs
      · split at hs
        · rename_i p ws hv
          cases hs
          obtain ⟨h1, h2, h3⟩ := howe
          unfold sStore at hv
          split at hv
          · rename_i o off hpx
            split at hv
            · rename_i cs hcs
              cases ht : stl (pkV (ev fr y)).cells <;> rw [ht] at hv <;> simp only [cond_true, cond_false] at hv
              · cases hv
              · cases hv
                have hx := h.pk h1
                rw [hpx] at hx
                exact land_store_box h hI hx (h.pk h2) hcs hb ht h3.1 h3.2
            · cases hv
          · rename_i o i off hpx
            split at hv
            · rename_i z e xs hcs
              split at hv
              · rename_i r hr hst
                cases hv
                have hx := h.pk h1
                rw [hpx] at hx
                exact land_store_el h hI hx (h.pk h2) hcs hb (fun _ => hst) hr h3.1 h3.2.1 h3.2.2
              · cases hv
            · cases hv
          · cases hv
        · cases hs
    · cases hs
  case binOp op t x y t' =>
    split at hs
    · rename_i p v hv
      cases hs
      obtain ⟨h1, h2, h3⟩ := howe
      unfold sBin at hv
      split at hv
      · rename_i k m k' n hx hy
        have hx' := h.pk h1
        have hy' := h.pk h2
        rw [hx] at hx'
        rw [hy] at hy'
        split at hv
        · rename_i r hsh
          cases hv
          exact land_sh h op t t' x y hx' hy' hsh h3
        cases hk : keq k k' <;> rw [hk] at hv <;> simp only [cond_true, cond_false] at hv
        · cases hv
        · have := keq_eq hk
          subst this
          exact land_binI h op t t' x y hx' hy' hv h3
      · rename_i m n hx hy
        have hx' := h.pk h1
        have hy' := h.pk h2
        rw [hx] at hx'
        rw [hy] at hy'
        exact land_binS h op t t' x y hx' hy' hv h3
      · rename_i m n hx hy
        cases hb : isBool P t <;> rw [hb] at hv <;> simp only [cond_true, cond_false] at hv
        · cases hv
        · have hx' := h.pk h1
          have hy' := h.pk h2
          rw [hx] at hx'
          rw [hy] at hy'
          cases op <;> simp only [Option.some.injEq, Prod.mk.injEq, reduceCtorEq] at hv
          · obtain ⟨_, rfl⟩ := hv; exact land_binB h _ t t' x y hx' hy' hb (.inl ⟨rfl, rfl⟩)
          · obtain ⟨_, rfl⟩ := hv; exact land_binB h _ t t' x y hx' hy' hb (.inr ⟨rfl, rfl⟩)
      · cases hv
    · split at hs
      · rename_i v hv
        cases hs
        unfold sNil at hv
        split at hv
        · rename_i z hx hy
          split at hv
          · rename_i b hI hn
            have hx' := h.pk howe.1
            have hy' := h.pk howe.2
            rw [hx] at hx'
            rw [hy] at hy'
            have e2 : a.eval y = .pointer none := hy'
            obtain ⟨q, e1, rfl⟩ := ptrB_ok h hx' hn
            cases op <;> simp only [Option.some.injEq, reduceCtorEq] at hv
            · subst hv
              exact land_val h (v := .bool q.isNone) (by simp [execOp, e1, e2, eqGuard, run_eql_ptr_none w hI]) rfl rfl trivial
            · subst hv
              exact land_val h (v := .bool (!q.isNone)) (by simp [execOp, e1, e2, eqGuard, run_neq_ptr_none w hI]) rfl rfl trivial
          · cases hv
        · rename_i f caps hx hy
          split at hv
          · rename_i hI
            have hx' := h.pk howe.1
            have hy' := h.pk howe.2
            rw [hx] at hx'
            rw [hy] at hy'
            have e2 : a.eval y = .nilFunc := hy'
            obtain ⟨vs, e1, _⟩ := hx'
            cases op <;> simp only [Option.some.injEq, reduceCtorEq] at hv
            · subst hv
              exact land_val h (v := .bool false) (by simp [execOp, e1, e2, eqGuard, run_eql_fn w hI]) rfl rfl trivial
            · subst hv
              exact land_val h (v := .bool true) (by simp [execOp, e1, e2, eqGuard, run_neq_fn w hI]) rfl rfl trivial
          · cases hv
        · rename_i z hx hy
          split at hv
          · rename_i el p hI hn
            have hx' := h.pk howe.1
            have hy' := h.pk howe.2
            rw [hx] at hx'
            rw [hy] at hy'
            have e2 : a.eval y = .slice none 0 0 := hy'
            obtain ⟨el, inf, zv, hu, _⟩ := elemI_run hI
            obtain ⟨ad, n, c, e1, k1, k2⟩ := nilB_ok h hx' hn
            cases op <;> simp only [Option.some.injEq, reduceCtorEq] at hv
            · subst hv
              exact land_val h (v := .bool ad.isNone) (by simp [execOp, e1, e2, eqGuard, Lib.run_eql_slice_nil w t el ad n c 0 0 hu]) ⟨_, rfl, k1, fun e => k2 (by cases ad <;> simp_all)⟩ rfl trivial
            · subst hv
              exact land_val h (v := .bool (!ad.isNone)) (by simp [execOp, e1, e2, eqGuard, run_neq_slice_nil_any w t el ad n c 0 0 hu]) ⟨_, rfl, fun e => k2 (by simpa using e), fun e => k1 (by simpa using e)⟩ rfl trivial
          · cases hv
        · cases hv
      · cases hs
  case unOp op t x =>
    split at hs
    · rename_i v hv
      cases hs
      exact land_un h op t x (h.pk howe) hv
    · cases hs
  case convert src dst x =>
    split at hs
    · rename_i v hv
      cases hs
      exact land_convert h (h.pk howe) hv
    · cases hs
  case extract x i =>
    split at hs
    · rename_i l hl
      split at hs
      · rename_i v hv
        cases hs
        have hx := h.pk howe
        rw [hl] at hx
        exact land_extract h hx hv
      · cases hs
    · cases hs
  case field t x f =>
    split at hs
    · rename_i l b off n hl hI
      cases hs
      have hx := h.pk howe.1
      rw [hl] at hx
      exact land_field h hx hI howe.2
    · cases hs
  case fieldAddr t x f =>
    split at hs
    · rename_i k hI
      split at hs
      · rename_i o off hl
        split at hs
        · rename_i cs hcs
          cases hs
          have hx := h.pk howe
          rw [hl] at hx
          exact land_fieldAddr h hI hx (fun v hv => pb_add ((h.ob o).trans hcs) hv)
        · cases hs
      · rename_i o i off hl
        split at hs
        · rename_i fz z e xs hcs
          cases hs
          have hx := h.pk howe
          rw [hl] at hx
          exact land_fieldAddr h hI hx (fun v hv => pe_add ((h.ob o).trans hcs) hv)
        · cases hs
      · rename_i t' x' off hl
        cases hs
        have hx := h.pk howe
        rw [hl] at hx
        exact land_fieldAddr h hI hx (fun v hv => pr_add hv)
      · cases hs
    · cases hs
  case indexAddr t x i =>
    split at hs
    · rename_i k n hi
      split at hs
      · rename_i p v hv
        cases hs
        have hy := h.pk howe.2.1
        rw [hi] at hy
        exact land_indexAddr h (h.pk howe.1) hy hv howe.2.2
      · cases hs
    · cases hs
  case index t x i =>
    split at hs
    · rename_i k n s hi hx
      cases hb : isStr P t <;> rw [hb] at hs <;> simp only [cond_true, cond_false] at hs
      · cases hs
      · cases hs
        have hx' := h.pk howe.1
        have hy' := h.pk howe.2.1
        rw [hx] at hx'
        rw [hi] at hy'
        exact land_index h hx' hy' hb howe.2.2.1 howe.2.2.2
    · cases hs
  case slice t x lo hi mx =>
    cases mx with
    | some m => simp [stepU] at hs
    | none =>
      simp only at hs
      split at hs
      · rename_i p v hv
        cases hs
        obtain ⟨h1, h2, h3⟩ := howe
        refine land_slice h (h.pk h1) (fun y hy => ?_) (fun y hy => ?_) hv h3
        · subst hy; exact h.pk h2.1
        · subst hy
          cases lo with
          | none => exact h.pk h2.1
          | some l => exact h.pk h2.2.1
      · cases hs
  case buildSlice t n ps =>
    split at hs
    · rename_i e z hI
      split at hs
      · rename_i l hl
        cases hb : (l.length == n && decide (n * e.n ≤ 16777216) && decide (n * z ≤ 140737488355328)) <;> rw [hb] at hs <;> simp only [cond_true, cond_false] at hs
        · cases hs
        · cases hs
          simp only [Bool.and_eq_true, beq_iff_eq, decide_eq_true_eq] at hb
          exact land_buildSlice h (hnx nx (Nat.le_refl _) (by simp)) hI hl hb.1.1 hb.1.2 hb.2
      · cases hs
    · cases hs
  case build t ps =>
    split at hs
    · rename_i pl cs hp' hz
      split at hs
      · rename_i l hl
        cases hs
        exact land_build h hp' hz hl
      · cases hs
    · cases hs
  case nilCheck x =>
    split at hs
    · rename_i o off hl
      split at hs
      · rename_i cs hcs
        cases hs
        have hx := h.pk howe
        rw [hl] at hx
        obtain ⟨b, q, e1, _⟩ := pb_add (k := 0) ((h.ob o).trans hcs) hx
        exact land_nilCheck h hx (.inl ⟨_, e1⟩)
      · cases hs
    · rename_i o i off hl
      split at hs
      · rename_i fz z e xs hcs
        cases hs
        have hx := h.pk howe
        rw [hl] at hx
        obtain ⟨b, q, e1, _⟩ := pe_add (k := 0) ((h.ob o).trans hcs) hx
        exact land_nilCheck h hx (.inl ⟨_, e1⟩)
      · cases hs
    · rename_i t' x' off hl
      cases hs
      have hx := h.pk howe
      rw [hl] at hx
      refine land_nilCheck h hx (.inl ?_)
      obtain ⟨b, f, us, e1, _⟩ := hx
      exact ⟨_, e1⟩
    · rename_i f caps hl
      cases hs
      have hx := h.pk howe
      rw [hl] at hx
      refine land_nilCheck h hx (.inr ?_)
      obtain ⟨vs, e1, _⟩ := hx
      exact ⟨_, _, e1⟩
    · cases hs
  case makeFunc fn first caps =>
    cases fn <;> simp only [stepU, reduceCtorEq] at hs
    rename_i f
    split at hs
    · rename_i l hf hl
      cases hb : boxes (fo hp) l <;> rw [hb] at hs <;> simp only [cond_true, cond_false] at hs
      · cases hs
      · cases hs
        exact land_makeFunc h hf hl (boxes_ok h.ob l hb)
    · cases hs
  case call c => exact sCall_ok h hCs hs hnx howe
  all_goals cases hs

end
end Go.Proofs.YtdepbfgnmliggaaGreatDoor.Sx
